/- Diff: the reference's TooLong; the laws Lines and Least: their walks. -/
import Derived.Test.YtfbjbgknfdekfaaDoorHe
import Derived.Test.YtfbjbgknfdekfaaDoorEz
namespace Go.Proofs.YtfbjbgknfdekfaaDoor
open Go.RowKit
set_option linter.unusedVariables false

theorem rowsW (s : ByteArray) (u : World) (hs : s.size ≤ 1048576) : Calls Tryd.prog 21 #[.string s] u (fun e w' => ∃ v, e = .returned v ∧ w'.ownsRow u.heap.size 9 1 v (rwS s).length (flatR fS (rwS s)) ∧ Below u.heap.size u w') := refRows_any s u hs
def TlPost (a b : ByteArray) (w : World) (e : Ending) (w' : World) : Prop := (∃ z, e = .returned (.bool z) ∧ (z = true ↔ linT a b)) ∧ Below w.heap.size w w'
set_option maxRecDepth 100000 in
set_option maxHeartbeats 4000000 in
theorem tooLong_any (a b : ByteArray) (w : World) (ha : a.size ≤ 140737488355328) (hb : b.size ≤ 140737488355328) :
    Calls Tryd.prog 18 #[.string a, .string b] w (TlPost a b w) := by
  have HB := Lib.hid (Below.refl w.heap.size w)
  by_cases h1 : 1048576 < a.size
  · have h1' : (1048576 : Int) < (a.size : Int) := by omega
    have HT := Lib.hid (show linT a b from .inl h1)
    clear h1
    go_enter Tryd.func18, Tryd.ntmps18
    go_wp2_with fail
    go_ret
    exact ⟨⟨true, rfl, fun _ => HT.out, fun _ => rfl⟩, HB.out⟩
  · have h1' : ¬ ((1048576 : Int) < (a.size : Int)) := by omega
    have h1'' : decide (1048576 < a.size) = false := decide_eq_false (by omega)
    have hi1 : decide ((1048576 : Int) < (a.size : Int)) = false := decide_eq_false (by omega)
    by_cases h2 : 1048576 < b.size
    · have h2' : (1048576 : Int) < (b.size : Int) := by omega
      have HT := Lib.hid (show linT a b from .inr (.inl h2))
      clear h1 h2
      go_enter Tryd.func18, Tryd.ntmps18
      go_wp2_with fail
      go_ret
      exact ⟨⟨true, rfl, fun _ => HT.out, fun _ => rfl⟩, HB.out⟩
    · have h2' : ¬ ((1048576 : Int) < (b.size : Int)) := by omega
      have h2'' : decide (1048576 < b.size) = false := decide_eq_false (by omega)
      have hi2 : decide ((1048576 : Int) < (b.size : Int)) = false := decide_eq_false (by omega)
      have HA := Lib.hid (fun u => rowsW a u (by omega))
      have HC := Lib.hid (fun u => rowsW b u (by omega))
      have HT := Lib.hid (show linT a b ↔ (1024 < (rwS a).length ∨ 1024 < (rwS b).length) by unfold linT; omega)
      generalize rwS a = xs at *
      generalize rwS b = ys at *
      generalize xs.length = lx at *
      generalize ys.length = ly at *
      clear h1 h2
      go_enter Tryd.func18, Tryd.ntmps18
      go_wp2_with fail
      refine (HA.out _).mono ?_; rintro e w1 ⟨v1, rfl, hown1, hb1⟩
      obtain ⟨ao1, cap1, rfl⟩ : ∃ ao cap, v1 = .slice ao lx cap := by
        rcases hown1.2 with ⟨e, e2⟩ | ⟨g, cap, cur, e, -⟩
        · exact ⟨_, _, by rw [e, e2]⟩
        · exact ⟨_, _, e⟩
      have HB1 := Lib.hid hb1
      clear hb1 hown1
      by_cases h3 : 1024 < lx
      · have h3' : (1024 : Int) < (lx : Int) := by omega
        have HT2 := Lib.hid (HT.out.2 (.inl h3))
        clear h3
        go_wp2_with fail
        go_ret
        exact ⟨⟨true, rfl, fun _ => HT2.out, fun _ => rfl⟩, HB1.out⟩
      · have h3' : ¬ ((1024 : Int) < (lx : Int)) := by omega
        have h3'' : decide (1024 < lx) = false := decide_eq_false (by omega)
        have hi3 : decide ((1024 : Int) < (lx : Int)) = false := decide_eq_false (by omega)
        have HL3 := Lib.hid h3
        clear h3
        go_wp2_with fail
        refine (HC.out _).mono ?_; rintro e w2 ⟨v2, rfl, hown2, hb2⟩
        obtain ⟨ao2, cap2, rfl⟩ : ∃ ao cap, v2 = .slice ao ly cap := by
          rcases hown2.2 with ⟨e, e2⟩ | ⟨g, cap, cur, e, -⟩
          · exact ⟨_, _, by rw [e, e2]⟩
          · exact ⟨_, _, e⟩
        have HB2 := Lib.hid (below_two HB1.out hb2)
        clear hb2 hown2
        by_cases h4 : 1024 < ly
        · have h4' : (1024 : Int) < (ly : Int) := by omega
          have HT2 := Lib.hid (HT.out.2 (.inr h4))
          clear h4
          go_wp2_with fail
          go_ret
          exact ⟨⟨true, rfl, fun _ => HT2.out, fun _ => rfl⟩, HB2.out⟩
        · have h4' : ¬ ((1024 : Int) < (ly : Int)) := by omega
          have h4'' : decide (1024 < ly) = false := decide_eq_false (by omega)
          have hi4 : decide ((1024 : Int) < (ly : Int)) = false := decide_eq_false (by omega)
          have HT2 := Lib.hid (show ¬ linT a b from fun h => by
            rcases HT.out.1 h with h | h
            · exact HL3.out h
            · exact h4 h)
          clear h4
          go_wp2_with fail
          go_ret
          exact ⟨⟨false, rfl, ⟨fun h => (by cases h), fun h => absurd h HT2.out⟩⟩, HB2.out⟩

set_option maxRecDepth 100000 in
set_option maxHeartbeats 8000000 in
theorem lines_law (a b : ByteArray) (w : World) (ha : a.size ≤ 140737488355328) (hb : b.size ≤ 140737488355328) : Calls Tryd.prog 5 #[.string a, .string b] w fun e w' => e = .returned (.bool true) ∧ Below w.heap.size w w' := by
  have HLN := Lib.hid (lines_all a b w ha hb)
  have HTL := Lib.hid (fun u => tooLong_any a b u ha hb)
  by_cases hT : linT a b
  · as_aux_lemma =>
    rw [linL_yes hT, linE_yes hT] at HLN
    have HT := Lib.hid hT
    clear hT
    go_enter Tryd.func5, Tryd.ntmps5
    go_wp2_with fail
    refine (HLN.out).mono ?_; rintro e w1 ⟨v1, rfl, hown1, hb1⟩
    obtain ⟨ao1, cap1, rfl, -, -, -⟩ := IsR.owned (f := fP) (s := 3) fP_len (l := []) (n := ([] : List Pc).length) rfl hown1
    have HB1 := Lib.hid hb1
    clear hown1 hb1 HLN
    go_wp2_with fail
    refine (HTL.out _).mono ?_; rintro e w2 ⟨⟨z, rfl, hz⟩, hb2⟩
    have HB2 := Lib.hid (below_two HB1.out hb2)
    obtain rfl : z = true := hz.2 HT.out
    clear hz hb2
    have HK := Lib.hid (known_any w2)
    go_wp2_with fail
    refine (HK.out).mono ?_; rintro e w3 ⟨rfl, hb3⟩
    have HB3 := Lib.hid (below_two HB2.out hb3)
    clear hb3
    go_wp2_with fail
    go_ret
    exact ⟨rfl, HB3.out⟩
  · as_aux_lemma =>
    have hk := lin_ok hT
    have HBY := Lib.hid (lin_byB hT)
    have HNB := Lib.hid (show normalB (linL a b) = true by unfold normalB; rw [if_pos hk.check, hk.form]; exact decide_eq_true rfl)
    have HLEN := Lib.hid hk.len
    have HCK := Lib.hid hk.check
    have HCO := Lib.hid hk.cost
    have HNT := Lib.hid hT
    have hS : a.size ≤ 1048576 ∧ b.size ≤ 1048576 ∧ (rwS a).length ≤ 1024 ∧ (rwS b).length ≤ 1024 := by
      unfold linT at hT
      omega
    have HRA := Lib.hid (fun u => rowsW a u hS.1)
    have HRB := Lib.hid (fun u => rowsW b u hS.2.1)
    have HLE := Lib.hid (fun u => refLeast_any a b u hS.1 hS.2.1 hS.2.2.1 hS.2.2.2)
    rw [linE_no hT] at HLN
    rw [← HCO.out] at HLE
    generalize linL a b = l at *
    generalize rwS a = xs at *
    generalize rwS b = ys at *
    clear hk hT hS
    go_enter Tryd.func5, Tryd.ntmps5
    go_wp2_with fail
    refine (HLN.out).mono ?_; rintro e w1 ⟨v1, rfl, hown1, hb1⟩
    obtain ⟨ao1, cap1, rfl, hr1, -, -⟩ := IsR.owned (f := fP) (s := 3) fP_len (l := l) (n := l.length) rfl hown1
    have HB1 := Lib.hid hb1
    have HR1 := Lib.hid hr1
    clear hown1 hb1 HLN hr1
    go_wp2_with fail
    refine (HTL.out _).mono ?_; rintro e w2 ⟨⟨z, rfl, hz⟩, hb2⟩
    have HB2 := Lib.hid (below_two HB1.out hb2)
    have HR2 := Lib.hid (HR1.out.later hb2)
    obtain rfl : z = false := Bool.eq_false_iff.2 fun h => HNT.out (hz.1 h)
    clear hz hb2
    have HN := Lib.hid (show Calls Tryd.prog 19 #[.slice ao1 l.length cap1] w2 fun e w' => e = .returned (.bool true) ∧ Below w2.heap.size w2 w' by have h := refNormal_any ao1 l.length cap1 l w2 HR2.out (by have := HLEN.out; omega); rw [HNB.out] at h; exact h)
    go_wp2_with fail
    refine (HN.out).mono ?_; rintro e w3 ⟨rfl, hb3⟩
    have HB3 := Lib.hid (below_two HB2.out hb3)
    have HR3 := Lib.hid (HR2.out.later hb3)
    clear hb3
    have HY := Lib.hid (show Calls Tryd.prog 20 #[.string a, .string b, .slice ao1 l.length cap1] w3 fun e w' => e = .returned (.bool true) ∧ Below w3.heap.size w3 w' by have h := refByLines_any a b ao1 l.length cap1 l w3 HR3.out (by have := HLEN.out; omega); rw [HBY.out] at h; exact h)
    go_wp2_with fail
    refine (HY.out).mono ?_; rintro e w4 ⟨rfl, hb4⟩
    have HB4 := Lib.hid (below_two HB3.out hb4)
    have HR4 := Lib.hid (HR3.out.later hb4)
    clear hb4
    generalize xs.length = lx at *
    generalize ys.length = ly at *
    go_wp2_with fail
    refine (HRA.out _).mono ?_; rintro e w5 ⟨v5, rfl, hown5, hb5⟩
    obtain ⟨ao5, cap5, rfl⟩ : ∃ ao cap, v5 = .slice ao lx cap := by
      rcases hown5.2 with ⟨e, e2⟩ | ⟨g, cap, cur, e, -⟩
      · exact ⟨_, _, by rw [e, e2]⟩
      · exact ⟨_, _, e⟩
    have HB5 := Lib.hid (below_two HB4.out hb5)
    have HR5 := Lib.hid (HR4.out.later hb5)
    clear hb5 hown5
    by_cases h1 : 200 < lx
    · have h1' : (200 : Int) < (lx : Int) := by omega
      clear h1
      have HK := Lib.hid (known_any w5)
      go_wp2_with fail
      refine (HK.out).mono ?_; rintro e w6 ⟨rfl, hb6⟩
      have HB6 := Lib.hid (below_two HB5.out hb6)
      clear hb6
      go_wp2_with fail
      go_ret
      exact ⟨rfl, HB6.out⟩
    · have h1' : ¬ ((200 : Int) < (lx : Int)) := by omega
      have h1'' : decide (200 < lx) = false := decide_eq_false (by omega)
      have hi1 : decide ((200 : Int) < (lx : Int)) = false := decide_eq_false (by omega)
      clear h1
      go_wp2_with fail
      refine (HRB.out _).mono ?_; rintro e w6 ⟨v6, rfl, hown6, hb6⟩
      obtain ⟨ao6, cap6, rfl⟩ : ∃ ao cap, v6 = .slice ao ly cap := by
        rcases hown6.2 with ⟨e, e2⟩ | ⟨g, cap, cur, e, -⟩
        · exact ⟨_, _, by rw [e, e2]⟩
        · exact ⟨_, _, e⟩
      have HB6 := Lib.hid (below_two HB5.out hb6)
      have HR6 := Lib.hid (HR5.out.later hb6)
      clear hb6 hown6
      by_cases h2 : 200 < ly
      · have h2' : (200 : Int) < (ly : Int) := by omega
        clear h2
        have HK := Lib.hid (known_any w6)
        go_wp2_with fail
        refine (HK.out).mono ?_; rintro e w7 ⟨rfl, hb7⟩
        have HB7 := Lib.hid (below_two HB6.out hb7)
        clear hb7
        go_wp2_with fail
        go_ret
        exact ⟨rfl, HB7.out⟩
      · have h2' : ¬ ((200 : Int) < (ly : Int)) := by omega
        have h2'' : decide (200 < ly) = false := decide_eq_false (by omega)
        have hi2 : decide ((200 : Int) < (ly : Int)) = false := decide_eq_false (by omega)
        clear h2
        have HC := Lib.hid (show Calls Tryd.prog 22 #[.slice ao1 l.length cap1] w6 fun e w' => e = .returned (.tuple #[.int .i64 (costP l : Nat), .int .i64 0]) ∧ Below w6.heap.size w6 w' by have h := refCost_any ao1 l.length cap1 l w6 HR6.out (by have := HLEN.out; omega); rw [HCK.out] at h; exact h)
        go_wp2_with fail
        refine (HC.out).mono ?_; rintro e w7 ⟨rfl, hb7⟩
        have HB7 := Lib.hid (below_two HB6.out hb7)
        clear hb7
        go_wp2_with fail
        refine (HLE.out _).mono ?_; rintro e w8 ⟨rfl, hb8⟩
        have HB8 := Lib.hid (below_two HB7.out hb8)
        clear hb8
        have HK := Lib.hid (known_any w8)
        go_wp2_with fail
        refine (HK.out).mono ?_; rintro e w9 ⟨rfl, hb9⟩
        have HB9 := Lib.hid (below_two HB8.out hb9)
        clear hb9
        go_wp2_with fail
        go_ret
        exact ⟨rfl, HB9.out⟩

set_option maxRecDepth 100000 in
set_option maxHeartbeats 8000000 in
theorem least_law (a b : ByteArray) (ao : Option Addr) (n c : Nat) (l : List Pc) (w : World) (ha : a.size ≤ 140737488355328) (hb : b.size ≤ 140737488355328) (h : IsR fP w ao n l) (hnc : ao = none → n = 0 ∧ c = 0) (hn : n * 32 ≤ 140737488355328) : Calls Tryd.prog 8 #[.string a, .string b, .slice ao n c] w fun e w' => e = .returned (.bool true) ∧ Below w.heap.size w w' := by
  obtain ⟨i0, hi0, hz0, hz1, hz2⟩ := info_parts infoPc
  have hl := h.1
  have HR := Lib.hid h
  have HLN := Lib.hid (lines_all a b w ha hb)
  have HNN := Lib.hid hnc
  subst hl
  clear h hnc
  by_cases hT : linT a b
  · as_aux_lemma =>
    rw [linL_yes hT, linE_yes hT] at HLN
    clear hT
    go_enter Tryd.func8, Tryd.ntmps8
    go_wp2_with fail
    refine (HLN.out).mono ?_; rintro e w1 ⟨v1, rfl, hown1, hb1⟩
    have HB1 := Lib.hid hb1
    clear hown1 hb1 HLN
    have HK := Lib.hid (known_any w1)
    go_wp2_with fail
    refine (HK.out).mono ?_; rintro e w2 ⟨rfl, hb2⟩
    have HB2 := Lib.hid (below_two HB1.out hb2)
    clear hb2
    go_wp2_with fail
    go_ret
    exact ⟨rfl, HB2.out⟩
  · have hk := lin_ok hT
    have HLEN := Lib.hid hk.len
    have HCK := Lib.hid hk.check
    have HCO := Lib.hid hk.cost
    rw [linE_no hT] at HLN
    generalize linL a b = m at *
    have HBY := Lib.hid (fun (u : World) (hu : IsR fP u ao l.length l) => refByLines_any a b ao l.length c l u hu (by omega))
    by_cases hB : byB a b l = true
    · have HCB := Lib.hid (byB_cost hB)
      rw [hB] at HBY
      clear hB hk hT
      have hle : costP m ≤ costP l := by rw [HCO.out]; exact HCB.out.2
      have hlm := cost_most2 m
      have hll := cost_most2 l
      have HCL := Lib.hid (fun (u : World) (ax : Option Addr) (cx : Nat) (hu : IsR fP u ax l.length l) => show Calls Tryd.prog 24 #[.slice ax l.length cx] u fun e w' => e = .returned (.tuple #[.int .i64 (costP l : Nat), .int .i64 0]) ∧ Below u.heap.size u w' by have h := cost_any ax l.length cx l u hu (by omega); rw [HCB.out.1] at h; exact h)
      have HCM := Lib.hid (fun (u : World) (ax : Option Addr) (cx : Nat) (hu : IsR fP u ax m.length m) => show Calls Tryd.prog 24 #[.slice ax m.length cx] u fun e w' => e = .returned (.tuple #[.int .i64 (costP m : Nat), .int .i64 0]) ∧ Below u.heap.size u w' by have h := cost_any ax m.length cx m u hu (by have := HLEN.out; omega); rw [HCK.out] at h; exact h)
      generalize costP m = x at *
      generalize costP l = y at *
      have hle' : (x : Int) ≤ (y : Int) := by omega
      go_enter Tryd.func8, Tryd.ntmps8
      go_wp2_with fail
      refine (HLN.out).mono ?_; rintro e w1 ⟨v1, rfl, hown1, hb1⟩
      obtain ⟨ao1, cap1, rfl, hr1, -, -⟩ := IsR.owned (f := fP) (s := 3) fP_len (l := m) (n := m.length) rfl hown1
      have HB1 := Lib.hid hb1
      have HM1 := Lib.hid hr1
      have HR1 := Lib.hid (HR.out.later hb1)
      clear hown1 hb1 HLN hr1
      go_wp2_with fail
      refine (HBY.out w1 HR1.out).mono ?_; rintro e w2 ⟨rfl, hb2⟩
      have HB2 := Lib.hid (below_two HB1.out hb2)
      have HM2 := Lib.hid (HM1.out.later hb2)
      have HR2 := Lib.hid (HR1.out.later hb2)
      clear hb2
      go_wp2_with fail
      refine (HCM.out w2 ao1 cap1 HM2.out).mono ?_; rintro e w3 ⟨rfl, hb3⟩
      have HB3 := Lib.hid (below_two HB2.out hb3)
      have HR3 := Lib.hid (HR2.out.later hb3)
      clear hb3
      have HOW := Lib.hid (own_empty w3)
      have HB0 := Lib.hid ((Below.refl w3.heap.size w3).alloc (Nat.le_refl _) (.cells #[] 45))
      have HRR := Lib.hid (HR3.out.later HB0.out)
      rcases ao with _ | ad
      · as_aux_lemma =>
        obtain ⟨hn0, hc0⟩ := HNN.out rfl
        obtain rfl : l = [] := List.eq_nil_of_length_eq_zero hn0
        subst hc0
        obtain ⟨w4, hw4⟩ : ∃ w4, w4 = w3.alloc (.cells #[] 45) := ⟨_, rfl⟩
        have HX4 := Lib.hid (show IsR fP w4 (some ⟨w3.heap.size, 0, none⟩) 0 [] from IsR.nil _ _ _)
        have HB4 := Lib.hid (below_two HB3.out (show Below w3.heap.size w3 w4 by rw [hw4]; exact HB0.out))
        have hl0 : ([] : List Pc).length = 0 := rfl
        have HCL4 := Lib.hid (show Calls Tryd.prog 24 #[.slice (some ⟨w3.heap.size, 0, none⟩) 0 0] w4 fun e w' => e = .returned (.tuple #[.int .i64 (y : Nat), .int .i64 0]) ∧ Below w4.heap.size w4 w' from HCL.out w4 (some ⟨w3.heap.size, 0, none⟩) 0 HX4.out)
        clear hn0
        go_wp2_with fail
        rw [← hw4]
        clear hw4 HOW HRR HB0
        refine (HCL4.out).mono ?_; rintro e w5 ⟨rfl, hb5⟩
        have HB5 := Lib.hid (below_two HB4.out hb5)
        clear hb5
        have HK := Lib.hid (known_any w5)
        go_wp2_with fail
        refine (HK.out).mono ?_; rintro e w6 ⟨rfl, hb6⟩
        have HB6 := Lib.hid (below_two HB5.out hb6)
        clear hb6
        go_wp2_with fail
        go_ret
        exact ⟨rfl, HB6.out⟩
      · as_aux_lemma =>
        have HN := Lib.hid (show ∀ j u, (flatR fP l)[j]? = some u → (w3.alloc (.cells #[] 45)).cell? (ad.add j) = some u from fun j u hj => by
          by_cases h0 : 0 < l.length
          · exact HRR.out.news h0 j u hj
          · obtain rfl : l = [] := List.eq_nil_of_length_eq_zero (by omega)
            simp [flatR] at hj)
        have HL := Lib.hid (show (flatR fP l).length = l.length * 3 by rw [flatR_len fP_len])
        go_wp2_with (at_builtin; go_loud (refine wpList_append_own _ rfl _ _ 26 rfl w3.heap.size 45 i0 (.agg #[.int .u8 0, .int .i64 0, .string ByteArray.empty]) 3 32 Tryd.underlying26 hi0 hz0 hz1 hz2 rfl (by decide) _ 0 (flatR fP []) rfl HOW.out ad l.length c (flatR fP l) rfl HL.out HN.out (flatP_one l) (by unfold maxLen; omega) (by omega) (by simp) ?c1))
        case c1 =>
          intro v4 w4 hown4 hgrow4 hnil4
          have hO4 : w4.ownsRow w3.heap.size 45 3 v4 l.length (flatR fP l) := own_len hown4 (by omega)
          have HB4 := Lib.hid (below_two HB3.out (HB0.out.grown hgrow4 (by simp) fun q hq => (own_typS HOW.out hq).1))
          obtain ⟨aox, capx, rfl, hr4, hncx, hg4⟩ := IsR.owned (f := fP) (s := 3) fP_len (l := l) (n := l.length) rfl hO4
          have HX4 := Lib.hid hr4
          clear hown4 hgrow4 hnil4 hO4 hr4 hncx hg4
          go_wp2_with fail
          refine (HCL.out w4 aox capx HX4.out).mono ?_; rintro e w5 ⟨rfl, hb5⟩
          have HB5 := Lib.hid (below_two HB4.out hb5)
          clear hb5
          have HK := Lib.hid (known_any w5)
          go_wp2_with fail
          refine (HK.out).mono ?_; rintro e w6 ⟨rfl, hb6⟩
          have HB6 := Lib.hid (below_two HB5.out hb6)
          clear hb6
          go_wp2_with fail
          go_ret
          exact ⟨rfl, HB6.out⟩
    · as_aux_lemma =>
      rw [Bool.eq_false_iff.2 hB] at HBY
      clear hB hk hT
      go_enter Tryd.func8, Tryd.ntmps8
      go_wp2_with fail
      refine (HLN.out).mono ?_; rintro e w1 ⟨v1, rfl, hown1, hb1⟩
      have HB1 := Lib.hid hb1
      have HR1 := Lib.hid (HR.out.later hb1)
      clear hown1 hb1 HLN
      go_wp2_with fail
      refine (HBY.out w1 HR1.out).mono ?_; rintro e w2 ⟨rfl, hb2⟩
      have HB2 := Lib.hid (below_two HB1.out hb2)
      clear hb2
      have HK := Lib.hid (known_any w2)
      go_wp2_with fail
      refine (HK.out).mono ?_; rintro e w3 ⟨rfl, hb3⟩
      have HB3 := Lib.hid (below_two HB2.out hb3)
      clear hb3
      go_wp2_with fail
      go_ret
      exact ⟨rfl, HB3.out⟩
end Go.Proofs.YtfbjbgknfdekfaaDoor
