/- Diff: the laws Common, Between, Costs, Distance: their walks. -/
import Derived.Test.YtfbjbgknfdekfaaDoorEy
import Derived.Test.YtfbjbgknfdekfaaDoorDn
namespace Go.Proofs.YtfbjbgknfdekfaaDoor
open Go.RowKit
set_option linter.unusedVariables false

theorem refSame_self (ao bo : Option Addr) (n c m d : Nat) (a : List Pc) (w : World) (h : IsR fP w ao n a) (k : IsR fP w bo m a) (hn : n ≤ 9223372036854775807) :
    Calls Tryd.prog 16 #[.slice ao n c, .slice bo m d] w fun e w' => e = .returned (.bool true) ∧ Below w.heap.size w w' := by
  have h := refSame_any ao bo n c m d a a w h k hn
  rw [show sameL a a = true from decide_eq_true rfl] at h
  exact h
theorem betR_len (a b : ByteArray) : (betR a b).1.length ≤ 9223372036854775807 := by
  unfold betR
  by_cases h : 1048576 < a.size ∨ 1048576 < b.size
  · rw [if_pos h]; exact Nat.zero_le _
  · rw [if_neg h]
    have h1 := len_formP (betL a b)
    have h2 := (bet_props (a := a) (b := b) (by omega) (by omega)).1
    show (formP (betL a b)).length ≤ _
    omega
theorem linL_len (a b : ByteArray) : (linL a b).length ≤ 2048 := by
  by_cases h : linT a b
  · rw [linL_yes h]; exact Nat.zero_le _
  · exact (lin_ok h).len

set_option maxRecDepth 100000 in
set_option maxHeartbeats 4000000 in
theorem common_law (a b : ByteArray) (w : World) (ha : a.size ≤ 140737488355328) (hb : b.size ≤ 140737488355328) : Calls Tryd.prog 3 #[.string a, .string b] w fun e w' => e = .returned (.bool true) ∧ Below w.heap.size w w' := by
  go_enter Tryd.func3, Tryd.ntmps3
  have HC1 := Lib.hid (common_any a b w ha hb)
  go_wp2_with fail
  refine (HC1.out).mono ?_; rintro e w1 ⟨rfl, hb1⟩
  have HB1 := Lib.hid (below_two (Below.refl w.heap.size w) hb1)
  clear hb1 HC1
  have HC2 := Lib.hid (refCommon_any a b w1 ha hb)
  go_wp2_with fail
  refine (HC2.out).mono ?_; rintro e w2 ⟨rfl, hb2⟩
  have HB2 := Lib.hid (below_two HB1.out hb2)
  clear hb2 HC2
  have HC3 := Lib.hid (known_any w2)
  go_wp2_with fail
  refine (HC3.out).mono ?_; rintro e w3 ⟨rfl, hb3⟩
  have HB3 := Lib.hid (below_two HB2.out hb3)
  clear hb3 HC3
  go_wp2_with fail
  go_ret
  exact ⟨rfl, HB3.out⟩

set_option maxRecDepth 100000 in
set_option maxHeartbeats 4000000 in
theorem between_law (a b : ByteArray) (w : World) (ha : a.size ≤ 140737488355328) (hb : b.size ≤ 140737488355328) : Calls Tryd.prog 4 #[.string a, .string b] w fun e w' => e = .returned (.bool true) ∧ Below w.heap.size w w' := by
  have HL := Lib.hid (betR_len a b)
  have HC := Lib.hid (fun u => between_any a b u ha hb)
  have HD := Lib.hid (fun u => refBetween_any a b u ha hb)
  generalize betR a b = r at *
  obtain ⟨l, x⟩ := r
  replace HL := Lib.hid (show l.length ≤ 9223372036854775807 from HL.out)
  go_enter Tryd.func4, Tryd.ntmps4
  have HC1 := Lib.hid (show Calls _ _ _ w (Rowed w l x) from HC.out w)
  go_wp2_with fail
  refine (HC1.out).mono ?_; rintro e w1 ⟨v1, rfl, hown1, hb1⟩
  have HB1 := Lib.hid (below_two (Below.refl w.heap.size w) hb1)
  obtain ⟨aox, capx, rfl, hr1, hncx, hg1⟩ := IsR.owned (f := fP) (s := 3) fP_len (l := l) (n := (l).length) rfl hown1
  have Hx1 := Lib.hid hr1
  have HNx := Lib.hid hncx
  clear hb1 HC1 hown1 hr1 hg1 hncx
  have HC2 := Lib.hid (show Calls _ _ _ w1 (Rowed w1 l x) from HD.out w1)
  go_wp2_with fail
  refine (HC2.out).mono ?_; rintro e w2 ⟨v2, rfl, hown2, hb2⟩
  have HB2 := Lib.hid (below_two HB1.out hb2)
  have Hx2 := Lib.hid (Hx1.out.later hb2)
  obtain ⟨aoy, capy, rfl, hr2, hncy, hg2⟩ := IsR.owned (f := fP) (s := 3) fP_len (l := l) (n := (l).length) rfl hown2
  have Hy2 := Lib.hid hr2
  have HNy := Lib.hid hncy
  clear hb2 HC2 hown2 hr2 hg2 hncy
  have HC3 := Lib.hid (refSame_self aox aoy l.length capx l.length capy l w2 Hx2.out Hy2.out HL.out)
  go_wp2_with fail
  refine (HC3.out).mono ?_; rintro e w3 ⟨rfl, hb3⟩
  have HB3 := Lib.hid (below_two HB2.out hb3)
  have Hx3 := Lib.hid (Hx2.out.later hb3)
  have Hy3 := Lib.hid (Hy2.out.later hb3)
  clear hb3 HC3
  have HC4 := Lib.hid (known_any w3)
  go_wp2_with fail
  refine (HC4.out).mono ?_; rintro e w4 ⟨rfl, hb4⟩
  have HB4 := Lib.hid (below_two HB3.out hb4)
  have Hx4 := Lib.hid (Hx3.out.later hb4)
  have Hy4 := Lib.hid (Hy3.out.later hb4)
  clear hb4 HC4
  go_wp2_with fail
  go_ret
  exact ⟨rfl, HB4.out⟩

set_option maxRecDepth 100000 in
set_option maxHeartbeats 4000000 in
theorem costs_law (ao : Option Addr) (n c : Nat) (l : List Pc) (w : World) (h : IsR fP w ao n l) (hnc : ao = none → n = 0 ∧ c = 0) (hn : n * 32 ≤ 140737488355328) : Calls Tryd.prog 6 #[.slice ao n c] w fun e w' => e = .returned (.bool true) ∧ Below w.heap.size w w' := by
  obtain ⟨i0, hi0, hz0, hz1, hz2⟩ := info_parts infoPc
  have hl := h.1
  have HOW := Lib.hid (own_empty w)
  have HB0 := Lib.hid ((Below.refl w.heap.size w).alloc (Nat.le_refl _) (.cells #[] 45))
  have HR := Lib.hid (h.later HB0.out)
  have Hd0 := Lib.hid h
  subst hl
  clear h
  rcases ao with _ | ad
  · obtain ⟨hn0, hc0⟩ := hnc rfl
    obtain rfl : l = [] := List.eq_nil_of_length_eq_zero hn0
    subst hc0
    clear hnc hn0 hn
    obtain ⟨w1, hw1⟩ : ∃ w1, w1 = w.alloc (.cells #[] 45) := ⟨_, rfl⟩
    have Hd1 := Lib.hid (show IsR fP w1 none 0 [] by rw [hw1]; exact HR.out)
    have Hx1 := Lib.hid (show IsR fP w1 (some ⟨w.heap.size, 0, none⟩) 0 [] from IsR.nil _ _ _)
    have HB1 := Lib.hid (show Below w.heap.size w w1 by rw [hw1]; exact HB0.out)
    go_enter Tryd.func6, Tryd.ntmps6
    go_wp2_with fail
    rw [← hw1]
    clear hw1 HOW HR HB0 Hd0
    have hl0 : ([] : List Pc).length = 0 := rfl
    have HC2 := Lib.hid (cost_any (some ⟨w.heap.size, 0, none⟩) 0 0 [] w1 Hx1.out (by omega))
    go_wp2_with fail
    refine (HC2.out).mono ?_; rintro e w2 ⟨rfl, hb2⟩
    have HB2 := Lib.hid (below_two HB1.out hb2)
    have Hx2 := Lib.hid (Hx1.out.later hb2)
    have Hd2 := Lib.hid (Hd1.out.later hb2)
    clear hb2 HC2
    have HC3 := Lib.hid (refCost_any none 0 0 [] w2 Hd2.out (by omega))
    go_wp2_with fail
    refine (HC3.out).mono ?_; rintro e w3 ⟨rfl, hb3⟩
    have HB3 := Lib.hid (below_two HB2.out hb3)
    have Hx3 := Lib.hid (Hx2.out.later hb3)
    have Hd3 := Lib.hid (Hd2.out.later hb3)
    clear hb3 HC3
    have HC4 := Lib.hid (refSame_self (some ⟨w.heap.size, 0, none⟩) none 0 0 0 0 [] w3 Hx3.out Hd3.out (by omega))
    go_wp2_with fail
    refine (HC4.out).mono ?_; rintro e w4 ⟨rfl, hb4⟩
    have HB4 := Lib.hid (below_two HB3.out hb4)
    have Hx4 := Lib.hid (Hx3.out.later hb4)
    have Hd4 := Lib.hid (Hd3.out.later hb4)
    clear hb4 HC4
    have HC5 := Lib.hid (known_any w4)
    go_wp2_with fail
    refine (HC5.out).mono ?_; rintro e w5 ⟨rfl, hb5⟩
    have HB5 := Lib.hid (below_two HB4.out hb5)
    have Hx5 := Lib.hid (Hx4.out.later hb5)
    have Hd5 := Lib.hid (Hd4.out.later hb5)
    clear hb5 HC5
    go_wp2_with fail
    go_ret
    exact ⟨rfl, HB5.out⟩
  · have HN := Lib.hid (show ∀ j u, (flatR fP l)[j]? = some u → (w.alloc (.cells #[] 45)).cell? (ad.add j) = some u from fun j u hj => by
      by_cases h0 : 0 < l.length
      · exact HR.out.news h0 j u hj
      · obtain rfl : l = [] := List.eq_nil_of_length_eq_zero (by omega)
        simp [flatR] at hj)
    have HL := Lib.hid (show (flatR fP l).length = l.length * 3 by rw [flatR_len fP_len])
    have HNN := Lib.hid hnc
    clear hnc
    go_enter Tryd.func6, Tryd.ntmps6
    go_wp2_with (at_builtin; go_loud (refine wpList_append_own _ rfl _ _ 26 rfl w.heap.size 45 i0 (.agg #[.int .u8 0, .int .i64 0, .string ByteArray.empty]) 3 32 Tryd.underlying26 hi0 hz0 hz1 hz2 rfl (by decide) _ 0 (flatR fP []) rfl HOW.out ad l.length c (flatR fP l) rfl HL.out HN.out (flatP_one l) (by unfold maxLen; omega) (by omega) (by simp) ?c1))
    case c1 =>
      intro v4 w1 hown4 hgrow4 hnil4
      have hO4 : w1.ownsRow w.heap.size 45 3 v4 l.length (flatR fP l) := own_len hown4 (by omega)
      have HB1 := Lib.hid (HB0.out.grown hgrow4 (by simp) fun q hq => (own_typS HOW.out hq).1)
      obtain ⟨aox, capx, rfl, hr1, hncx, hg1⟩ := IsR.owned (f := fP) (s := 3) fP_len (l := l) (n := l.length) rfl hO4
      have Hx1 := Lib.hid hr1
      have Hd1 := Lib.hid (Hd0.out.later HB1.out)
      clear hown4 hgrow4 hnil4 hO4 hr1 hncx hg1
      have HC2 := Lib.hid (cost_any aox l.length capx l w1 Hx1.out (by omega))
      go_wp2_with fail
      refine (HC2.out).mono ?_; rintro e w2 ⟨rfl, hb2⟩
      have HB2 := Lib.hid (below_two HB1.out hb2)
      have Hx2 := Lib.hid (Hx1.out.later hb2)
      have Hd2 := Lib.hid (Hd1.out.later hb2)
      clear hb2 HC2
      have HC3 := Lib.hid (refCost_any (some ad) l.length c l w2 Hd2.out (by omega))
      go_wp2_with fail
      refine (HC3.out).mono ?_; rintro e w3 ⟨rfl, hb3⟩
      have HB3 := Lib.hid (below_two HB2.out hb3)
      have Hx3 := Lib.hid (Hx2.out.later hb3)
      have Hd3 := Lib.hid (Hd2.out.later hb3)
      clear hb3 HC3
      have HC4 := Lib.hid (refSame_self aox (some ad) l.length capx l.length c l w3 Hx3.out Hd3.out (by omega))
      go_wp2_with fail
      refine (HC4.out).mono ?_; rintro e w4 ⟨rfl, hb4⟩
      have HB4 := Lib.hid (below_two HB3.out hb4)
      have Hx4 := Lib.hid (Hx3.out.later hb4)
      have Hd4 := Lib.hid (Hd3.out.later hb4)
      clear hb4 HC4
      have HC5 := Lib.hid (known_any w4)
      go_wp2_with fail
      refine (HC5.out).mono ?_; rintro e w5 ⟨rfl, hb5⟩
      have HB5 := Lib.hid (below_two HB4.out hb5)
      have Hx5 := Lib.hid (Hx4.out.later hb5)
      have Hd5 := Lib.hid (Hd4.out.later hb5)
      clear hb5 HC5
      go_wp2_with fail
      go_ret
      exact ⟨rfl, HB5.out⟩
theorem linE_or (a b : ByteArray) : (linE a b = 0 ∧ ¬ linT a b) ∨ (linE a b = 5 ∧ linT a b) := by
  by_cases h : linT a b
  · exact .inr ⟨linE_yes h, h⟩
  · exact .inl ⟨linE_no h, h⟩
theorem cost_most2 (l : List Pc) : costP l ≤ 2097152 := by
  unfold costP
  by_cases h : checkP l = 0
  · rw [if_pos h]
    have := cost_most h l.length
    rw [List.take_length] at this
    exact this
  · rw [if_neg h]; exact Nat.zero_le _
theorem dist_facts (a b c : ByteArray) : linE a b = 0 → linE b c = 0 → linE a c = 0 →
    (costP (linL a b) = costP (linL b a)) ∧ (costP (linL a b) ≤ a.size + b.size) ∧ (costP (linL a b) = 0 ↔ a = b) ∧ (costP (linL a c) ≤ costP (linL a b) + costP (linL b c)) ∧ checkP (linL a b) = 0 ∧ checkP (linL b a) = 0 ∧ checkP (linL b c) = 0 ∧ checkP (linL a c) = 0 := by
  intro h1 h2 h3
  have g1 : ¬ linT a b := fun h => by rw [linE_yes h] at h1; exact absurd h1 (by decide)
  have g2 : ¬ linT b c := fun h => by rw [linE_yes h] at h2; exact absurd h2 (by decide)
  have g3 : ¬ linT a c := fun h => by rw [linE_yes h] at h3; exact absurd h3 (by decide)
  have g4 : ¬ linT b a := fun h => g1 (linT_symm.1 h)
  have k1 := lin_ok g1
  have k2 := lin_ok g2
  have k3 := lin_ok g3
  have k4 := lin_ok g4
  refine ⟨?_, ?_, ?_, ?_, k1.check, k4.check, k2.check, k3.check⟩
  · rw [k1.cost, k4.cost, lst_symm]
  · rw [k1.cost]
    have := lst_most (rwS a) (rwS b)
    rw [rwS_tot, rwS_tot] at this
    exact this
  · rw [k1.cost, lst_zero (rwS_ne a) (rwS_ne b)]
    exact ⟨rwS_inj, fun h => by rw [h]⟩
  · rw [k1.cost, k2.cost, k3.cost]
    exact lst_trans _ _ _

set_option maxRecDepth 100000 in
set_option maxHeartbeats 8000000 in
theorem distance_law (a b c : ByteArray) (w : World) (ha : a.size ≤ 140737488355328) (hb : b.size ≤ 140737488355328) (hc : c.size ≤ 140737488355328) : Calls Tryd.prog 7 #[.string a, .string b, .string c] w fun e w' => e = .returned (.bool true) ∧ Below w.heap.size w w' := by
  have HAB := Lib.hid (fun u => lines_all a b u ha hb)
  have HBA := Lib.hid (fun u => show Calls _ _ _ u (Rowed u (linL b a) (linE a b)) by have h := lines_all b a u hb ha; rw [linE_symm] at h; exact h)
  have HBC := Lib.hid (fun u => lines_all b c u hb hc)
  have HAC := Lib.hid (fun u => lines_all a c u ha hc)
  have HL1 := Lib.hid (linL_len a b)
  have HL2 := Lib.hid (linL_len b a)
  have HL3 := Lib.hid (linL_len b c)
  have HL4 := Lib.hid (linL_len a c)
  have HF := Lib.hid (dist_facts a b c)
  have HE1 := Lib.hid (linE_or a b)
  have HE2 := Lib.hid (linE_or b c)
  have HE3 := Lib.hid (linE_or a c)
  generalize linE a b = e1 at *
  generalize linE b c = e2 at *
  generalize linE a c = e3 at *
  generalize linL a b = l1 at *
  generalize linL b a = l2 at *
  generalize linL b c = l3 at *
  generalize linL a c = l4 at *
  go_enter Tryd.func7, Tryd.ntmps7
  have HC1 := Lib.hid (HAB.out w)
  go_wp2_with fail
  refine (HC1.out).mono ?_; rintro e w1 ⟨v1, rfl, hown1, hb1⟩
  have HB1 := Lib.hid (below_two (Below.refl w.heap.size w) hb1)
  obtain ⟨aop, capp, rfl, hr1, hncp, hg1⟩ := IsR.owned (f := fP) (s := 3) fP_len (l := l1) (n := (l1).length) rfl hown1
  have Hp1 := Lib.hid hr1
  have HNp := Lib.hid hncp
  clear hb1 HC1 hown1 hr1 hg1 hncp
  have HC2 := Lib.hid (HBA.out w1)
  go_wp2_with fail
  refine (HC2.out).mono ?_; rintro e w2 ⟨v2, rfl, hown2, hb2⟩
  have HB2 := Lib.hid (below_two HB1.out hb2)
  have Hp2 := Lib.hid (Hp1.out.later hb2)
  obtain ⟨aoq, capq, rfl, hr2, hncq, hg2⟩ := IsR.owned (f := fP) (s := 3) fP_len (l := l2) (n := (l2).length) rfl hown2
  have Hq2 := Lib.hid hr2
  have HNq := Lib.hid hncq
  clear hb2 HC2 hown2 hr2 hg2 hncq
  have HC3 := Lib.hid (HBC.out w2)
  go_wp2_with fail
  refine (HC3.out).mono ?_; rintro e w3 ⟨v3, rfl, hown3, hb3⟩
  have HB3 := Lib.hid (below_two HB2.out hb3)
  have Hp3 := Lib.hid (Hp2.out.later hb3)
  have Hq3 := Lib.hid (Hq2.out.later hb3)
  obtain ⟨aor, capr, rfl, hr3, hncr, hg3⟩ := IsR.owned (f := fP) (s := 3) fP_len (l := l3) (n := (l3).length) rfl hown3
  have Hr3 := Lib.hid hr3
  have HNr := Lib.hid hncr
  clear hb3 HC3 hown3 hr3 hg3 hncr
  have HC4 := Lib.hid (HAC.out w3)
  go_wp2_with fail
  refine (HC4.out).mono ?_; rintro e w4 ⟨v4, rfl, hown4, hb4⟩
  have HB4 := Lib.hid (below_two HB3.out hb4)
  have Hp4 := Lib.hid (Hp3.out.later hb4)
  have Hq4 := Lib.hid (Hq3.out.later hb4)
  have Hr4 := Lib.hid (Hr3.out.later hb4)
  obtain ⟨aos, caps, rfl, hr4, hncs, hg4⟩ := IsR.owned (f := fP) (s := 3) fP_len (l := l4) (n := (l4).length) rfl hown4
  have Hs4 := Lib.hid hr4
  have HNs := Lib.hid hncs
  clear hb4 HC4 hown4 hr4 hg4 hncs
  by_cases hz : e1 = 0 ∧ e2 = 0 ∧ e3 = 0
  · as_aux_lemma =>
    obtain ⟨rfl, rfl, rfl⟩ := hz
    obtain ⟨f1, f2, f3, f4, k1, k2, k3, k4⟩ := HF.out rfl rfl rfl
    have hx1 : costP l1 ≤ 2097152 := cost_most2 l1
    have hx2 : costP l2 ≤ 2097152 := cost_most2 l2
    have hx3 : costP l3 ≤ 2097152 := cost_most2 l3
    have hx4 : costP l4 ≤ 2097152 := cost_most2 l4
    have HK4 := Lib.hid (show Calls Tryd.prog 24 #[.slice aop l1.length capp] w4 fun e w' => e = .returned (.tuple #[.int .i64 (costP l1 : Nat), .int .i64 0]) ∧ Below w4.heap.size w4 w' by have h := cost_any aop l1.length capp l1 w4 Hp4.out (by have := HL1.out; omega); rw [k1] at h; exact h)
    have HC5 := Lib.hid (HK4.out)
    go_wp2_with fail
    refine (HC5.out).mono ?_; rintro e w5 ⟨rfl, hb5⟩
    have HB5 := Lib.hid (below_two HB4.out hb5)
    have Hp5 := Lib.hid (Hp4.out.later hb5)
    have Hq5 := Lib.hid (Hq4.out.later hb5)
    have Hr5 := Lib.hid (Hr4.out.later hb5)
    have Hs5 := Lib.hid (Hs4.out.later hb5)
    clear hb5 HC5
    have HK5 := Lib.hid (show Calls Tryd.prog 24 #[.slice aoq l2.length capq] w5 fun e w' => e = .returned (.tuple #[.int .i64 (costP l2 : Nat), .int .i64 0]) ∧ Below w5.heap.size w5 w' by have h := cost_any aoq l2.length capq l2 w5 Hq5.out (by have := HL2.out; omega); rw [k2] at h; exact h)
    have HC6 := Lib.hid (HK5.out)
    go_wp2_with fail
    refine (HC6.out).mono ?_; rintro e w6 ⟨rfl, hb6⟩
    have HB6 := Lib.hid (below_two HB5.out hb6)
    have Hp6 := Lib.hid (Hp5.out.later hb6)
    have Hq6 := Lib.hid (Hq5.out.later hb6)
    have Hr6 := Lib.hid (Hr5.out.later hb6)
    have Hs6 := Lib.hid (Hs5.out.later hb6)
    clear hb6 HC6
    have HK6 := Lib.hid (show Calls Tryd.prog 24 #[.slice aor l3.length capr] w6 fun e w' => e = .returned (.tuple #[.int .i64 (costP l3 : Nat), .int .i64 0]) ∧ Below w6.heap.size w6 w' by have h := cost_any aor l3.length capr l3 w6 Hr6.out (by have := HL3.out; omega); rw [k3] at h; exact h)
    have HC7 := Lib.hid (HK6.out)
    go_wp2_with fail
    refine (HC7.out).mono ?_; rintro e w7 ⟨rfl, hb7⟩
    have HB7 := Lib.hid (below_two HB6.out hb7)
    have Hp7 := Lib.hid (Hp6.out.later hb7)
    have Hq7 := Lib.hid (Hq6.out.later hb7)
    have Hr7 := Lib.hid (Hr6.out.later hb7)
    have Hs7 := Lib.hid (Hs6.out.later hb7)
    clear hb7 HC7
    have HK7 := Lib.hid (show Calls Tryd.prog 24 #[.slice aos l4.length caps] w7 fun e w' => e = .returned (.tuple #[.int .i64 (costP l4 : Nat), .int .i64 0]) ∧ Below w7.heap.size w7 w' by have h := cost_any aos l4.length caps l4 w7 Hs7.out (by have := HL4.out; omega); rw [k4] at h; exact h)
    have HC8 := Lib.hid (HK7.out)
    go_wp2_with fail
    refine (HC8.out).mono ?_; rintro e w8 ⟨rfl, hb8⟩
    have HB8 := Lib.hid (below_two HB7.out hb8)
    have Hp8 := Lib.hid (Hp7.out.later hb8)
    have Hq8 := Lib.hid (Hq7.out.later hb8)
    have Hr8 := Lib.hid (Hr7.out.later hb8)
    have Hs8 := Lib.hid (Hs7.out.later hb8)
    clear hb8 HC8
    have HX := Lib.hid f1
    generalize hn1 : costP l1 = n1 at *
    generalize hn2 : costP l2 = n2 at *
    generalize hn3 : costP l3 = n3 at *
    generalize hn4 : costP l4 = n4 at *
    have hle1 : (n1 : Int) ≤ (a.size : Int) + (b.size : Int) := by omega
    have hle2 : (n4 : Int) ≤ (n1 : Int) + (n3 : Int) := by omega
    obtain rfl : n1 = n2 := f1
    have hw1 : IntKind.i64.wrap ((a.size : Int) + (b.size : Int)) = (a.size : Int) + (b.size : Int) := by rw [IntKind.wrap_i64]; omega
    have hw2 : IntKind.i64.wrap ((n1 : Int) + (n3 : Int)) = (n1 : Int) + (n3 : Int) := by rw [IntKind.wrap_i64]; omega
    by_cases hab : a = b
    · obtain rfl : n1 = 0 := f3.2 hab
      subst hab
      clear f2 f3 f4 HF HX
      have HC9 := Lib.hid (known_any w8)
      go_wp2_with fail
      refine (HC9.out).mono ?_; rintro e w9 ⟨rfl, hb9⟩
      have HB9 := Lib.hid (below_two HB8.out hb9)
      have Hp9 := Lib.hid (Hp8.out.later hb9)
      have Hq9 := Lib.hid (Hq8.out.later hb9)
      have Hr9 := Lib.hid (Hr8.out.later hb9)
      have Hs9 := Lib.hid (Hs8.out.later hb9)
      clear hb9 HC9
      go_wp2_with fail
      go_ret
      exact ⟨rfl, HB9.out⟩
    · have h0 : ((n1 : Int) == 0) = false := by rw [beq_eq_false_iff_ne]; intro e; exact hab (f3.1 (by omega))
      have h01 : ¬ (n1 = 0) := fun e => hab (f3.1 e)
      have h02 : decide (n1 = 0) = false := decide_eq_false h01
      have hs1 := st_ne hab
      have hs2 := st_ne' hab
      clear f2 f3 f4 HF HX
      have HC9 := Lib.hid (known_any w8)
      go_wp2_with fail
      refine (HC9.out).mono ?_; rintro e w9 ⟨rfl, hb9⟩
      have HB9 := Lib.hid (below_two HB8.out hb9)
      have Hp9 := Lib.hid (Hp8.out.later hb9)
      have Hq9 := Lib.hid (Hq8.out.later hb9)
      have Hr9 := Lib.hid (Hr8.out.later hb9)
      have Hs9 := Lib.hid (Hs8.out.later hb9)
      clear hb9 HC9
      go_wp2_with fail
      go_ret
      exact ⟨rfl, HB9.out⟩
  · as_aux_lemma =>
    rcases HE1.out with ⟨rfl, -⟩ | ⟨rfl, -⟩
    · rcases HE2.out with ⟨rfl, -⟩ | ⟨rfl, -⟩
      · rcases HE3.out with ⟨rfl, -⟩ | ⟨rfl, -⟩
        · exact absurd ⟨rfl, rfl, rfl⟩ hz
        · clear hz
          have HC5 := Lib.hid (known_any w4)
          go_wp2_with fail
          refine (HC5.out).mono ?_; rintro e w5 ⟨rfl, hb5⟩
          have HB5 := Lib.hid (below_two HB4.out hb5)
          clear hb5 HC5
          go_wp2_with fail
          go_ret
          exact ⟨rfl, HB5.out⟩
      · clear hz
        have HC5 := Lib.hid (known_any w4)
        go_wp2_with fail
        refine (HC5.out).mono ?_; rintro e w5 ⟨rfl, hb5⟩
        have HB5 := Lib.hid (below_two HB4.out hb5)
        clear hb5 HC5
        go_wp2_with fail
        go_ret
        exact ⟨rfl, HB5.out⟩
    · clear hz
      have HC5 := Lib.hid (known_any w4)
      go_wp2_with fail
      refine (HC5.out).mono ?_; rintro e w5 ⟨rfl, hb5⟩
      have HB5 := Lib.hid (below_two HB4.out hb5)
      clear hb5 HC5
      go_wp2_with fail
      go_ret
      exact ⟨rfl, HB5.out⟩
end Go.Proofs.YtfbjbgknfdekfaaDoor
