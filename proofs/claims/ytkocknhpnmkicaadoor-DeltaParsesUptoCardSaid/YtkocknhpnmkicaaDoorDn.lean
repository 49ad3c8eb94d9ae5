/- Deltas: own; Equivalent of the program and of the reference; Lengths of the reference; Identity. -/
import Derived.Test.YtkocknhpnmkicaaDoorDm
import Derived.Laws.AppendOwnNone
namespace Go.Proofs.YtkocknhpnmkicaaDoor
open Go.RowKit
set_option linter.unusedVariables false

def Owned (w : World) (l : List Pc) (e : Ending) (w' : World) : Prop :=
  ∃ v, e = .returned v ∧ w'.ownsRow w.heap.size 38 3 v l.length (flatR fP l) ∧ Below w.heap.size w w'
theorem own_empty (w : World) : (w.alloc (.cells #[] 38)).ownsRow w.heap.size 38 3 (.slice (some ⟨w.heap.size, 0, none⟩) 0 0) 0 (flatR fP []) :=
  ⟨rfl, .inr ⟨w.heap.size, 0, #[], rfl, Nat.le_refl _, block_new _ _, Nat.le_refl _, by decide, rfl, rfl⟩⟩
set_option maxRecDepth 100000 in
set_option maxHeartbeats 4000000 in
theorem own_any (ao : Option Addr) (n c : Nat) (l : List Pc) (w : World) (h : IsR fP w ao n l) (hnc : ao = none → n = 0 ∧ c = 0) (hn : n * 32 ≤ 140737488355328) :
    Calls Tryd.prog 14 #[.slice ao n c] w (Owned w l) := by
  obtain ⟨i0, hi0, hz0, hz1, hz2⟩ := info_parts infoPc
  have hl := h.1
  have HOW := Lib.hid (own_empty w)
  have HB0 := Lib.hid ((Below.refl w.heap.size w).alloc (Nat.le_refl _) (.cells #[] 38))
  have HR := Lib.hid (h.later HB0.out)
  have HRL := Lib.hid h
  clear h
  rcases ao with _ | ad
  · obtain ⟨hn0, hc0⟩ := hnc rfl
    subst hn0
    subst hc0
    obtain rfl : l = [] := List.eq_nil_of_length_eq_zero hl
    clear hnc hl
    go_enter Tryd.func14, Tryd.ntmps14
    go_wp2_with fail
    go_ret
    exact ⟨_, rfl, HOW.out, HB0.out⟩
  · have HN := Lib.hid (show ∀ j u, (flatR fP l)[j]? = some u → (w.alloc (.cells #[] 38)).cell? (ad.add j) = some u from fun j u hj => by
      by_cases h0 : 0 < n
      · exact HR.out.news h0 j u hj
      · obtain rfl : l = [] := List.eq_nil_of_length_eq_zero (by omega)
        simp [flatR] at hj)
    have HL := Lib.hid (show (flatR fP l).length = n * 3 by rw [flatR_len fP_len, hl])
    have HNN := Lib.hid hnc
    clear hnc
    go_enter Tryd.func14, Tryd.ntmps14
    go_wp2_with (at_builtin; go_loud (refine wpList_append_own _ rfl _ _ 22 rfl w.heap.size 38 i0 (.agg #[.int .u8 0, .int .i64 0, .string ByteArray.empty]) 3 32 Tryd.underlying22 hi0 hz0 hz1 hz2 rfl (by decide) _ 0 (flatR fP []) rfl HOW.out ad n c (flatR fP l) rfl HL.out HN.out (flatP_one l) (by unfold maxLen; omega) (by omega) (by simp) ?c1))
    case c1 =>
      intro v4 w4 hown4 hgrow4 hnil4
      have HO4 := Lib.hid (show w4.ownsRow w.heap.size 38 3 v4 l.length (flatR fP l) from own_len hown4 (by omega))
      have HB4 := Lib.hid (HB0.out.grown hgrow4 (by simp) fun q hq => (own_typS HOW.out hq).1)
      clear hown4 hgrow4 hnil4
      go_wp2_with fail
      go_ret
      exact ⟨_, rfl, HO4.out, HB4.out⟩

def equivP (a b : List Pc) : Bool × Int := if checkP a ≠ 0 then (false, checkP a) else if checkP b ≠ 0 then (false, checkP b) else (sameL (formP a) (formP b), 0)
set_option maxRecDepth 100000 in
set_option maxHeartbeats 4000000 in
theorem equivalent_any (ao bo : Option Addr) (n c m d : Nat) (a b : List Pc) (w : World) (h : IsR fP w ao n a) (k : IsR fP w bo m b) (hn : n ≤ 9223372036854775807) (hm : m ≤ 9223372036854775807) :
    Calls Tryd.prog 31 #[.slice ao n c, .slice bo m d] w fun e w' => e = .returned (.tuple #[.bool (equivP a b).1, .int .i64 (equivP a b).2]) ∧ Below w.heap.size w w' := by
  have HA := Lib.hid (normalize_any ao n c a w h hn)
  have HK := Lib.hid k
  clear h k
  go_enter Tryd.func31, Tryd.ntmps31
  go_wp2_with fail
  refine (HA.out).mono ?_; rintro e w1 ⟨v1, rfl, hown1, hb1⟩
  have HB1 := Lib.hid hb1
  have hs1 := hb1.size
  have HN := Lib.hid (normalize_any bo m d b w1 (HK.out.later hb1) hm)
  have HO1 := Lib.hid hown1
  clear hown1 hb1 HA
  by_cases hc : checkP a = 0
  · obtain ⟨k1, k2, k3, k4⟩ := form_len hc
    have HE0 := Lib.hid (show normL a = formP a by unfold normL; rw [if_pos hc])
    have hfl : (formP a).length ≤ 300000 := by have := len_formP a; omega
    have HCA := Lib.hid hc
    rw [hc]
    clear hc k1 k2 k3 k4
    go_wp2_with fail
    refine (HN.out).mono ?_; rintro e w2 ⟨v2, rfl, hown2, hb2⟩
    have HB2 := Lib.hid (below_two HB1.out hb2)
    by_cases hd : checkP b = 0
    · have HE1 := Lib.hid (show normL b = formP b by unfold normL; rw [if_pos hd])
      have HE := Lib.hid (show equivP a b = (sameL (formP a) (formP b), 0) by unfold equivP; rw [if_neg (by rw [HCA.out]; decide), if_neg (by rw [hd]; decide)])
      have h1 := HO1.out
      rw [HE0.out] at h1
      have h2 := hown2
      rw [HE1.out] at h2
      obtain ⟨ao1, cap1, rfl, hR1, -, -⟩ := IsR.owned (f := fP) (s := 3) fP_len (l := formP a) (n := (formP a).length) rfl h1
      obtain ⟨ao2, cap2, rfl, hR2, -, -⟩ := IsR.owned (f := fP) (s := 3) fP_len (l := formP b) (n := (formP b).length) rfl h2
      have HS := Lib.hid (equalPc_any ao1 ao2 (formP a).length cap1 (formP b).length cap2 (formP a) (formP b) w2 (hR1.later hb2) hR2 (by omega))
      rw [hd]
      clear hd h1 h2 hR1 hR2 hown2 hb2 HO1
      go_wp2_with fail
      refine (HS.out).mono ?_; rintro e w3 ⟨rfl, hb3⟩
      have HB3 := Lib.hid (below_two HB2.out hb3)
      clear hb3
      go_wp2_with fail
      go_ret2
      exact ⟨by rw [HE.out] <;> rfl, HB3.out⟩
    · have HE := Lib.hid (show equivP a b = (false, checkP b) by unfold equivP; rw [if_neg (by rw [HCA.out]; decide), if_pos hd])
      have hd2 : (checkP b == 0) = false := by rw [beq_eq_false_iff_ne]; exact hd
      clear hd hown2 hb2
      go_wp2_with fail
      go_ret2
      exact ⟨by rw [HE.out] <;> rfl, HB2.out⟩
  · have HE := Lib.hid (show equivP a b = (false, checkP a) by unfold equivP; rw [if_pos hc])
    have hc2 : (checkP a == 0) = false := by rw [beq_eq_false_iff_ne]; exact hc
    clear hc
    go_wp2_with fail
    go_ret2
    exact ⟨by rw [HE.out] <;> rfl, HB1.out⟩

set_option maxRecDepth 100000 in
set_option maxHeartbeats 4000000 in
theorem refEquivalent_any (ao bo : Option Addr) (n c m d : Nat) (a b : List Pc) (w : World) (h : IsR fP w ao n a) (k : IsR fP w bo m b) (hn : n ≤ 9223372036854775807) (hm : m ≤ 9223372036854775807) :
    Calls Tryd.prog 32 #[.slice ao n c, .slice bo m d] w fun e w' => e = .returned (.tuple #[.bool (equivP a b).1, .int .i64 (equivP a b).2]) ∧ Below w.heap.size w w' := by
  have HA := Lib.hid (refCheck_pc ao n c a w h hn)
  have HH := Lib.hid h
  have HK := Lib.hid k
  have hla := h.1
  have hlb := k.1
  clear h k
  go_enter Tryd.func32, Tryd.ntmps32
  go_wp2_with fail
  refine (HA.out).mono ?_; rintro e w1 ⟨rfl, hb1⟩
  have HB1 := Lib.hid hb1
  have HH1 := Lib.hid (HH.out.later hb1)
  have HK1 := Lib.hid (HK.out.later hb1)
  have HN := Lib.hid (refCheck_pc bo m d b w1 HK1.out hm)
  clear hb1 HA
  by_cases hc : checkP a = 0
  · obtain ⟨k1, k2, k3, k4⟩ := form_len hc
    have HKA := Lib.hid (And.intro k1 (And.intro k2 (And.intro k3 k4)))
    have hfl : (formP a).length ≤ 300000 := by have := len_formP a; omega
    have HCA := Lib.hid hc
    rw [hc]
    clear hc k1 k2 k3 k4
    go_wp2_with fail
    refine (HN.out).mono ?_; rintro e w2 ⟨rfl, hb2⟩
    have HB2 := Lib.hid (below_two HB1.out hb2)
    have HH2 := Lib.hid (HH1.out.later hb2)
    have HK2 := Lib.hid (HK1.out.later hb2)
    clear hb2 HN
    by_cases hd : checkP b = 0
    · have HE := Lib.hid (show equivP a b = (sameL (formP a) (formP b), 0) by unfold equivP; rw [if_neg (by rw [HCA.out]; decide), if_neg (by rw [hd]; decide)])
      obtain ⟨k1, k2, k3, k4⟩ := form_len hd
      have HKB := Lib.hid (And.intro k1 (And.intro k2 (And.intro k3 k4)))
      have HF1 := Lib.hid (refForm_any ao n c a w2 HH2.out (by have := HKA.out.1; omega) HKA.out.2.1 HKA.out.2.2.1 HKA.out.2.2.2)
      rw [hd]
      clear hd k1 k2 k3 k4
      go_wp2_with fail
      refine (HF1.out).mono ?_; rintro e w3 ⟨v3, rfl, hown3, hb3⟩
      have HF2 := Lib.hid (refForm_any bo m d b w3 (HK2.out.later hb3) (by have := HKB.out.1; omega) HKB.out.2.1 HKB.out.2.2.1 HKB.out.2.2.2)
      have HB3 := Lib.hid (below_two HB2.out hb3)
      obtain ⟨ao1, cap1, rfl, hR1, -, -⟩ := IsR.owned (f := fP) (s := 3) fP_len (l := formP a) (n := (formP a).length) rfl hown3
      have HR1 := Lib.hid hR1
      clear hown3 hb3 hR1
      go_wp2_with fail
      refine (HF2.out).mono ?_; rintro e w4 ⟨v4, rfl, hown4, hb4⟩
      have HB4 := Lib.hid (below_two HB3.out hb4)
      obtain ⟨ao2, cap2, rfl, hR2, -, -⟩ := IsR.owned (f := fP) (s := 3) fP_len (l := formP b) (n := (formP b).length) rfl hown4
      have HS := Lib.hid (refSame_any ao1 ao2 (formP a).length cap1 (formP b).length cap2 (formP a) (formP b) w4 (HR1.out.later hb4) hR2 (by omega))
      clear hown4 hb4 hR2
      go_wp2_with fail
      refine (HS.out).mono ?_; rintro e w5 ⟨rfl, hb5⟩
      have HB5 := Lib.hid (below_two HB4.out hb5)
      clear hb5
      go_wp2_with fail
      go_ret2
      exact ⟨by rw [HE.out] <;> rfl, HB5.out⟩
    · have HE := Lib.hid (show equivP a b = (false, checkP b) by unfold equivP; rw [if_neg (by rw [HCA.out]; decide), if_pos hd])
      have hd2 : (checkP b == 0) = false := by rw [beq_eq_false_iff_ne]; exact hd
      clear hd
      go_wp2_with fail
      go_ret2
      exact ⟨by rw [HE.out] <;> rfl, HB2.out⟩
  · have HE := Lib.hid (show equivP a b = (false, checkP a) by unfold equivP; rw [if_pos hc])
    have hc2 : (checkP a == 0) = false := by rw [beq_eq_false_iff_ne]; exact hc
    clear hc
    go_wp2_with fail
    go_ret2
    exact ⟨by rw [HE.out] <;> rfl, HB1.out⟩
end Go.Proofs.YtkocknhpnmkicaaDoor
