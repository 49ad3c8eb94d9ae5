/- Deltas: the law Means: its walk. -/
import Derived.Test.YtkocknhpnmkicaaDoorDyc
namespace Go.Proofs.YtkocknhpnmkicaaDoor
open Go.RowKit
set_option linter.unusedVariables false

theorem equiv_to {is : Bool} {x : Int} (ao bo : Option Addr) (n c m d : Nat) (a b : List Pc) (w : World) (h : IsR fP w ao n a) (k : IsR fP w bo m b) (hn : n ≤ 9223372036854775807) (hm : m ≤ 9223372036854775807) (h1 : equivP a b = (is, x)) :
    Calls Tryd.prog 31 #[.slice ao n c, .slice bo m d] w fun e w' => e = .returned (.tuple #[.bool is, .int .i64 x]) ∧ Below w.heap.size w w' := by
  have h := equivalent_any ao bo n c m d a b w h k hn hm
  rw [h1] at h
  exact h
theorem ints_to {x : Bool} (ao bo : Option Addr) (n c m d : Nat) (a b : List Int) (w : World) (h : IsR fI w ao n a) (k : IsR fI w bo m b) (hn : n ≤ 9223372036854775807) (h1 : decide (a = b) = x) :
    Calls Tryd.prog 34 #[.slice ao n c, .slice bo m d] w fun e w' => e = .returned (.bool x) ∧ Below w.heap.size w w' := by
  have h := ints_any ao bo n c m d a b w h k hn
  rw [h1] at h
  exact h
theorem atoms_to (ao : Option Addr) (n c : Nat) (l : List Pc) (w : World) (h : IsR fP w ao n l) (hc : checkP l = 0) : Calls Tryd.prog 35 #[.slice ao n c] w (NewI w (atL l)) := by
  obtain ⟨h1, h2, h3, h4⟩ := check_inv hc
  exact atoms_any ao n c l w h h2 h3 h4 (by have := h.1; omega)
theorem atL_short {l : List Pc} (hc : checkP l = 0) : (atL l).length ≤ 9223372036854775807 := by
  obtain ⟨h1, h2, h3, h4⟩ := check_inv hc
  rw [atL_len]
  omega
theorem atL_form (l : List Pc) : atL (formP l) = atL l := by
  unfold atL
  rw [map_formP, Dp.atoms_form]
theorem equiv_eq {a b : List Pc} (ha : checkP a = 0) (hb : checkP b = 0) : equivP a b = (decide (formP a = formP b), 0) := by
  unfold equivP
  rw [if_neg (by rw [ha]; decide), if_neg (by rw [hb]; decide)]
  rfl
theorem equiv_same {a b : List Pc} (ha : checkP a = 0) (hb : checkP b = 0) (h : sIP a = sIP b) : decide (formP a = formP b) = decide (atL a = atL b) := by
  refine decide_eq_decide.2 ((formP_eq_iff (check_inv ha).2.1 (check_inv hb).2.1).trans ?_)
  exact ⟨fun x => x.2, fun x => ⟨h, x⟩⟩
theorem equiv_other {a b : List Pc} (ha : checkP a = 0) (hb : checkP b = 0) (h : sIP a ≠ sIP b) : decide (formP a = formP b) = false := by
  rw [decide_eq_false_iff_not]
  exact fun x => h ((formP_eq_iff (check_inv ha).2.1 (check_inv hb).2.1).1 x).1
theorem equiv_bad {a b : List Pc} (h : ¬ (checkP a = 0 ∧ checkP b = 0)) : ∃ x : Int, equivP a b = (false, x) ∧ x ≠ 0 := by
  unfold equivP
  by_cases ha : checkP a = 0
  · have hb : checkP b ≠ 0 := fun hb => h ⟨ha, hb⟩
    exact ⟨checkP b, by rw [if_neg (by rw [ha]; decide), if_pos hb], hb⟩
  · exact ⟨checkP a, if_pos ha, ha⟩

set_option maxRecDepth 100000 in
set_option maxHeartbeats 4000000 in
theorem means_bad (ao bo : Option Addr) (n c m d : Nat) (a b : List Pc) (w : World) (ht : Tab w) (h : IsR fP w ao n a) (k : IsR fP w bo m b) (hnc : ao = none → n = 0 ∧ c = 0) (hmc : bo = none → m = 0 ∧ d = 0) (hn : n * 32 ≤ 140737488355328) (hm : m * 32 ≤ 140737488355328) (hc : ¬ (checkP a = 0 ∧ checkP b = 0)) : Calls Tryd.prog 11 #[.slice ao n c, .slice bo m d] w fun e w' => e = .returned (.bool true) ∧ Below w.heap.size w w' := by
  have HT := Lib.hid ht
  have Hd0 := Lib.hid h
  have Hf0 := Lib.hid k
  have hla := h.1
  have hlb := k.1
  have HNC := Lib.hid hnc
  have HMC := Lib.hid hmc
  subst hla
  subst hlb
  obtain ⟨x, heq, hx⟩ := equiv_bad hc
  have HEQ := Lib.hid heq
  have hx2 : (x == 0) = false := by rw [beq_eq_false_iff_ne]; exact hx
  clear heq hx hc
  clear ht h k hnc hmc
  go_enter Tryd.func11, Tryd.ntmps11
  have HC1 := Lib.hid (large_any ao a.length c a w Hd0.out (by omega))
  go_wp2_with fail
  refine (HC1.out).mono ?_; rintro e w1 ⟨⟨g1, rfl⟩, hb1⟩
  have HB1 := Lib.hid (below_two (Below.refl w.heap.size w) hb1)
  have Hd1 := Lib.hid (Hd0.out.later hb1)
  have Hf1 := Lib.hid (Hf0.out.later hb1)
  clear hb1 HC1
  rcases g1 with _ | _
  · skip
    have HC2 := Lib.hid (large_any bo b.length d b w1 Hf1.out (by omega))
    go_wp2_with fail
    refine (HC2.out).mono ?_; rintro e w2 ⟨⟨g2, rfl⟩, hb2⟩
    have HB2 := Lib.hid (below_two HB1.out hb2)
    have Hd2 := Lib.hid (Hd1.out.later hb2)
    have Hf2 := Lib.hid (Hf1.out.later hb2)
    clear hb2 HC2
    rcases g2 with _ | _
    · skip
      have HC3 := Lib.hid (own_any ao a.length c a w2 Hd2.out HNC.out hn)
      go_wp2_with fail
      refine (HC3.out).mono ?_; rintro e w3 ⟨v3, rfl, hown3, hb3⟩
      have HB3 := Lib.hid (below_two HB2.out hb3)
      have Hd3 := Lib.hid (Hd2.out.later hb3)
      have Hf3 := Lib.hid (Hf2.out.later hb3)
      obtain ⟨aox, capx, rfl, hr3, hncx, hg3⟩ := IsR.owned (f := fP) (s := 3) fP_len (l := a) (n := (a).length) rfl hown3
      have Hx3 := Lib.hid hr3
      have HNx := Lib.hid hncx
      clear hb3 HC3 hown3 hr3 hg3 hncx
      have HC4 := Lib.hid (own_any bo b.length d b w3 Hf3.out HMC.out hm)
      go_wp2_with fail
      refine (HC4.out).mono ?_; rintro e w4 ⟨v4, rfl, hown4, hb4⟩
      have HB4 := Lib.hid (below_two HB3.out hb4)
      have Hd4 := Lib.hid (Hd3.out.later hb4)
      have Hf4 := Lib.hid (Hf3.out.later hb4)
      have Hx4 := Lib.hid (Hx3.out.later hb4)
      obtain ⟨aoy, capy, rfl, hr4, hncy, hg4⟩ := IsR.owned (f := fP) (s := 3) fP_len (l := b) (n := (b).length) rfl hown4
      have Hy4 := Lib.hid hr4
      have HNy := Lib.hid hncy
      clear hb4 HC4 hown4 hr4 hg4 hncy
      have HC5 := Lib.hid (equiv_to aox aoy a.length capx b.length capy a b w4 Hx4.out Hy4.out (by omega) (by omega) HEQ.out)
      go_wp2_with fail
      refine (HC5.out).mono ?_; rintro e w5 ⟨rfl, hb5⟩
      have HB5 := Lib.hid (below_two HB4.out hb5)
      have Hd5 := Lib.hid (Hd4.out.later hb5)
      have Hf5 := Lib.hid (Hf4.out.later hb5)
      have Hx5 := Lib.hid (Hx4.out.later hb5)
      have Hy5 := Lib.hid (Hy4.out.later hb5)
      clear hb5 HC5
      have HC6 := Lib.hid (known_any w5 (HT.out.below HB5.out))
      go_wp2_with fail
      refine (HC6.out).mono ?_; rintro e w6 ⟨rfl, hb6⟩
      have HB6 := Lib.hid (below_two HB5.out hb6)
      have Hd6 := Lib.hid (Hd5.out.later hb6)
      have Hf6 := Lib.hid (Hf5.out.later hb6)
      clear hb6 HC6
      go_wp2_with fail
      go_ret
      exact ⟨rfl, HB6.out⟩
    · skip
      have HC3 := Lib.hid (known_any w2 (HT.out.below HB2.out))
      go_wp2_with fail
      refine (HC3.out).mono ?_; rintro e w3 ⟨rfl, hb3⟩
      have HB3 := Lib.hid (below_two HB2.out hb3)
      have Hd3 := Lib.hid (Hd2.out.later hb3)
      have Hf3 := Lib.hid (Hf2.out.later hb3)
      clear hb3 HC3
      go_wp2_with fail
      go_ret
      exact ⟨rfl, HB3.out⟩
  · skip
    have HC2 := Lib.hid (known_any w1 (HT.out.below HB1.out))
    go_wp2_with fail
    refine (HC2.out).mono ?_; rintro e w2 ⟨rfl, hb2⟩
    have HB2 := Lib.hid (below_two HB1.out hb2)
    have Hd2 := Lib.hid (Hd1.out.later hb2)
    have Hf2 := Lib.hid (Hf1.out.later hb2)
    clear hb2 HC2
    go_wp2_with fail
    go_ret
    exact ⟨rfl, HB2.out⟩

set_option maxRecDepth 100000 in
set_option maxHeartbeats 4000000 in
theorem means_other (ao bo : Option Addr) (n c m d : Nat) (a b : List Pc) (w : World) (ht : Tab w) (h : IsR fP w ao n a) (k : IsR fP w bo m b) (hnc : ao = none → n = 0 ∧ c = 0) (hmc : bo = none → m = 0 ∧ d = 0) (hn : n * 32 ≤ 140737488355328) (hm : m * 32 ≤ 140737488355328) (ha : checkP a = 0) (hb : checkP b = 0) (hs : sIP a ≠ sIP b) : Calls Tryd.prog 11 #[.slice ao n c, .slice bo m d] w fun e w' => e = .returned (.bool true) ∧ Below w.heap.size w w' := by
  have HT := Lib.hid ht
  have Hd0 := Lib.hid h
  have Hf0 := Lib.hid k
  have hla := h.1
  have hlb := k.1
  have HNC := Lib.hid hnc
  have HMC := Lib.hid hmc
  subst hla
  subst hlb
  have HCA := Lib.hid ha
  have HCB := Lib.hid hb
  obtain ⟨r, hr⟩ : ∃ r, r = formP a := ⟨_, rfl⟩
  have HCR := Lib.hid (show checkP r = 0 by rw [hr]; exact check_formP ha)
  have hrl := (check_inv HCR.out).1
  have HNL := Lib.hid (show normL a = r by rw [hr]; exact normL_ok ha)
  have HRA := Lib.hid (show decide (atL r = atL a) = true by rw [hr, atL_form]; exact decide_eq_true rfl)
  have hq := equiv_eq ha hb
  rw [equiv_other ha hb hs] at hq
  have HEQ := Lib.hid hq
  have hne : ((sIP a : Int) == (sIP b : Int)) = false := by rw [beq_eq_false_iff_ne]; omega
  have HLA := Lib.hid (lengths_of_check ha)
  have HLB := Lib.hid (lengths_of_check hb)
  generalize (sIP a : Int) = ia at *
  generalize (sIP b : Int) = ib at *
  clear hq ha hb hs hr
  clear ht h k hnc hmc
  go_enter Tryd.func11, Tryd.ntmps11
  have HC1 := Lib.hid (large_any ao a.length c a w Hd0.out (by omega))
  go_wp2_with fail
  refine (HC1.out).mono ?_; rintro e w1 ⟨⟨g1, rfl⟩, hb1⟩
  have HB1 := Lib.hid (below_two (Below.refl w.heap.size w) hb1)
  have Hd1 := Lib.hid (Hd0.out.later hb1)
  have Hf1 := Lib.hid (Hf0.out.later hb1)
  clear hb1 HC1
  rcases g1 with _ | _
  · skip
    have HC2 := Lib.hid (large_any bo b.length d b w1 Hf1.out (by omega))
    go_wp2_with fail
    refine (HC2.out).mono ?_; rintro e w2 ⟨⟨g2, rfl⟩, hb2⟩
    have HB2 := Lib.hid (below_two HB1.out hb2)
    have Hd2 := Lib.hid (Hd1.out.later hb2)
    have Hf2 := Lib.hid (Hf1.out.later hb2)
    clear hb2 HC2
    rcases g2 with _ | _
    · skip
      have HC3 := Lib.hid (own_any ao a.length c a w2 Hd2.out HNC.out hn)
      go_wp2_with fail
      refine (HC3.out).mono ?_; rintro e w3 ⟨v3, rfl, hown3, hb3⟩
      have HB3 := Lib.hid (below_two HB2.out hb3)
      have Hd3 := Lib.hid (Hd2.out.later hb3)
      have Hf3 := Lib.hid (Hf2.out.later hb3)
      obtain ⟨aox, capx, rfl, hr3, hncx, hg3⟩ := IsR.owned (f := fP) (s := 3) fP_len (l := a) (n := (a).length) rfl hown3
      have Hx3 := Lib.hid hr3
      have HNx := Lib.hid hncx
      clear hb3 HC3 hown3 hr3 hg3 hncx
      have HC4 := Lib.hid (own_any bo b.length d b w3 Hf3.out HMC.out hm)
      go_wp2_with fail
      refine (HC4.out).mono ?_; rintro e w4 ⟨v4, rfl, hown4, hb4⟩
      have HB4 := Lib.hid (below_two HB3.out hb4)
      have Hd4 := Lib.hid (Hd3.out.later hb4)
      have Hf4 := Lib.hid (Hf3.out.later hb4)
      have Hx4 := Lib.hid (Hx3.out.later hb4)
      obtain ⟨aoy, capy, rfl, hr4, hncy, hg4⟩ := IsR.owned (f := fP) (s := 3) fP_len (l := b) (n := (b).length) rfl hown4
      have Hy4 := Lib.hid hr4
      have HNy := Lib.hid hncy
      clear hb4 HC4 hown4 hr4 hg4 hncy
      have HC5 := Lib.hid (equiv_to aox aoy a.length capx b.length capy a b w4 Hx4.out Hy4.out (by omega) (by omega) HEQ.out)
      go_wp2_with fail
      refine (HC5.out).mono ?_; rintro e w5 ⟨rfl, hb5⟩
      have HB5 := Lib.hid (below_two HB4.out hb5)
      have Hd5 := Lib.hid (Hd4.out.later hb5)
      have Hf5 := Lib.hid (Hf4.out.later hb5)
      have Hx5 := Lib.hid (Hx4.out.later hb5)
      have Hy5 := Lib.hid (Hy4.out.later hb5)
      clear hb5 HC5
      have HC6 := Lib.hid (own_any ao a.length c a w5 Hd5.out HNC.out hn)
      go_wp2_with fail
      refine (HC6.out).mono ?_; rintro e w6 ⟨v6, rfl, hown6, hb6⟩
      have HB6 := Lib.hid (below_two HB5.out hb6)
      have Hd6 := Lib.hid (Hd5.out.later hb6)
      have Hf6 := Lib.hid (Hf5.out.later hb6)
      obtain ⟨aop, capp, rfl, hr6, hncp, hg6⟩ := IsR.owned (f := fP) (s := 3) fP_len (l := a) (n := (a).length) rfl hown6
      have Hp6 := Lib.hid hr6
      have HNp := Lib.hid hncp
      clear hb6 HC6 hown6 hr6 hg6 hncp
      have HC7 := Lib.hid (lengths_to aop a.length capp a w6 Hp6.out (by omega) HLA.out)
      go_wp2_with fail
      refine (HC7.out).mono ?_; rintro e w7 ⟨rfl, hb7⟩
      have HB7 := Lib.hid (below_two HB6.out hb7)
      have Hd7 := Lib.hid (Hd6.out.later hb7)
      have Hf7 := Lib.hid (Hf6.out.later hb7)
      have Hp7 := Lib.hid (Hp6.out.later hb7)
      clear hb7 HC7
      have HC8 := Lib.hid (own_any bo b.length d b w7 Hf7.out HMC.out hm)
      go_wp2_with fail
      refine (HC8.out).mono ?_; rintro e w8 ⟨v8, rfl, hown8, hb8⟩
      have HB8 := Lib.hid (below_two HB7.out hb8)
      have Hd8 := Lib.hid (Hd7.out.later hb8)
      have Hf8 := Lib.hid (Hf7.out.later hb8)
      obtain ⟨aoq, capq, rfl, hr8, hncq, hg8⟩ := IsR.owned (f := fP) (s := 3) fP_len (l := b) (n := (b).length) rfl hown8
      have Hq8 := Lib.hid hr8
      have HNq := Lib.hid hncq
      clear hb8 HC8 hown8 hr8 hg8 hncq
      have HC9 := Lib.hid (lengths_to aoq b.length capq b w8 Hq8.out (by omega) HLB.out)
      go_wp2_with fail
      refine (HC9.out).mono ?_; rintro e w9 ⟨rfl, hb9⟩
      have HB9 := Lib.hid (below_two HB8.out hb9)
      have Hd9 := Lib.hid (Hd8.out.later hb9)
      have Hf9 := Lib.hid (Hf8.out.later hb9)
      have Hq9 := Lib.hid (Hq8.out.later hb9)
      clear hb9 HC9
      have HC10 := Lib.hid (own_any ao a.length c a w9 Hd9.out HNC.out hn)
      go_wp2_with fail
      refine (HC10.out).mono ?_; rintro e w10 ⟨v10, rfl, hown10, hb10⟩
      have HB10 := Lib.hid (below_two HB9.out hb10)
      have Hd10 := Lib.hid (Hd9.out.later hb10)
      have Hf10 := Lib.hid (Hf9.out.later hb10)
      obtain ⟨aos, caps, rfl, hr10, hncs, hg10⟩ := IsR.owned (f := fP) (s := 3) fP_len (l := a) (n := (a).length) rfl hown10
      have Hs10 := Lib.hid hr10
      have HNs := Lib.hid hncs
      clear hb10 HC10 hown10 hr10 hg10 hncs
      have HC11 := Lib.hid (normalize_to aos a.length caps a w10 Hs10.out (by omega) HNL.out HCA.out)
      go_wp2_with fail
      refine (HC11.out).mono ?_; rintro e w11 ⟨v11, rfl, hown11, hb11⟩
      have HB11 := Lib.hid (below_two HB10.out hb11)
      have Hd11 := Lib.hid (Hd10.out.later hb11)
      have Hf11 := Lib.hid (Hf10.out.later hb11)
      have Hs11 := Lib.hid (Hs10.out.later hb11)
      obtain ⟨aoz, capz, rfl, hr11, hncz, hg11⟩ := IsR.owned (f := fP) (s := 3) fP_len (l := r) (n := (r).length) rfl hown11
      have Hz11 := Lib.hid hr11
      have HNz := Lib.hid hncz
      clear hb11 HC11 hown11 hr11 hg11 hncz
      have HC12 := Lib.hid (atoms_to aoz r.length capz r w11 Hz11.out HCR.out)
      go_wp2_with fail
      refine (HC12.out).mono ?_; rintro e w12 ⟨v12, rfl, hown12, hb12⟩
      have HB12 := Lib.hid (below_two HB11.out hb12)
      have Hd12 := Lib.hid (Hd11.out.later hb12)
      have Hf12 := Lib.hid (Hf11.out.later hb12)
      have Hz12 := Lib.hid (Hz11.out.later hb12)
      obtain ⟨aoj, capj, rfl, hr12, hncj, hg12⟩ := IsR.owned (f := fI) (s := 1) fI_len (l := atL r) (n := (atL r).length) rfl hown12
      have Hj12 := Lib.hid hr12
      clear hb12 HC12 hown12 hr12 hg12 hncj
      have HC13 := Lib.hid (atoms_to ao a.length c a w12 Hd12.out HCA.out)
      go_wp2_with fail
      refine (HC13.out).mono ?_; rintro e w13 ⟨v13, rfl, hown13, hb13⟩
      have HB13 := Lib.hid (below_two HB12.out hb13)
      have Hd13 := Lib.hid (Hd12.out.later hb13)
      have Hf13 := Lib.hid (Hf12.out.later hb13)
      have Hz13 := Lib.hid (Hz12.out.later hb13)
      have Hj13 := Lib.hid (Hj12.out.later hb13)
      obtain ⟨aok, capk, rfl, hr13, hnck, hg13⟩ := IsR.owned (f := fI) (s := 1) fI_len (l := atL a) (n := (atL a).length) rfl hown13
      have Hk13 := Lib.hid hr13
      clear hb13 HC13 hown13 hr13 hg13 hnck
      have HC14 := Lib.hid (ints_to aoj aok (atL r).length capj (atL a).length capk (atL r) (atL a) w13 Hj13.out Hk13.out (atL_short HCR.out) HRA.out)
      go_wp2_with fail
      refine (HC14.out).mono ?_; rintro e w14 ⟨rfl, hb14⟩
      have HB14 := Lib.hid (below_two HB13.out hb14)
      have Hd14 := Lib.hid (Hd13.out.later hb14)
      have Hf14 := Lib.hid (Hf13.out.later hb14)
      have Hz14 := Lib.hid (Hz13.out.later hb14)
      have Hj14 := Lib.hid (Hj13.out.later hb14)
      have Hk14 := Lib.hid (Hk13.out.later hb14)
      clear hb14 HC14
      have HC15 := Lib.hid (known_any w14 (HT.out.below HB14.out))
      go_wp2_with fail
      refine (HC15.out).mono ?_; rintro e w15 ⟨rfl, hb15⟩
      have HB15 := Lib.hid (below_two HB14.out hb15)
      have Hd15 := Lib.hid (Hd14.out.later hb15)
      have Hf15 := Lib.hid (Hf14.out.later hb15)
      clear hb15 HC15
      go_wp2_with fail
      go_ret
      exact ⟨rfl, HB15.out⟩
    · skip
      have HC3 := Lib.hid (known_any w2 (HT.out.below HB2.out))
      go_wp2_with fail
      refine (HC3.out).mono ?_; rintro e w3 ⟨rfl, hb3⟩
      have HB3 := Lib.hid (below_two HB2.out hb3)
      have Hd3 := Lib.hid (Hd2.out.later hb3)
      have Hf3 := Lib.hid (Hf2.out.later hb3)
      clear hb3 HC3
      go_wp2_with fail
      go_ret
      exact ⟨rfl, HB3.out⟩
  · skip
    have HC2 := Lib.hid (known_any w1 (HT.out.below HB1.out))
    go_wp2_with fail
    refine (HC2.out).mono ?_; rintro e w2 ⟨rfl, hb2⟩
    have HB2 := Lib.hid (below_two HB1.out hb2)
    have Hd2 := Lib.hid (Hd1.out.later hb2)
    have Hf2 := Lib.hid (Hf1.out.later hb2)
    clear hb2 HC2
    go_wp2_with fail
    go_ret
    exact ⟨rfl, HB2.out⟩

set_option maxRecDepth 100000 in
set_option maxHeartbeats 4000000 in
theorem means_same (ao bo : Option Addr) (n c m d : Nat) (a b : List Pc) (w : World) (ht : Tab w) (h : IsR fP w ao n a) (k : IsR fP w bo m b) (hnc : ao = none → n = 0 ∧ c = 0) (hmc : bo = none → m = 0 ∧ d = 0) (hn : n * 32 ≤ 140737488355328) (hm : m * 32 ≤ 140737488355328) (ha : checkP a = 0) (hb : checkP b = 0) (hs : sIP a = sIP b) : Calls Tryd.prog 11 #[.slice ao n c, .slice bo m d] w fun e w' => e = .returned (.bool true) ∧ Below w.heap.size w w' := by
  have HT := Lib.hid ht
  have Hd0 := Lib.hid h
  have Hf0 := Lib.hid k
  have hla := h.1
  have hlb := k.1
  have HNC := Lib.hid hnc
  have HMC := Lib.hid hmc
  subst hla
  subst hlb
  have HCA := Lib.hid ha
  have HCB := Lib.hid hb
  obtain ⟨r, hr⟩ : ∃ r, r = formP a := ⟨_, rfl⟩
  have HCR := Lib.hid (show checkP r = 0 by rw [hr]; exact check_formP ha)
  have hrl := (check_inv HCR.out).1
  have HNL := Lib.hid (show normL a = r by rw [hr]; exact normL_ok ha)
  have HRA := Lib.hid (show decide (atL r = atL a) = true by rw [hr, atL_form]; exact decide_eq_true rfl)
  have hq := equiv_eq ha hb
  rw [equiv_same ha hb hs] at hq
  obtain ⟨is, his⟩ : ∃ is, is = decide (atL a = atL b) := ⟨_, rfl⟩
  rw [← his] at hq
  have HEQ := Lib.hid hq
  have HAB := Lib.hid his.symm
  have hla := lengths_of_check ha
  have hlb := lengths_of_check hb
  rw [← hs] at hlb
  generalize sIP a = ia at hla hlb
  have HLA := Lib.hid hla
  have HLB := Lib.hid hlb
  clear hq his hla hlb ha hb hs hr
  clear ht h k hnc hmc
  go_enter Tryd.func11, Tryd.ntmps11
  have HC1 := Lib.hid (large_any ao a.length c a w Hd0.out (by omega))
  go_wp2_with fail
  refine (HC1.out).mono ?_; rintro e w1 ⟨⟨g1, rfl⟩, hb1⟩
  have HB1 := Lib.hid (below_two (Below.refl w.heap.size w) hb1)
  have Hd1 := Lib.hid (Hd0.out.later hb1)
  have Hf1 := Lib.hid (Hf0.out.later hb1)
  clear hb1 HC1
  rcases g1 with _ | _
  · skip
    have HC2 := Lib.hid (large_any bo b.length d b w1 Hf1.out (by omega))
    go_wp2_with fail
    refine (HC2.out).mono ?_; rintro e w2 ⟨⟨g2, rfl⟩, hb2⟩
    have HB2 := Lib.hid (below_two HB1.out hb2)
    have Hd2 := Lib.hid (Hd1.out.later hb2)
    have Hf2 := Lib.hid (Hf1.out.later hb2)
    clear hb2 HC2
    rcases g2 with _ | _
    · skip
      have HC3 := Lib.hid (own_any ao a.length c a w2 Hd2.out HNC.out hn)
      go_wp2_with fail
      refine (HC3.out).mono ?_; rintro e w3 ⟨v3, rfl, hown3, hb3⟩
      have HB3 := Lib.hid (below_two HB2.out hb3)
      have Hd3 := Lib.hid (Hd2.out.later hb3)
      have Hf3 := Lib.hid (Hf2.out.later hb3)
      obtain ⟨aox, capx, rfl, hr3, hncx, hg3⟩ := IsR.owned (f := fP) (s := 3) fP_len (l := a) (n := (a).length) rfl hown3
      have Hx3 := Lib.hid hr3
      have HNx := Lib.hid hncx
      clear hb3 HC3 hown3 hr3 hg3 hncx
      have HC4 := Lib.hid (own_any bo b.length d b w3 Hf3.out HMC.out hm)
      go_wp2_with fail
      refine (HC4.out).mono ?_; rintro e w4 ⟨v4, rfl, hown4, hb4⟩
      have HB4 := Lib.hid (below_two HB3.out hb4)
      have Hd4 := Lib.hid (Hd3.out.later hb4)
      have Hf4 := Lib.hid (Hf3.out.later hb4)
      have Hx4 := Lib.hid (Hx3.out.later hb4)
      obtain ⟨aoy, capy, rfl, hr4, hncy, hg4⟩ := IsR.owned (f := fP) (s := 3) fP_len (l := b) (n := (b).length) rfl hown4
      have Hy4 := Lib.hid hr4
      have HNy := Lib.hid hncy
      clear hb4 HC4 hown4 hr4 hg4 hncy
      have HC5 := Lib.hid (equiv_to aox aoy a.length capx b.length capy a b w4 Hx4.out Hy4.out (by omega) (by omega) HEQ.out)
      go_wp2_with fail
      refine (HC5.out).mono ?_; rintro e w5 ⟨rfl, hb5⟩
      have HB5 := Lib.hid (below_two HB4.out hb5)
      have Hd5 := Lib.hid (Hd4.out.later hb5)
      have Hf5 := Lib.hid (Hf4.out.later hb5)
      have Hx5 := Lib.hid (Hx4.out.later hb5)
      have Hy5 := Lib.hid (Hy4.out.later hb5)
      clear hb5 HC5
      have HC6 := Lib.hid (own_any ao a.length c a w5 Hd5.out HNC.out hn)
      go_wp2_with fail
      refine (HC6.out).mono ?_; rintro e w6 ⟨v6, rfl, hown6, hb6⟩
      have HB6 := Lib.hid (below_two HB5.out hb6)
      have Hd6 := Lib.hid (Hd5.out.later hb6)
      have Hf6 := Lib.hid (Hf5.out.later hb6)
      obtain ⟨aop, capp, rfl, hr6, hncp, hg6⟩ := IsR.owned (f := fP) (s := 3) fP_len (l := a) (n := (a).length) rfl hown6
      have Hp6 := Lib.hid hr6
      have HNp := Lib.hid hncp
      clear hb6 HC6 hown6 hr6 hg6 hncp
      have HC7 := Lib.hid (lengths_to aop a.length capp a w6 Hp6.out (by omega) HLA.out)
      go_wp2_with fail
      refine (HC7.out).mono ?_; rintro e w7 ⟨rfl, hb7⟩
      have HB7 := Lib.hid (below_two HB6.out hb7)
      have Hd7 := Lib.hid (Hd6.out.later hb7)
      have Hf7 := Lib.hid (Hf6.out.later hb7)
      have Hp7 := Lib.hid (Hp6.out.later hb7)
      clear hb7 HC7
      have HC8 := Lib.hid (own_any bo b.length d b w7 Hf7.out HMC.out hm)
      go_wp2_with fail
      refine (HC8.out).mono ?_; rintro e w8 ⟨v8, rfl, hown8, hb8⟩
      have HB8 := Lib.hid (below_two HB7.out hb8)
      have Hd8 := Lib.hid (Hd7.out.later hb8)
      have Hf8 := Lib.hid (Hf7.out.later hb8)
      obtain ⟨aoq, capq, rfl, hr8, hncq, hg8⟩ := IsR.owned (f := fP) (s := 3) fP_len (l := b) (n := (b).length) rfl hown8
      have Hq8 := Lib.hid hr8
      have HNq := Lib.hid hncq
      clear hb8 HC8 hown8 hr8 hg8 hncq
      have HC9 := Lib.hid (lengths_to aoq b.length capq b w8 Hq8.out (by omega) HLB.out)
      go_wp2_with fail
      refine (HC9.out).mono ?_; rintro e w9 ⟨rfl, hb9⟩
      have HB9 := Lib.hid (below_two HB8.out hb9)
      have Hd9 := Lib.hid (Hd8.out.later hb9)
      have Hf9 := Lib.hid (Hf8.out.later hb9)
      have Hq9 := Lib.hid (Hq8.out.later hb9)
      clear hb9 HC9
      have HC10 := Lib.hid (own_any ao a.length c a w9 Hd9.out HNC.out hn)
      go_wp2_with fail
      refine (HC10.out).mono ?_; rintro e w10 ⟨v10, rfl, hown10, hb10⟩
      have HB10 := Lib.hid (below_two HB9.out hb10)
      have Hd10 := Lib.hid (Hd9.out.later hb10)
      have Hf10 := Lib.hid (Hf9.out.later hb10)
      obtain ⟨aos, caps, rfl, hr10, hncs, hg10⟩ := IsR.owned (f := fP) (s := 3) fP_len (l := a) (n := (a).length) rfl hown10
      have Hs10 := Lib.hid hr10
      have HNs := Lib.hid hncs
      clear hb10 HC10 hown10 hr10 hg10 hncs
      have HC11 := Lib.hid (normalize_to aos a.length caps a w10 Hs10.out (by omega) HNL.out HCA.out)
      go_wp2_with fail
      refine (HC11.out).mono ?_; rintro e w11 ⟨v11, rfl, hown11, hb11⟩
      have HB11 := Lib.hid (below_two HB10.out hb11)
      have Hd11 := Lib.hid (Hd10.out.later hb11)
      have Hf11 := Lib.hid (Hf10.out.later hb11)
      have Hs11 := Lib.hid (Hs10.out.later hb11)
      obtain ⟨aoz, capz, rfl, hr11, hncz, hg11⟩ := IsR.owned (f := fP) (s := 3) fP_len (l := r) (n := (r).length) rfl hown11
      have Hz11 := Lib.hid hr11
      have HNz := Lib.hid hncz
      clear hb11 HC11 hown11 hr11 hg11 hncz
      have HC12 := Lib.hid (atoms_to aoz r.length capz r w11 Hz11.out HCR.out)
      go_wp2_with fail
      refine (HC12.out).mono ?_; rintro e w12 ⟨v12, rfl, hown12, hb12⟩
      have HB12 := Lib.hid (below_two HB11.out hb12)
      have Hd12 := Lib.hid (Hd11.out.later hb12)
      have Hf12 := Lib.hid (Hf11.out.later hb12)
      have Hz12 := Lib.hid (Hz11.out.later hb12)
      obtain ⟨aoj, capj, rfl, hr12, hncj, hg12⟩ := IsR.owned (f := fI) (s := 1) fI_len (l := atL r) (n := (atL r).length) rfl hown12
      have Hj12 := Lib.hid hr12
      clear hb12 HC12 hown12 hr12 hg12 hncj
      have HC13 := Lib.hid (atoms_to ao a.length c a w12 Hd12.out HCA.out)
      go_wp2_with fail
      refine (HC13.out).mono ?_; rintro e w13 ⟨v13, rfl, hown13, hb13⟩
      have HB13 := Lib.hid (below_two HB12.out hb13)
      have Hd13 := Lib.hid (Hd12.out.later hb13)
      have Hf13 := Lib.hid (Hf12.out.later hb13)
      have Hz13 := Lib.hid (Hz12.out.later hb13)
      have Hj13 := Lib.hid (Hj12.out.later hb13)
      obtain ⟨aok, capk, rfl, hr13, hnck, hg13⟩ := IsR.owned (f := fI) (s := 1) fI_len (l := atL a) (n := (atL a).length) rfl hown13
      have Hk13 := Lib.hid hr13
      clear hb13 HC13 hown13 hr13 hg13 hnck
      have HC14 := Lib.hid (ints_to aoj aok (atL r).length capj (atL a).length capk (atL r) (atL a) w13 Hj13.out Hk13.out (atL_short HCR.out) HRA.out)
      go_wp2_with fail
      refine (HC14.out).mono ?_; rintro e w14 ⟨rfl, hb14⟩
      have HB14 := Lib.hid (below_two HB13.out hb14)
      have Hd14 := Lib.hid (Hd13.out.later hb14)
      have Hf14 := Lib.hid (Hf13.out.later hb14)
      have Hz14 := Lib.hid (Hz13.out.later hb14)
      have Hj14 := Lib.hid (Hj13.out.later hb14)
      have Hk14 := Lib.hid (Hk13.out.later hb14)
      clear hb14 HC14
      have HC15 := Lib.hid (atoms_to ao a.length c a w14 Hd14.out HCA.out)
      go_wp2_with fail
      refine (HC15.out).mono ?_; rintro e w15 ⟨v15, rfl, hown15, hb15⟩
      have HB15 := Lib.hid (below_two HB14.out hb15)
      have Hd15 := Lib.hid (Hd14.out.later hb15)
      have Hf15 := Lib.hid (Hf14.out.later hb15)
      obtain ⟨aog, capg, rfl, hr15, hncg, hg15⟩ := IsR.owned (f := fI) (s := 1) fI_len (l := atL a) (n := (atL a).length) rfl hown15
      have Hg15 := Lib.hid hr15
      clear hb15 HC15 hown15 hr15 hg15 hncg
      have HC16 := Lib.hid (atoms_to bo b.length d b w15 Hf15.out HCB.out)
      go_wp2_with fail
      refine (HC16.out).mono ?_; rintro e w16 ⟨v16, rfl, hown16, hb16⟩
      have HB16 := Lib.hid (below_two HB15.out hb16)
      have Hd16 := Lib.hid (Hd15.out.later hb16)
      have Hf16 := Lib.hid (Hf15.out.later hb16)
      have Hg16 := Lib.hid (Hg15.out.later hb16)
      obtain ⟨aol, capl, rfl, hr16, hncl, hg16⟩ := IsR.owned (f := fI) (s := 1) fI_len (l := atL b) (n := (atL b).length) rfl hown16
      have Hl16 := Lib.hid hr16
      clear hb16 HC16 hown16 hr16 hg16 hncl
      have HC17 := Lib.hid (ints_to aog aol (atL a).length capg (atL b).length capl (atL a) (atL b) w16 Hg16.out Hl16.out (atL_short HCA.out) HAB.out)
      go_wp2_with fail
      refine (HC17.out).mono ?_; rintro e w17 ⟨rfl, hb17⟩
      have HB17 := Lib.hid (below_two HB16.out hb17)
      have Hd17 := Lib.hid (Hd16.out.later hb17)
      have Hf17 := Lib.hid (Hf16.out.later hb17)
      have Hg17 := Lib.hid (Hg16.out.later hb17)
      have Hl17 := Lib.hid (Hl16.out.later hb17)
      clear hb17 HC17
      have HC18 := Lib.hid (known_any w17 (HT.out.below HB17.out))
      go_wp2_with fail
      refine (HC18.out).mono ?_; rintro e w18 ⟨rfl, hb18⟩
      have HB18 := Lib.hid (below_two HB17.out hb18)
      have Hd18 := Lib.hid (Hd17.out.later hb18)
      have Hf18 := Lib.hid (Hf17.out.later hb18)
      clear hb18 HC18
      go_wp2_with fail
      go_ret
      exact ⟨rfl, HB18.out⟩
    · skip
      have HC3 := Lib.hid (known_any w2 (HT.out.below HB2.out))
      go_wp2_with fail
      refine (HC3.out).mono ?_; rintro e w3 ⟨rfl, hb3⟩
      have HB3 := Lib.hid (below_two HB2.out hb3)
      have Hd3 := Lib.hid (Hd2.out.later hb3)
      have Hf3 := Lib.hid (Hf2.out.later hb3)
      clear hb3 HC3
      go_wp2_with fail
      go_ret
      exact ⟨rfl, HB3.out⟩
  · skip
    have HC2 := Lib.hid (known_any w1 (HT.out.below HB1.out))
    go_wp2_with fail
    refine (HC2.out).mono ?_; rintro e w2 ⟨rfl, hb2⟩
    have HB2 := Lib.hid (below_two HB1.out hb2)
    have Hd2 := Lib.hid (Hd1.out.later hb2)
    have Hf2 := Lib.hid (Hf1.out.later hb2)
    clear hb2 HC2
    go_wp2_with fail
    go_ret
    exact ⟨rfl, HB2.out⟩

theorem means_law (ao bo : Option Addr) (n c m d : Nat) (a b : List Pc) (w : World) (ht : Tab w) (h : IsR fP w ao n a) (k : IsR fP w bo m b) (hnc : ao = none → n = 0 ∧ c = 0) (hmc : bo = none → m = 0 ∧ d = 0) (hn : n * 32 ≤ 140737488355328) (hm : m * 32 ≤ 140737488355328) : Calls Tryd.prog 11 #[.slice ao n c, .slice bo m d] w fun e w' => e = .returned (.bool true) ∧ Below w.heap.size w w' := by
  by_cases hc : checkP a = 0 ∧ checkP b = 0
  · by_cases hs : sIP a = sIP b
    · exact means_same ao bo n c m d a b w ht h k hnc hmc hn hm hc.1 hc.2 hs
    · exact means_other ao bo n c m d a b w ht h k hnc hmc hn hm hc.1 hc.2 hs
  · exact means_bad ao bo n c m d a b w ht h k hnc hmc hn hm hc

end Go.Proofs.YtkocknhpnmkicaaDoor
