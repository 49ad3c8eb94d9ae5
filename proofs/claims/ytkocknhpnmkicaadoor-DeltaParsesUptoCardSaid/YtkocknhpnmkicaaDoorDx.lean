/- Deltas: the laws Identity, Checks, Prints, Equals: their walks. -/
import Derived.Test.YtkocknhpnmkicaaDoorDw
namespace Go.Proofs.YtkocknhpnmkicaaDoor
open Go.RowKit
set_option linter.unusedVariables false

theorem refSame_self (ao bo : Option Addr) (n c m d : Nat) (a : List Pc) (w : World) (h : IsR fP w ao n a) (k : IsR fP w bo m a) (hn : n ≤ 9223372036854775807) :
    Calls Tryd.prog 21 #[.slice ao n c, .slice bo m d] w fun e w' => e = .returned (.bool true) ∧ Below w.heap.size w w' := by
  have h := refSame_any ao bo n c m d a a w h k hn
  rw [show sameL a a = true from decide_eq_true rfl] at h
  exact h

set_option maxRecDepth 100000 in
set_option maxHeartbeats 4000000 in
theorem identity_law (n : Int) (w : World) (ht : Tab w) : Calls Tryd.prog 5 #[.int .i64 n] w fun e w' => e = .returned (.bool true) ∧ Below w.heap.size w w' := by
  have HT := Lib.hid ht
  clear ht
  have hlen : (idL n).length ≤ 1 := by unfold idL; split; simp; split; simp; split <;> simp
  go_enter Tryd.func5, Tryd.ntmps5
  have HC1 := Lib.hid (identity_any n w)
  go_wp2_with fail
  refine (HC1.out).mono ?_; rintro e w1 ⟨v1, rfl, hown1, hb1⟩
  have HB1 := Lib.hid (below_two (Below.refl w.heap.size w) hb1)
  obtain ⟨aox, capx, rfl, hr1, hncx, hg1⟩ := IsR.owned (f := fP) (s := 3) fP_len (l := idL n) (n := (idL n).length) rfl hown1
  have Hx1 := Lib.hid hr1
  have HNx := Lib.hid hncx
  clear hb1 HC1 hown1 hr1 hg1 hncx
  have HC2 := Lib.hid (refIdentity_any n w1)
  go_wp2_with fail
  refine (HC2.out).mono ?_; rintro e w2 ⟨v2, rfl, hown2, hb2⟩
  have HB2 := Lib.hid (below_two HB1.out hb2)
  have Hx2 := Lib.hid (Hx1.out.later hb2)
  obtain ⟨aoy, capy, rfl, hr2, hncy, hg2⟩ := IsR.owned (f := fP) (s := 3) fP_len (l := idL n) (n := (idL n).length) rfl hown2
  have Hy2 := Lib.hid hr2
  have HNy := Lib.hid hncy
  clear hb2 HC2 hown2 hr2 hg2 hncy
  have HC3 := Lib.hid (refSame_self aox aoy (idL n).length capx (idL n).length capy (idL n) w2 Hx2.out Hy2.out (by omega))
  go_wp2_with fail
  refine (HC3.out).mono ?_; rintro e w3 ⟨rfl, hb3⟩
  have HB3 := Lib.hid (below_two HB2.out hb3)
  have Hx3 := Lib.hid (Hx2.out.later hb3)
  have Hy3 := Lib.hid (Hy2.out.later hb3)
  clear hb3 HC3
  have HC4 := Lib.hid (known_any w3 (HT.out.below HB3.out))
  go_wp2_with fail
  refine (HC4.out).mono ?_; rintro e w4 ⟨rfl, hb4⟩
  have HB4 := Lib.hid (below_two HB3.out hb4)
  have Hx4 := Lib.hid (Hx3.out.later hb4)
  have Hy4 := Lib.hid (Hy3.out.later hb4)
  clear hb4 HC4
  go_wp2_with fail
  go_ret
  exact ⟨rfl, HB4.out⟩

set_option maxRecDepth 100000 in
set_option maxHeartbeats 4000000 in
theorem checks_law (ao : Option Addr) (n c : Nat) (l : List Pc) (w : World) (ht : Tab w) (h : IsR fP w ao n l) (hnc : ao = none → n = 0 ∧ c = 0) (hn : n * 32 ≤ 140737488355328) : Calls Tryd.prog 3 #[.slice ao n c] w fun e w' => e = .returned (.bool true) ∧ Below w.heap.size w w' := by
  have HT := Lib.hid ht
  have Hd0 := Lib.hid h
  have hl := h.1
  have HNC := Lib.hid hnc
  subst hl
  clear ht h hnc
  go_enter Tryd.func3, Tryd.ntmps3
  have HC1 := Lib.hid (own_any ao l.length c l w Hd0.out HNC.out hn)
  go_wp2_with fail
  refine (HC1.out).mono ?_; rintro e w1 ⟨v1, rfl, hown1, hb1⟩
  have HB1 := Lib.hid (below_two (Below.refl w.heap.size w) hb1)
  have Hd1 := Lib.hid (Hd0.out.later hb1)
  obtain ⟨aox, capx, rfl, hr1, hncx, hg1⟩ := IsR.owned (f := fP) (s := 3) fP_len (l := l) (n := (l).length) rfl hown1
  have Hx1 := Lib.hid hr1
  have HNx := Lib.hid hncx
  clear hb1 HC1 hown1 hr1 hg1 hncx
  have HC2 := Lib.hid (lengths_any aox l.length capx l w1 Hx1.out (by omega))
  go_wp2_with fail
  refine (HC2.out).mono ?_; rintro e w2 ⟨rfl, hb2⟩
  have HB2 := Lib.hid (below_two HB1.out hb2)
  have Hd2 := Lib.hid (Hd1.out.later hb2)
  have Hx2 := Lib.hid (Hx1.out.later hb2)
  clear hb2 HC2
  have HC3 := Lib.hid (refLengths_any ao l.length c l w2 Hd2.out (by omega))
  go_wp2_with fail
  refine (HC3.out).mono ?_; rintro e w3 ⟨rfl, hb3⟩
  have HB3 := Lib.hid (below_two HB2.out hb3)
  have Hd3 := Lib.hid (Hd2.out.later hb3)
  have Hx3 := Lib.hid (Hx2.out.later hb3)
  clear hb3 HC3
  have HC4 := Lib.hid (check_any aox l.length capx l w3 Hx3.out (by omega))
  go_wp2_with fail
  refine (HC4.out).mono ?_; rintro e w4 ⟨rfl, hb4⟩
  have HB4 := Lib.hid (below_two HB3.out hb4)
  have Hd4 := Lib.hid (Hd3.out.later hb4)
  have Hx4 := Lib.hid (Hx3.out.later hb4)
  clear hb4 HC4
  have HC5 := Lib.hid (refCheck_pc ao l.length c l w4 Hd4.out (by omega))
  go_wp2_with fail
  refine (HC5.out).mono ?_; rintro e w5 ⟨rfl, hb5⟩
  have HB5 := Lib.hid (below_two HB4.out hb5)
  have Hd5 := Lib.hid (Hd4.out.later hb5)
  have Hx5 := Lib.hid (Hx4.out.later hb5)
  clear hb5 HC5
  have HC6 := Lib.hid (normal_any aox l.length capx l w5 Hx5.out (by omega))
  go_wp2_with fail
  refine (HC6.out).mono ?_; rintro e w6 ⟨rfl, hb6⟩
  have HB6 := Lib.hid (below_two HB5.out hb6)
  have Hd6 := Lib.hid (Hd5.out.later hb6)
  have Hx6 := Lib.hid (Hx5.out.later hb6)
  clear hb6 HC6
  have HC7 := Lib.hid (refNormal_any ao l.length c l w6 Hd6.out (by omega))
  go_wp2_with fail
  refine (HC7.out).mono ?_; rintro e w7 ⟨rfl, hb7⟩
  have HB7 := Lib.hid (below_two HB6.out hb7)
  have Hd7 := Lib.hid (Hd6.out.later hb7)
  have Hx7 := Lib.hid (Hx6.out.later hb7)
  clear hb7 HC7
  have HC8 := Lib.hid (refSame_self aox ao l.length capx l.length c l w7 Hx7.out Hd7.out (by omega))
  go_wp2_with fail
  refine (HC8.out).mono ?_; rintro e w8 ⟨rfl, hb8⟩
  have HB8 := Lib.hid (below_two HB7.out hb8)
  have Hd8 := Lib.hid (Hd7.out.later hb8)
  have Hx8 := Lib.hid (Hx7.out.later hb8)
  clear hb8 HC8
  have HC9 := Lib.hid (known_any w8 (HT.out.below HB8.out))
  go_wp2_with fail
  refine (HC9.out).mono ?_; rintro e w9 ⟨rfl, hb9⟩
  have HB9 := Lib.hid (below_two HB8.out hb9)
  have Hd9 := Lib.hid (Hd8.out.later hb9)
  have Hx9 := Lib.hid (Hx8.out.later hb9)
  clear hb9 HC9
  go_wp2_with fail
  go_ret
  exact ⟨rfl, HB9.out⟩

set_option maxRecDepth 100000 in
set_option maxHeartbeats 4000000 in
theorem prints_law (ao : Option Addr) (n c : Nat) (l : List Pc) (w : World) (ht : Tab w) (h : IsR fP w ao n l) (hnc : ao = none → n = 0 ∧ c = 0) (hn : n * 32 ≤ 140737488355328) : Calls Tryd.prog 6 #[.slice ao n c] w fun e w' => e = .returned (.bool true) ∧ Below w.heap.size w w' := by
  have HT := Lib.hid ht
  have Hd0 := Lib.hid h
  have hl := h.1
  have HNC := Lib.hid hnc
  subst hl
  clear ht h hnc
  go_enter Tryd.func6, Tryd.ntmps6
  have HC1 := Lib.hid (own_any ao l.length c l w Hd0.out HNC.out hn)
  go_wp2_with fail
  refine (HC1.out).mono ?_; rintro e w1 ⟨v1, rfl, hown1, hb1⟩
  have HB1 := Lib.hid (below_two (Below.refl w.heap.size w) hb1)
  have Hd1 := Lib.hid (Hd0.out.later hb1)
  obtain ⟨aox, capx, rfl, hr1, hncx, hg1⟩ := IsR.owned (f := fP) (s := 3) fP_len (l := l) (n := (l).length) rfl hown1
  have Hx1 := Lib.hid hr1
  have HNx := Lib.hid hncx
  clear hb1 HC1 hown1 hr1 hg1 hncx
  have HC2 := Lib.hid (text_any aox l.length capx l w1 Hx1.out (by omega) (HT.out.below HB1.out))
  go_wp2_with fail
  refine (HC2.out).mono ?_; rintro e w2 ⟨rfl, hb2⟩
  have HB2 := Lib.hid (below_two HB1.out hb2)
  have Hd2 := Lib.hid (Hd1.out.later hb2)
  have Hx2 := Lib.hid (Hx1.out.later hb2)
  clear hb2 HC2
  have HC3 := Lib.hid (refText_any ao l.length c l w2 Hd2.out (by omega))
  go_wp2_with fail
  refine (HC3.out).mono ?_; rintro e w3 ⟨rfl, hb3⟩
  have HB3 := Lib.hid (below_two HB2.out hb3)
  have Hd3 := Lib.hid (Hd2.out.later hb3)
  have Hx3 := Lib.hid (Hx2.out.later hb3)
  clear hb3 HC3
  have HC4 := Lib.hid (known_any w3 (HT.out.below HB3.out))
  go_wp2_with fail
  refine (HC4.out).mono ?_; rintro e w4 ⟨rfl, hb4⟩
  have HB4 := Lib.hid (below_two HB3.out hb4)
  have Hd4 := Lib.hid (Hd3.out.later hb4)
  have Hx4 := Lib.hid (Hx3.out.later hb4)
  clear hb4 HC4
  go_wp2_with fail
  go_ret
  exact ⟨rfl, HB4.out⟩

set_option maxRecDepth 100000 in
set_option maxHeartbeats 4000000 in
theorem equals_law (ao : Option Addr) (n c : Nat) (a : List Pc) (bo : Option Addr) (m d : Nat) (b : List Pc) (w : World) (ht : Tab w) (h : IsR fP w ao n a) (k : IsR fP w bo m b) (hnc : ao = none → n = 0 ∧ c = 0) (hnk : bo = none → m = 0 ∧ d = 0) (hn : n * 32 ≤ 140737488355328) (hm : m * 32 ≤ 140737488355328) :
    Calls Tryd.prog 10 #[.slice ao n c, .slice bo m d] w fun e w' => e = .returned (.bool true) ∧ Below w.heap.size w w' := by
  have HT := Lib.hid ht
  have Ha0 := Lib.hid h
  have Hb0 := Lib.hid k
  have hl := h.1
  have hl2 := k.1
  have HNC := Lib.hid hnc
  have HNK := Lib.hid hnk
  subst hl
  subst hl2
  clear ht h k hnc hnk
  go_enter Tryd.func10, Tryd.ntmps10
  have HC1 := Lib.hid (own_any ao a.length c a w Ha0.out HNC.out hn)
  go_wp2_with fail
  refine (HC1.out).mono ?_; rintro e w1 ⟨v1, rfl, hown1, hb1⟩
  have HB1 := Lib.hid (below_two (Below.refl w.heap.size w) hb1)
  have Ha1 := Lib.hid (Ha0.out.later hb1)
  have Hb1 := Lib.hid (Hb0.out.later hb1)
  obtain ⟨aox, capx, rfl, hr1, hncx, hg1⟩ := IsR.owned (f := fP) (s := 3) fP_len (l := a) (n := (a).length) rfl hown1
  have Hx1 := Lib.hid hr1
  have HNx := Lib.hid hncx
  clear hb1 HC1 hown1 hr1 hg1 hncx
  have HC2 := Lib.hid (own_any bo b.length d b w1 Hb1.out HNK.out hm)
  go_wp2_with fail
  refine (HC2.out).mono ?_; rintro e w2 ⟨v2, rfl, hown2, hb2⟩
  have HB2 := Lib.hid (below_two HB1.out hb2)
  have Ha2 := Lib.hid (Ha1.out.later hb2)
  have Hb2 := Lib.hid (Hb1.out.later hb2)
  have Hx2 := Lib.hid (Hx1.out.later hb2)
  obtain ⟨aoy, capy, rfl, hr2, hncy, hg2⟩ := IsR.owned (f := fP) (s := 3) fP_len (l := b) (n := (b).length) rfl hown2
  have Hy2 := Lib.hid hr2
  have HNy := Lib.hid hncy
  clear hb2 HC2 hown2 hr2 hg2 hncy
  have HC3 := Lib.hid (equivalent_any aox aoy a.length capx b.length capy a b w2 Hx2.out Hy2.out (by omega) (by omega))
  go_wp2_with fail
  refine (HC3.out).mono ?_; rintro e w3 ⟨rfl, hb3⟩
  have HB3 := Lib.hid (below_two HB2.out hb3)
  have Ha3 := Lib.hid (Ha2.out.later hb3)
  have Hb3 := Lib.hid (Hb2.out.later hb3)
  have Hx3 := Lib.hid (Hx2.out.later hb3)
  have Hy3 := Lib.hid (Hy2.out.later hb3)
  clear hb3 HC3
  have HC4 := Lib.hid (refEquivalent_any ao bo a.length c b.length d a b w3 Ha3.out Hb3.out (by omega) (by omega))
  go_wp2_with fail
  refine (HC4.out).mono ?_; rintro e w4 ⟨rfl, hb4⟩
  have HB4 := Lib.hid (below_two HB3.out hb4)
  have Ha4 := Lib.hid (Ha3.out.later hb4)
  have Hb4 := Lib.hid (Hb3.out.later hb4)
  have Hx4 := Lib.hid (Hx3.out.later hb4)
  have Hy4 := Lib.hid (Hy3.out.later hb4)
  clear hb4 HC4
  have HC5 := Lib.hid (refSame_self aox ao a.length capx a.length c a w4 Hx4.out Ha4.out (by omega))
  go_wp2_with fail
  refine (HC5.out).mono ?_; rintro e w5 ⟨rfl, hb5⟩
  have HB5 := Lib.hid (below_two HB4.out hb5)
  have Ha5 := Lib.hid (Ha4.out.later hb5)
  have Hb5 := Lib.hid (Hb4.out.later hb5)
  have Hx5 := Lib.hid (Hx4.out.later hb5)
  have Hy5 := Lib.hid (Hy4.out.later hb5)
  clear hb5 HC5
  have HC6 := Lib.hid (refSame_self aoy bo b.length capy b.length d b w5 Hy5.out Hb5.out (by omega))
  go_wp2_with fail
  refine (HC6.out).mono ?_; rintro e w6 ⟨rfl, hb6⟩
  have HB6 := Lib.hid (below_two HB5.out hb6)
  have Ha6 := Lib.hid (Ha5.out.later hb6)
  have Hb6 := Lib.hid (Hb5.out.later hb6)
  have Hx6 := Lib.hid (Hx5.out.later hb6)
  have Hy6 := Lib.hid (Hy5.out.later hb6)
  clear hb6 HC6
  have HC7 := Lib.hid (known_any w6 (HT.out.below HB6.out))
  go_wp2_with fail
  refine (HC7.out).mono ?_; rintro e w7 ⟨rfl, hb7⟩
  have HB7 := Lib.hid (below_two HB6.out hb7)
  have Ha7 := Lib.hid (Ha6.out.later hb7)
  have Hb7 := Lib.hid (Hb6.out.later hb7)
  have Hx7 := Lib.hid (Hx6.out.later hb7)
  have Hy7 := Lib.hid (Hy6.out.later hb7)
  clear hb7 HC7
  go_wp2_with fail
  go_ret
  exact ⟨rfl, HB7.out⟩
end Go.Proofs.YtkocknhpnmkicaaDoor
