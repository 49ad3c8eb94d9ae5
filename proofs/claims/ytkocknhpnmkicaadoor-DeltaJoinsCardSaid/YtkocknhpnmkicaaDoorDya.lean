/- Deltas: the law Normalizes: its walk. -/
import Derived.Test.YtkocknhpnmkicaaDoorDy
namespace Go.Proofs.YtkocknhpnmkicaaDoor
open Go.RowKit
set_option linter.unusedVariables false

theorem norm_short (l : List Pc) : (normL l).length ≤ l.length := by
  unfold normL
  split
  · exact len_formP l
  · exact Nat.zero_le _
theorem own_cell {w : World} {B g n cap j : Nat} {e : TypeId} {xs : List Value} (h : w.ownsRow B e 3 (.slice (some ⟨g, 0, none⟩) n cap) n xs) (hj : j < n * 3) : ∃ u, w.cell? ⟨g, j, none⟩ = some u := by
  have h1 := h.1
  exact ⟨xs[j]'(by omega), (h.cellAt j hj).trans (List.getElem?_eq_getElem (by omega))⟩

set_option maxRecDepth 100000 in
set_option maxHeartbeats 4000000 in
theorem normalizes_law (ao : Option Addr) (n c : Nat) (l : List Pc) (w : World) (ht : Tab w) (h : IsR fP w ao n l) (hnc : ao = none → n = 0 ∧ c = 0) (hn : n * 32 ≤ 140737488355328) : Calls Tryd.prog 4 #[.slice ao n c] w fun e w' => e = .returned (.bool true) ∧ Below w.heap.size w w' := by
  have HT := Lib.hid ht
  have Hd0 := Lib.hid h
  have hl := h.1
  have HNC := Lib.hid hnc
  subst hl
  have hrl := norm_short l
  generalize hr : normL l = r at *
  generalize hck : checkP l = ck at *
  have HNR := Lib.hid hr
  have HNK := Lib.hid hck
  clear ht h hnc hr hck
  go_enter Tryd.func4, Tryd.ntmps4
  have HC1 := Lib.hid (own_any ao l.length c l w Hd0.out HNC.out hn)
  go_wp2_with fail
  refine (HC1.out).mono ?_; rintro e w1 ⟨v1, rfl, hown1, hb1⟩
  have HB1 := Lib.hid (below_two (Below.refl w.heap.size w) hb1)
  have Hd1 := Lib.hid (Hd0.out.later hb1)
  obtain ⟨aox, capx, rfl, hr1, hncx, hg1⟩ := IsR.owned (f := fP) (s := 3) fP_len (l := l) (n := (l).length) rfl hown1
  have Hx1 := Lib.hid hr1
  have HNx := Lib.hid hncx
  clear hb1 HC1 hown1 hr1 hg1 hncx
  have HRN := Lib.hid (show Calls Tryd.prog 23 #[.slice ao l.length c] w1 (Rowed w1 r ck) by
    have h := refNormalize_any ao l.length c l w1 Hd1.out (by omega)
    rw [HNR.out, HNK.out] at h
    exact h)
  have HC2 := Lib.hid (HRN.out)
  go_wp2_with fail
  refine (HC2.out).mono ?_; rintro e w2 ⟨v2, rfl, hown2, hb2⟩
  have HB2 := Lib.hid (below_two HB1.out hb2)
  have Hd2 := Lib.hid (Hd1.out.later hb2)
  have Hx2 := Lib.hid (Hx1.out.later hb2)
  obtain ⟨aoy, capy, rfl, hr2, hncy, hg2⟩ := IsR.owned (f := fP) (s := 3) fP_len (l := r) (n := (r).length) rfl hown2
  have Hy2 := Lib.hid hr2
  have HNy := Lib.hid hncy
  clear hb2 HC2 hown2 hr2 hg2 hncy
  go_wp2_with fail
  go_loopw [6, 7, 8, 9] (fun s6 _ _ _ wr => ∃ (k : Nat), k ≤ 2 ∧ s6 = .int .i64 k ∧ Below w2.heap.size w2 wr) (fun s6 _ _ _ _ => 2 - (intOf s6).toNat)
  case atStart => exact ⟨0, Nat.zero_le _, rfl, Below.refl _ _⟩
  case round =>
    obtain ⟨k, hk, rfl, hbr⟩ := hrel
    generalize wr = w3 at *
    have HBR := Lib.hid hbr
    have HB3 := Lib.hid (below_two HB2.out hbr)
    have Hd3 := Lib.hid (Hd2.out.later hbr)
    have Hx3 := Lib.hid (Hx2.out.later hbr)
    have Hy3 := Lib.hid (Hy2.out.later hbr)
    clear hbr
    by_cases hlt : k < 2
    · have hk1 : (k : Int) < 2 := by omega
      have HN4 := Lib.hid (normalize_to aox l.length capx l w3 Hx3.out (by omega) HNR.out HNK.out)
      go_wp2_with fail
      refine (HN4.out).mono ?_; rintro e w4 ⟨v4, rfl, hown4, hb4⟩
      have HB4 := Lib.hid (below_two HBR.out hb4)
      have HC4 := Lib.hid hb4
      have Hd4 := Lib.hid (Hd3.out.later hb4)
      have Hx4 := Lib.hid (Hx3.out.later hb4)
      have Hy4 := Lib.hid (Hy3.out.later hb4)
      have HO4 := Lib.hid hown4
      obtain ⟨aog, capg, rfl, hr4, -, hg4⟩ := IsR.owned (f := fP) (s := 3) fP_len (l := r) (n := r.length) rfl hown4
      have Hg4 := Lib.hid hr4
      have HG := Lib.hid hg4
      clear hb4 HN4 hown4 hr4 hg4
      have HS5 := Lib.hid (refSame_self aog aoy r.length capg r.length capy r w4 Hg4.out Hy4.out (by omega))
      go_wp2_with fail
      refine (HS5.out).mono ?_; rintro e w5 ⟨rfl, hb5⟩
      have HB5 := Lib.hid (below_two HB4.out hb5)
      have HC5 := Lib.hid (below_two HC4.out hb5)
      have Hd5 := Lib.hid (Hd4.out.later hb5)
      have Hx5 := Lib.hid (Hx4.out.later hb5)
      have Hy5 := Lib.hid (Hy4.out.later hb5)
      have Hg5 := Lib.hid (Hg4.out.later hb5)
      have HO5 := Lib.hid (own_below HO4.out hb5)
      clear hb5 HS5
      have HS6 := Lib.hid (refSame_self aox ao l.length capx l.length c l w5 Hx5.out Hd5.out (by omega))
      go_wp2_with fail
      refine (HS6.out).mono ?_; rintro e w6 ⟨rfl, hb6⟩
      have HB6 := Lib.hid (below_two HB5.out hb6)
      have HC6 := Lib.hid (below_two HC5.out hb6)
      have Hd6 := Lib.hid (Hd5.out.later hb6)
      have Hx6 := Lib.hid (Hx5.out.later hb6)
      have Hy6 := Lib.hid (Hy5.out.later hb6)
      have Hg6 := Lib.hid (Hg5.out.later hb6)
      have HO6 := Lib.hid (own_below HO5.out hb6)
      clear hb6 HS6
      go_wp2_with fail
      go_loopw [9] (fun s9 wi => ∃ (i : Nat) (xs : List Value), i ≤ r.length ∧ s9 = .int .i64 i ∧ wi.ownsRow w3.heap.size 38 3 (.slice aog r.length capg) r.length xs ∧ Below w3.heap.size w3 wi) (fun s9 _ => r.length - (intOf s9).toNat)
      case atStart => exact ⟨0, _, Nat.zero_le _, rfl, HO6.out, HC6.out⟩
      case round =>
        obtain ⟨i, xs, hi, rfl, hown, hbi⟩ := hrel
        have HBI := Lib.hid hbi
        by_cases hlt2 : i < r.length
        · have hi1 : (i : Int) < (r.length : Int) := by omega
          have hi0 : (0 : Int) ≤ (i : Int) := by omega
          obtain ⟨gb, rfl, hgb, -⟩ := HG.out (by omega)
          obtain ⟨u0, c0⟩ := own_cell hown (j := i * 3) (by omega)
          obtain ⟨u1, c1⟩ := own_cell hown (j := i * 3 + 1) (by omega)
          obtain ⟨u2, c2⟩ := own_cell hown (j := i * 3 + 2) (by omega)
          have f0 := hown.frozenAt (i * 3)
          have f1 := hown.frozenAt (i * 3 + 1)
          have f2 := hown.frozenAt (i * 3 + 2)
          have HOI := Lib.hid hown
          have HGB := Lib.hid hgb
          clear hown hbi hgb
          go_wp2_with fail
          go_roundw
          case rel => exact ⟨i + 1, _, by omega, by go_num, (((HOI.out.stored (i * 3) _).1.stored (i * 3 + 1) _).1.stored (i * 3 + 2) _).1, ((HBI.out.setCell (by exact HGB.out) _).setCell (by exact HGB.out) _).setCell (by exact HGB.out) _⟩
          case measure => simp [intOf]; omega
        · have hi1 : ¬ ((i : Int) < (r.length : Int)) := by omega
          clear hown hbi
          have HBX := Lib.hid (below_two HBR.out HBI.out)
          go_wp2_with fail
          go_roundw
          case rel => exact ⟨k + 1, by omega, by go_num, HBX.out⟩
          case measure => simp [intOf]; omega
    · obtain rfl : k = 2 := by omega
      have HC4 := Lib.hid (refSame_self aox ao l.length capx l.length c l w3 Hx3.out Hd3.out (by omega))
      go_wp2_with fail
      refine (HC4.out).mono ?_; rintro e w4 ⟨rfl, hb4⟩
      have HB4 := Lib.hid (below_two HB3.out hb4)
      have Hd4 := Lib.hid (Hd3.out.later hb4)
      have Hx4 := Lib.hid (Hx3.out.later hb4)
      clear hb4 HC4
      have HC5 := Lib.hid (known_any w4 (HT.out.below HB4.out))
      go_wp2_with fail
      refine (HC5.out).mono ?_; rintro e w5 ⟨rfl, hb5⟩
      have HB5 := Lib.hid (below_two HB4.out hb5)
      have Hd5 := Lib.hid (Hd4.out.later hb5)
      have Hx5 := Lib.hid (Hx4.out.later hb5)
      clear hb5 HC5
      go_wp2_with fail
      go_ret
      exact ⟨rfl, HB5.out⟩

end Go.Proofs.YtkocknhpnmkicaaDoor
