/- Diff: the program's Lines: its walk. -/
import Derived.Test.YtfbjbgknfdekfaaDoorEu
import Derived.Test.YtfbjbgknfdekfaaDoorEt
namespace Go.Proofs.YtfbjbgknfdekfaaDoor
open Go.RowKit
set_option linter.unusedVariables false

theorem ScrB.lens {xs ys : List Ln} {i k : Nat} {ds : List Pc} (h : ScrB xs ys i k ds) : ds.length ≤ i + k := h.1.2.1
theorem IsR.at0 {w w' : World} {b n : Nat} {l : List Ln} (h : IsR fS w (some ⟨b, 0, none⟩) n l) (hb : Below w.heap.size w w') {j : Nat} (hj : j < n) :
    w'.cell? ⟨b, j, none⟩ = some (.string ⟨(l[j]'(by have := h.1; omega)).toArray⟩) := by
  obtain ⟨b', o, e, h⟩ := h.ln hb hj
  injection e with e
  injection e with e1 e2
  subst e1 e2
  rw [Nat.zero_add] at h
  exact h
/-- what Lines returns -/
def LinPost (xs ys : List Ln) (w : World) (e : Ending) (w' : World) : Prop := ScrB xs ys xs.length ys.length (scrF xs ys) ∧ Rowed w (formP (scrF xs ys)) 0 e w'
theorem tot_rows (s : ByteArray) : tot (rowsL s.data.toList) = s.size := by
  rw [tot_flat, rows_join]
  exact Array.length_toList ..
theorem scrB_check {xs ys : List Ln} {ds : List Pc} (h : ScrB xs ys xs.length ys.length ds) (hl : xs.length + ys.length ≤ 4096) (hx : tot xs ≤ 1048576) (hy : tot ys ≤ 1048576) : checkP ds = 0 := by
  obtain ⟨h1, h2, h3, h4⟩ := scr_end h.1
  have := h.lens
  exact check_fits (by omega) h1 (by omega) (by omega)
/-- a row of the table, laid open -/
theorem TabAt.row {w : World} {bA br : Nat} {xs ys : List Ln} (h : TabAt w bA br xs ys) {w' : World} (hb : Below w.heap.size w w') (hbr : br < w.heap.size) {i o : Nat} (hi : i ≤ xs.length) (ho : o = i * (ys.length + 1)) : w'.cell? ⟨br, i, none⟩ = some (.slice (some ⟨bA, o, none⟩) (ys.length + 1) (ys.length + 1)) := by
  rw [ho]
  exact (hb.cell (p := ⟨br, i, none⟩) hbr).trans (h.1 i hi)
theorem TabAt.num {w : World} {bA br : Nat} {xs ys : List Ln} (h : TabAt w bA br xs ys) {w' : World} (hb : Below w.heap.size w w') (hbA : bA < w.heap.size) {i k o : Nat} (hi : i ≤ xs.length) (hk : k ≤ ys.length) (ho : o = i * (ys.length + 1)) : w'.cell? ⟨bA, o + k, none⟩ = some (.int .i64 (bst (xs.drop i) (ys.drop k) : Nat)) := by
  rw [ho]
  exact (hb.cell (p := ⟨bA, i * (ys.length + 1) + k, none⟩) hbA).trans (h.2 i k hi hk)
theorem keepP_is (tx : ByteArray) (r : Ln) (h : tx = ⟨r.toArray⟩) : (⟨1, (tx.size : Nat), ⟨#[]⟩⟩ : Pc) = keepP r := by
  unfold keepP
  have : tx.size = r.length := by rw [h]; show r.toArray.size = _; exact List.size_toArray ..
  rw [this]
theorem delP_is (tx : ByteArray) (r : Ln) (h : tx = ⟨r.toArray⟩) : (⟨3, (tx.size : Nat), ⟨#[]⟩⟩ : Pc) = delP r := by
  unfold delP
  have : tx.size = r.length := by rw [h]; show r.toArray.size = _; exact List.size_toArray ..
  rw [this]
theorem insP_is (tx : ByteArray) (r : Ln) (h : tx = ⟨r.toArray⟩) : (⟨2, 0, tx⟩ : Pc) = insP r := by
  unfold insP
  rw [h]

set_option maxRecDepth 100000 in
set_option maxHeartbeats 8000000 in
theorem linesD_any (a b : ByteArray) (w : World) (ha : a.size ≤ 1048576) (hb : b.size ≤ 1048576) (hna : (rowsL a.data.toList).length ≤ 1024) (hnb : (rowsL b.data.toList).length ≤ 1024) :
    Calls Tryd.prog 17 #[.string a, .string b] w (LinPost (rowsL a.data.toList) (rowsL b.data.toList) w) := by
  have HA := Lib.hid (fun w => lines_any a w ha)
  have HB := Lib.hid (fun w => lines_any b w hb)
  have HTX := Lib.hid (tot_rows a)
  have HTY := Lib.hid (tot_rows b)
  have HNX := Lib.hid (rowsL_ne a.data.toList)
  have HNY := Lib.hid (rowsL_ne b.data.toList)
  have HSA := Lib.hid ha
  have HSB := Lib.hid hb
  have ha' : ¬ ((1048576 : Int) < (a.size : Int)) := by omega
  have hb' : ¬ ((1048576 : Int) < (b.size : Int)) := by omega
  have hda : decide (1048576 < a.size) = false := decide_eq_false (by omega)
  have hdb : decide (1048576 < b.size) = false := decide_eq_false (by omega)
  generalize rowsL a.data.toList = xs at *
  generalize rowsL b.data.toList = ys at *
  generalize hlx : xs.length = lx at *
  generalize hly : ys.length = ly at *
  have HLX := Lib.hid hlx
  have HLY := Lib.hid hly
  clear hlx hly ha hb
  go_enter Tryd.func17, Tryd.ntmps17
  go_wp2_with fail
  refine (HA.out _).mono ?_; rintro e w1 ⟨⟨c1, rfl⟩, hx, hb1⟩
  have HB1 := Lib.hid hb1
  have HX1 := Lib.hid hx
  clear hx hb1
  go_wp2_with fail
  refine (HB.out _).mono ?_; rintro e w2 ⟨⟨c2, rfl⟩, hy, hb2⟩
  have HB2 := Lib.hid (HB1.out.trans (hb2.mono HB1.out.size))
  have HX2 := Lib.hid (HX1.out.later hb2)
  have HY2 := Lib.hid hy
  clear hy hb2
  have h1' : ¬ ((1024 : Int) < (lx : Int)) := by omega
  have h2' : ¬ ((1024 : Int) < (ly : Int)) := by omega
  have hdx : decide (1024 < lx) = false := decide_eq_false (by omega)
  have hdy : decide (1024 < ly) = false := decide_eq_false (by omega)
  have HT := Lib.hid (table_any xs ys lx ly c1 c2 _ _ w2 HX2.out HY2.out hna hnb (by rw [HTX.out]; have := HSA.out; omega))
  clear HA HB
  go_wp2_with fail
  refine (HT.out).mono ?_; rintro e w3 hpost
  obtain ⟨br, ct, rfl, hbr, hbA, htab, hb3⟩ := hpost
  rw [HLX.out]
  have HTAB := Lib.hid htab
  have HB3 := Lib.hid (HB2.out.trans (hb3.mono HB2.out.size))
  have HX3 := Lib.hid (HX2.out.later hb3)
  have HY3 := Lib.hid (HY2.out.later hb3)
  have HBR := Lib.hid hbr
  have HS3 := Lib.hid hb3.size
  have HBA := Lib.hid hbA
  clear htab hb3 HT hbr hbA hda hdb ha' hb'
  obtain ⟨bA, hA⟩ : ∃ bA, bA = w2.heap.size := ⟨_, rfl⟩
  rw [← hA] at HTAB HBA
  clear hA
  go_wp2_with fail
  go_loopw [9, 10, 11] (fun s9 s10 s11 wr => ∃ (i k : Nat) (ds : List Pc), i ≤ lx ∧ k ≤ ly ∧ s10 = .int .i64 i ∧ s11 = .int .i64 k ∧ ScrB xs ys i k ds ∧ wr.ownsRow w3.heap.size 45 3 s9 ds.length (flatR fP ds) ∧ Below w3.heap.size w3 wr) (fun _ s10 s11 _ => (lx - (intOf s10).toNat) + (ly - (intOf s11).toNat))
  case atStart => exact ⟨0, 0, [], Nat.zero_le _, Nat.zero_le _, rfl, rfl, scrB_start xs ys, own_nil _ _, Below.refl _ _⟩
  case round =>
    obtain ⟨i, k, ds, hi, hk, rfl, rfl, hscr, hown, hbr⟩ := hrel
    have HSC := Lib.hid hscr
    have HO := Lib.hid hown
    have HBW := Lib.hid hbr
    have HLD := Lib.hid (show ds.length ≤ 1000000 by have := hscr.lens; omega)
    have HSW := Lib.hid hbr.size
    clear hscr hown hbr
    by_cases hil : i < lx
    · have hil' : (i : Int) < (lx : Int) := by omega
      have HXL := Lib.hid (show i < xs.length by rw [HLX.out]; exact hil)
      by_cases hkl : k < ly
      · have hkl' : (k : Int) < (ly : Int) := by omega
        have HYL := Lib.hid (show k < ys.length by rw [HLY.out]; exact hkl)
        obtain ⟨tx, htx⟩ : ∃ tx : ByteArray, tx = ⟨(xs[i]'HXL.out).toArray⟩ := ⟨_, rfl⟩
        have xc : wr.cell? ⟨w.heap.size, i, none⟩ = some (.string tx) := by rw [htx]; exact HX3.out.at0 HBW.out (by omega)
        generalize hrx : xs[i]'HXL.out = rx at htx
        have HTXV := Lib.hid htx
        have HRX := Lib.hid hrx
        clear htx hrx
        obtain ⟨ty, hty⟩ : ∃ ty : ByteArray, ty = ⟨(ys[k]'HYL.out).toArray⟩ := ⟨_, rfl⟩
        have yc : wr.cell? ⟨w1.heap.size, k, none⟩ = some (.string ty) := by rw [hty]; exact HY3.out.at0 HBW.out (by omega)
        generalize hry : ys[k]'HYL.out = ry at hty
        have HTYV := Lib.hid hty
        have HRY := Lib.hid hry
        clear hty hry
        obtain ⟨o, ho⟩ : ∃ o, o = i * (ly + 1) := ⟨_, rfl⟩
        obtain ⟨o1, ho1⟩ : ∃ o1, o1 = (i + 1) * (ly + 1) := ⟨_, rfl⟩
        have r0 := HTAB.out.row HBW.out HBR.out (i := i) (o := o) (by rw [HLX.out]; omega) (by rw [HLY.out]; exact ho)
        have r1 := HTAB.out.row HBW.out HBR.out (i := i + 1) (o := o1) (by rw [HLX.out]; omega) (by rw [HLY.out]; exact ho1)
        rw [HLY.out] at r0 r1
        have m0 := HTAB.out.num HBW.out HBA.out (i := i) (k := k) (o := o) (by rw [HLX.out]; omega) (by rw [HLY.out]; omega) (by rw [HLY.out]; exact ho)
        have m1 := HTAB.out.num HBW.out HBA.out (i := i + 1) (k := k + 1) (o := o1) (by rw [HLX.out]; omega) (by rw [HLY.out]; omega) (by rw [HLY.out]; exact ho1)
        have m2 := HTAB.out.num HBW.out HBA.out (i := i) (k := k + 1) (o := o) (by rw [HLX.out]; omega) (by rw [HLY.out]; omega) (by rw [HLY.out]; exact ho)
        have hB1 := Nat.le_trans (bst_le (xs.drop (i + 1)) (ys.drop (k + 1))) (tot_drop xs (i + 1))
        rw [HTX.out] at hB1
        have htl : tx.size ≤ 1048576 := by
          have h1 := tot_at HXL.out
          have h2 := HSA.out
          rw [HTX.out, HRX.out] at h1
          rw [HTXV.out]
          show rx.toArray.size ≤ _
          rw [List.size_toArray]; omega
        have hrl : rx.length = tx.size := by rw [HTXV.out]; show _ = rx.toArray.size; rw [List.size_toArray]
        have HRL := Lib.hid hrl
        obtain ⟨B0, hB0⟩ : ∃ B0, B0 = bst (xs.drop i) (ys.drop k) := ⟨_, rfl⟩
        obtain ⟨B1, hB1'⟩ : ∃ B1, B1 = bst (xs.drop (i + 1)) (ys.drop (k + 1)) := ⟨_, rfl⟩
        obtain ⟨B2, hB2⟩ : ∃ B2, B2 = bst (xs.drop i) (ys.drop (k + 1)) := ⟨_, rfl⟩
        rw [← hB0] at m0
        rw [← hB1'] at m1 hB1
        rw [← hB2] at m2
        have HV0 := Lib.hid hB0
        have HV1 := Lib.hid hB1'
        have HV2 := Lib.hid hB2
        have hwv : IntKind.i64.wrap ((B1 : Int) + (tx.size : Int)) = (B1 : Int) + (tx.size : Int) := by
          have := HSA.out
          rw [IntKind.wrap_i64]; omega
        have hk1 : (k : Int) < (ly : Int) + 1 := by omega
        have hk2 : (k : Int) + 1 < (ly : Int) + 1 := by omega
        have hi1 : (i : Int) < (lx : Int) + 1 := by omega
        have hi2 : (i : Int) + 1 < (lx : Int) + 1 := by omega
        have hnik : ((i : Int) == (lx : Int)) = false := by rw [beq_eq_false_iff_ne]; omega
        have HB1L := Lib.hid hB1
        clear ho ho1 hB0 hB1' hB2 hrl hB1
        by_cases he : rx = ry
        · have hty : ty = tx := by rw [HTYV.out, HTXV.out, he]
          subst hty
          by_cases hA : B0 = B1 + ty.size
          · as_aux_lemma =>
              have HEQ := Lib.hid (show xs[i]'HXL.out = ys[k]'HYL.out from HRX.out.trans (he.trans HRY.out.symm))
              have HBB := Lib.hid (show bst (xs.drop i) (ys.drop k) = bst (xs.drop (i + 1)) (ys.drop (k + 1)) + (xs[i]'HXL.out).length by rw [← HV0.out, ← HV1.out, HRX.out, HRL.out]; exact hA)
              have hq : ((B0 : Int) == (B1 : Int) + (ty.size : Int)) = true := by rw [beq_iff_eq]; omega
              clear hA he
              go_wp2_with fail
              go_quiet (fail)
              generalize hwz : World.drewN _ _ = wz
              replace xc : wz.cell? ⟨w.heap.size, i, none⟩ = some (.string ty) := by rw [← hwz]; exact xc
              have HOwz := Lib.hid (show wz.ownsRow w3.heap.size 45 3 u9 ds.length (flatR fP ds) by rw [← hwz]; exact HO.out)
              have HBwz := Lib.hid (show Below w3.heap.size w3 wz by rw [← hwz]; exact below_drewN HBW.out _)
              have HBWwz := HBwz
              clear hwz
              have HPUT := Lib.hid (putPc_any w3.heap.size u9 ds 1 ty.size ⟨#[]⟩ wz HOwz.out HBwz.out.size HLD.out)
              go_wp2_with fail
              refine (HPUT.out).mono ?_; rintro e w5 ⟨v5, rfl, hown5, hb5⟩
              rw [keepP_is ty rx HTXV.out] at hown5
              have HO5 := Lib.hid hown5
              have HB5 := Lib.hid (HBwz.out.trans hb5)
              clear hown5 hb5 HPUT
              go_wp2_with fail
              go_roundw
              case rel => exact ⟨i + 1, k + 1, putL ds (keepP rx), by omega, by omega, by go_num, by go_num, by rw [← HRX.out]; exact scrB_keep HSC.out HXL.out HYL.out (HNX.out _ (List.getElem_mem _)) HEQ.out HBB.out, HO5.out, HB5.out⟩
              case measure => (simp [intOf] <;> omega)
          · have hq : ((B0 : Int) == (B1 : Int) + (ty.size : Int)) = false := by rw [beq_eq_false_iff_ne]; omega
            by_cases hB : B0 = B2
            · as_aux_lemma =>
                have HN1 := Lib.hid (show ∀ hi : i < xs.length, ¬ (xs[i] = ys[k]'HYL.out ∧ bst (xs.drop i) (ys.drop k) = bst (xs.drop (i + 1)) (ys.drop (k + 1)) + (xs[i]).length) from fun _ ⟨_, e⟩ => hA (by rw [HV0.out, HV1.out, ← HRL.out, ← HRX.out]; exact e))
                have HBB := Lib.hid (show i = xs.length ∨ bst (xs.drop i) (ys.drop k) = bst (xs.drop i) (ys.drop (k + 1)) from .inr (by rw [← HV0.out, ← HV2.out]; exact hB))
                have hq2 : ((B0 : Int) == (B2 : Int)) = true := by rw [beq_iff_eq]; omega
                clear hA he hB
                go_wp2_with fail
                go_quiet (fail)
                generalize hwz : World.drewN _ _ = wz
                replace r0 : wz.cell? ⟨br, i, none⟩ = some (.slice (some ⟨bA, o, none⟩) (ly + 1) (ly + 1)) := by rw [← hwz]; exact r0
                replace m0 : wz.cell? ⟨bA, o + k, none⟩ = some (.int .i64 (B0 : Nat)) := by rw [← hwz]; exact m0
                replace m2 : wz.cell? ⟨bA, o + (k + 1), none⟩ = some (.int .i64 (B2 : Nat)) := by rw [← hwz]; exact m2
                replace yc : wz.cell? ⟨w1.heap.size, k, none⟩ = some (.string ty) := by rw [← hwz]; exact yc
                have HOwz := Lib.hid (show wz.ownsRow w3.heap.size 45 3 u9 ds.length (flatR fP ds) by rw [← hwz]; exact HO.out)
                have HBwz := Lib.hid (show Below w3.heap.size w3 wz by rw [← hwz]; exact below_drewN HBW.out _)
                have HBWwz := HBwz
                clear hwz
                go_wp2_with fail
                go_quiet (fail)
                generalize hwz : World.drewN _ _ = wy
                replace yc : wy.cell? ⟨w1.heap.size, k, none⟩ = some (.string ty) := by rw [← hwz]; exact yc
                have HOwy := Lib.hid (show wy.ownsRow w3.heap.size 45 3 u9 ds.length (flatR fP ds) by rw [← hwz]; exact HOwz.out)
                have HBwy := Lib.hid (show Below w3.heap.size w3 wy by rw [← hwz]; exact below_drewN HBWwz.out _)
                have HBWwy := HBwy
                clear hwz
                have HPUT := Lib.hid (putPc_any w3.heap.size u9 ds 2 0 ty wy HOwy.out HBwy.out.size HLD.out)
                go_wp2_with fail
                refine (HPUT.out).mono ?_; rintro e w5 ⟨v5, rfl, hown5, hb5⟩
                rw [insP_is ty ry HTYV.out] at hown5
                have HO5 := Lib.hid hown5
                have HB5 := Lib.hid (HBwy.out.trans hb5)
                clear hown5 hb5 HPUT
                go_wp2_with fail
                go_roundw
                case rel => exact ⟨i, k + 1, putL ds (insP ry), by omega, by omega, by go_num, by go_num, by rw [← HRY.out]; exact scrB_ins HSC.out HYL.out (HNY.out _ (List.getElem_mem _)) HN1.out HBB.out, HO5.out, HB5.out⟩
                case measure => (simp [intOf] <;> omega)
            · as_aux_lemma =>
                have HN1 := Lib.hid (show ∀ hk : k < ys.length, ¬ (xs[i]'HXL.out = ys[k] ∧ bst (xs.drop i) (ys.drop k) = bst (xs.drop (i + 1)) (ys.drop (k + 1)) + (xs[i]'HXL.out).length) from fun _ ⟨_, e⟩ => hA (by rw [HV0.out, HV1.out, ← HRL.out, ← HRX.out]; exact e))
                have HN2 := Lib.hid (show ∀ hk : k < ys.length, bst (xs.drop i) (ys.drop k) ≠ bst (xs.drop i) (ys.drop (k + 1)) from fun _ e => hB (by rw [HV0.out, HV2.out]; exact e))
                have hq2 : ((B0 : Int) == (B2 : Int)) = false := by rw [beq_eq_false_iff_ne]; omega
                clear hA he hB
                go_wp2_with fail
                go_quiet (fail)
                generalize hwz : World.drewN _ _ = wz
                replace r0 : wz.cell? ⟨br, i, none⟩ = some (.slice (some ⟨bA, o, none⟩) (ly + 1) (ly + 1)) := by rw [← hwz]; exact r0
                replace m0 : wz.cell? ⟨bA, o + k, none⟩ = some (.int .i64 (B0 : Nat)) := by rw [← hwz]; exact m0
                replace m2 : wz.cell? ⟨bA, o + (k + 1), none⟩ = some (.int .i64 (B2 : Nat)) := by rw [← hwz]; exact m2
                replace xc : wz.cell? ⟨w.heap.size, i, none⟩ = some (.string ty) := by rw [← hwz]; exact xc
                have HOwz := Lib.hid (show wz.ownsRow w3.heap.size 45 3 u9 ds.length (flatR fP ds) by rw [← hwz]; exact HO.out)
                have HBwz := Lib.hid (show Below w3.heap.size w3 wz by rw [← hwz]; exact below_drewN HBW.out _)
                have HBWwz := HBwz
                clear hwz
                go_wp2_with fail
                go_quiet (fail)
                generalize hwz : World.drewN _ _ = wy
                replace xc : wy.cell? ⟨w.heap.size, i, none⟩ = some (.string ty) := by rw [← hwz]; exact xc
                have HOwy := Lib.hid (show wy.ownsRow w3.heap.size 45 3 u9 ds.length (flatR fP ds) by rw [← hwz]; exact HOwz.out)
                have HBwy := Lib.hid (show Below w3.heap.size w3 wy by rw [← hwz]; exact below_drewN HBWwz.out _)
                have HBWwy := HBwy
                clear hwz
                have HPUT := Lib.hid (putPc_any w3.heap.size u9 ds 3 ty.size ⟨#[]⟩ wy HOwy.out HBwy.out.size HLD.out)
                go_wp2_with fail
                refine (HPUT.out).mono ?_; rintro e w5 ⟨v5, rfl, hown5, hb5⟩
                rw [delP_is ty rx HTXV.out] at hown5
                have HO5 := Lib.hid hown5
                have HB5 := Lib.hid (HBwy.out.trans hb5)
                clear hown5 hb5 HPUT
                go_wp2_with fail
                go_roundw
                case rel => exact ⟨i + 1, k, putL ds (delP rx), by omega, by omega, by go_num, by go_num, by rw [← HRX.out]; exact scrB_del HSC.out HXL.out (HNX.out _ (List.getElem_mem _)) HN1.out HN2.out, HO5.out, HB5.out⟩
                case measure => (simp [intOf] <;> omega)
        · have hs1 := st_ne (t := tx) (u := ty) (by rw [HTXV.out, HTYV.out]; intro e; injection e with e; injection e with e; exact he e)
          have hs2 := st_ne' (t := tx) (u := ty) (by rw [HTXV.out, HTYV.out]; intro e; injection e with e; injection e with e; exact he e)
          by_cases hB : B0 = B2
          · as_aux_lemma =>
              have HN1 := Lib.hid (show ∀ hi : i < xs.length, ¬ (xs[i] = ys[k]'HYL.out ∧ bst (xs.drop i) (ys.drop k) = bst (xs.drop (i + 1)) (ys.drop (k + 1)) + (xs[i]).length) from fun _ ⟨e, _⟩ => he (HRX.out.symm.trans (e.trans HRY.out)))
              have HBB := Lib.hid (show i = xs.length ∨ bst (xs.drop i) (ys.drop k) = bst (xs.drop i) (ys.drop (k + 1)) from .inr (by rw [← HV0.out, ← HV2.out]; exact hB))
              have hq2 : ((B0 : Int) == (B2 : Int)) = true := by rw [beq_iff_eq]; omega
              clear he hB
              go_wp2_with fail
              go_quiet (fail)
              generalize hwz : World.drewN _ _ = wz
              replace r0 : wz.cell? ⟨br, i, none⟩ = some (.slice (some ⟨bA, o, none⟩) (ly + 1) (ly + 1)) := by rw [← hwz]; exact r0
              replace m0 : wz.cell? ⟨bA, o + k, none⟩ = some (.int .i64 (B0 : Nat)) := by rw [← hwz]; exact m0
              replace m2 : wz.cell? ⟨bA, o + (k + 1), none⟩ = some (.int .i64 (B2 : Nat)) := by rw [← hwz]; exact m2
              replace yc : wz.cell? ⟨w1.heap.size, k, none⟩ = some (.string ty) := by rw [← hwz]; exact yc
              have HOwz := Lib.hid (show wz.ownsRow w3.heap.size 45 3 u9 ds.length (flatR fP ds) by rw [← hwz]; exact HO.out)
              have HBwz := Lib.hid (show Below w3.heap.size w3 wz by rw [← hwz]; exact below_drewN HBW.out _)
              have HBWwz := HBwz
              clear hwz
              go_wp2_with fail
              go_quiet (fail)
              generalize hwz : World.drewN _ _ = wy
              replace yc : wy.cell? ⟨w1.heap.size, k, none⟩ = some (.string ty) := by rw [← hwz]; exact yc
              have HOwy := Lib.hid (show wy.ownsRow w3.heap.size 45 3 u9 ds.length (flatR fP ds) by rw [← hwz]; exact HOwz.out)
              have HBwy := Lib.hid (show Below w3.heap.size w3 wy by rw [← hwz]; exact below_drewN HBWwz.out _)
              have HBWwy := HBwy
              clear hwz
              have HPUT := Lib.hid (putPc_any w3.heap.size u9 ds 2 0 ty wy HOwy.out HBwy.out.size HLD.out)
              go_wp2_with fail
              refine (HPUT.out).mono ?_; rintro e w5 ⟨v5, rfl, hown5, hb5⟩
              rw [insP_is ty ry HTYV.out] at hown5
              have HO5 := Lib.hid hown5
              have HB5 := Lib.hid (HBwy.out.trans hb5)
              clear hown5 hb5 HPUT
              go_wp2_with fail
              go_roundw
              case rel => exact ⟨i, k + 1, putL ds (insP ry), by omega, by omega, by go_num, by go_num, by rw [← HRY.out]; exact scrB_ins HSC.out HYL.out (HNY.out _ (List.getElem_mem _)) HN1.out HBB.out, HO5.out, HB5.out⟩
              case measure => (simp [intOf] <;> omega)
          · as_aux_lemma =>
              have HN1 := Lib.hid (show ∀ hk : k < ys.length, ¬ (xs[i]'HXL.out = ys[k] ∧ bst (xs.drop i) (ys.drop k) = bst (xs.drop (i + 1)) (ys.drop (k + 1)) + (xs[i]'HXL.out).length) from fun _ ⟨e, _⟩ => he (HRX.out.symm.trans (e.trans HRY.out)))
              have HN2 := Lib.hid (show ∀ hk : k < ys.length, bst (xs.drop i) (ys.drop k) ≠ bst (xs.drop i) (ys.drop (k + 1)) from fun _ e => hB (by rw [HV0.out, HV2.out]; exact e))
              have hq2 : ((B0 : Int) == (B2 : Int)) = false := by rw [beq_eq_false_iff_ne]; omega
              clear he hB
              go_wp2_with fail
              go_quiet (fail)
              generalize hwz : World.drewN _ _ = wz
              replace r0 : wz.cell? ⟨br, i, none⟩ = some (.slice (some ⟨bA, o, none⟩) (ly + 1) (ly + 1)) := by rw [← hwz]; exact r0
              replace m0 : wz.cell? ⟨bA, o + k, none⟩ = some (.int .i64 (B0 : Nat)) := by rw [← hwz]; exact m0
              replace m2 : wz.cell? ⟨bA, o + (k + 1), none⟩ = some (.int .i64 (B2 : Nat)) := by rw [← hwz]; exact m2
              replace xc : wz.cell? ⟨w.heap.size, i, none⟩ = some (.string tx) := by rw [← hwz]; exact xc
              have HOwz := Lib.hid (show wz.ownsRow w3.heap.size 45 3 u9 ds.length (flatR fP ds) by rw [← hwz]; exact HO.out)
              have HBwz := Lib.hid (show Below w3.heap.size w3 wz by rw [← hwz]; exact below_drewN HBW.out _)
              have HBWwz := HBwz
              clear hwz
              go_wp2_with fail
              go_quiet (fail)
              generalize hwz : World.drewN _ _ = wy
              replace xc : wy.cell? ⟨w.heap.size, i, none⟩ = some (.string tx) := by rw [← hwz]; exact xc
              have HOwy := Lib.hid (show wy.ownsRow w3.heap.size 45 3 u9 ds.length (flatR fP ds) by rw [← hwz]; exact HOwz.out)
              have HBwy := Lib.hid (show Below w3.heap.size w3 wy by rw [← hwz]; exact below_drewN HBWwz.out _)
              have HBWwy := HBwy
              clear hwz
              have HPUT := Lib.hid (putPc_any w3.heap.size u9 ds 3 tx.size ⟨#[]⟩ wy HOwy.out HBwy.out.size HLD.out)
              go_wp2_with fail
              refine (HPUT.out).mono ?_; rintro e w5 ⟨v5, rfl, hown5, hb5⟩
              rw [delP_is tx rx HTXV.out] at hown5
              have HO5 := Lib.hid hown5
              have HB5 := Lib.hid (HBwy.out.trans hb5)
              clear hown5 hb5 HPUT
              go_wp2_with fail
              go_roundw
              case rel => exact ⟨i + 1, k, putL ds (delP rx), by omega, by omega, by go_num, by go_num, by rw [← HRX.out]; exact scrB_del HSC.out HXL.out (HNX.out _ (List.getElem_mem _)) HN1.out HN2.out, HO5.out, HB5.out⟩
              case measure => (simp [intOf] <;> omega)
      · obtain rfl : k = ly := by omega
        as_aux_lemma =>
          obtain ⟨tx, htx⟩ : ∃ tx : ByteArray, tx = ⟨(xs[i]'HXL.out).toArray⟩ := ⟨_, rfl⟩
          have xc : wr.cell? ⟨w.heap.size, i, none⟩ = some (.string tx) := by rw [htx]; exact HX3.out.at0 HBW.out (by omega)
          generalize hrx : xs[i]'HXL.out = rx at htx
          have HTXV := Lib.hid htx
          have HRX := Lib.hid hrx
          clear htx hrx
          have htl : tx.size ≤ 1048576 := by
            have h1 := tot_at HXL.out
            have h2 := HSA.out
            rw [HTX.out, HRX.out] at h1
            rw [HTXV.out]
            show rx.toArray.size ≤ _
            rw [List.size_toArray]; omega
          have HN1 := Lib.hid (show ∀ hk : k < ys.length, ¬ (xs[i]'HXL.out = ys[k] ∧ bst (xs.drop i) (ys.drop k) = bst (xs.drop (i + 1)) (ys.drop (k + 1)) + (xs[i]'HXL.out).length) from fun hk => absurd hk (by rw [HLY.out]; omega))
          have HN2 := Lib.hid (show ∀ hk : k < ys.length, bst (xs.drop i) (ys.drop k) ≠ bst (xs.drop i) (ys.drop (k + 1)) from fun hk => absurd hk (by rw [HLY.out]; omega))
          go_wp2_with fail
          go_quiet (fail)
          generalize hwz : World.drewN _ _ = wz
          replace xc : wz.cell? ⟨w.heap.size, i, none⟩ = some (.string tx) := by rw [← hwz]; exact xc
          have HOwz := Lib.hid (show wz.ownsRow w3.heap.size 45 3 u9 ds.length (flatR fP ds) by rw [← hwz]; exact HO.out)
          have HBwz := Lib.hid (show Below w3.heap.size w3 wz by rw [← hwz]; exact below_drewN HBW.out _)
          have HBWwz := HBwz
          clear hwz
          go_wp2_with fail
          go_quiet (fail)
          generalize hwz : World.drewN _ _ = wy
          replace xc : wy.cell? ⟨w.heap.size, i, none⟩ = some (.string tx) := by rw [← hwz]; exact xc
          have HOwy := Lib.hid (show wy.ownsRow w3.heap.size 45 3 u9 ds.length (flatR fP ds) by rw [← hwz]; exact HOwz.out)
          have HBwy := Lib.hid (show Below w3.heap.size w3 wy by rw [← hwz]; exact below_drewN HBWwz.out _)
          have HBWwy := HBwy
          clear hwz
          have HPUT := Lib.hid (putPc_any w3.heap.size u9 ds 3 tx.size ⟨#[]⟩ wy HOwy.out HBwy.out.size HLD.out)
          go_wp2_with fail
          refine (HPUT.out).mono ?_; rintro e w5 ⟨v5, rfl, hown5, hb5⟩
          rw [delP_is tx rx HTXV.out] at hown5
          have HO5 := Lib.hid hown5
          have HB5 := Lib.hid (HBwy.out.trans hb5)
          clear hown5 hb5 HPUT
          go_wp2_with fail
          go_roundw
          case rel => exact ⟨i + 1, k, putL ds (delP rx), by omega, by omega, by go_num, by go_num, by rw [← HRX.out]; exact scrB_del HSC.out HXL.out (HNX.out _ (List.getElem_mem _)) HN1.out HN2.out, HO5.out, HB5.out⟩
          case measure => (simp [intOf] <;> omega)
    · obtain rfl : i = lx := by omega
      by_cases hkl : k < ly
      · as_aux_lemma =>
          have hkl' : (k : Int) < (ly : Int) := by omega
          have HYL := Lib.hid (show k < ys.length by rw [HLY.out]; exact hkl)
          have HBB := Lib.hid (show i = xs.length ∨ bst (xs.drop i) (ys.drop k) = bst (xs.drop i) (ys.drop (k + 1)) from .inl HLX.out.symm)
          have HN1 := Lib.hid (show ∀ hi : i < xs.length, ¬ (xs[i] = ys[k]'HYL.out ∧ bst (xs.drop i) (ys.drop k) = bst (xs.drop (i + 1)) (ys.drop (k + 1)) + xs[i].length) from fun hi => absurd hi (by rw [HLX.out]; omega))
          obtain ⟨ty, hty⟩ : ∃ ty : ByteArray, ty = ⟨(ys[k]'HYL.out).toArray⟩ := ⟨_, rfl⟩
          have yc : wr.cell? ⟨w1.heap.size, k, none⟩ = some (.string ty) := by rw [hty]; exact HY3.out.at0 HBW.out (by omega)
          generalize hry : ys[k]'HYL.out = ry at hty
          have HTYV := Lib.hid hty
          have HRY := Lib.hid hry
          clear hty hry
          go_wp2_with fail
          go_quiet (fail)
          generalize hwz : World.drewN _ _ = wz
          replace yc : wz.cell? ⟨w1.heap.size, k, none⟩ = some (.string ty) := by rw [← hwz]; exact yc
          have HOwz := Lib.hid (show wz.ownsRow w3.heap.size 45 3 u9 ds.length (flatR fP ds) by rw [← hwz]; exact HO.out)
          have HBwz := Lib.hid (show Below w3.heap.size w3 wz by rw [← hwz]; exact below_drewN HBW.out _)
          have HBWwz := HBwz
          clear hwz
          go_wp2_with fail
          go_quiet (fail)
          generalize hwz : World.drewN _ _ = wy
          replace yc : wy.cell? ⟨w1.heap.size, k, none⟩ = some (.string ty) := by rw [← hwz]; exact yc
          have HOwy := Lib.hid (show wy.ownsRow w3.heap.size 45 3 u9 ds.length (flatR fP ds) by rw [← hwz]; exact HOwz.out)
          have HBwy := Lib.hid (show Below w3.heap.size w3 wy by rw [← hwz]; exact below_drewN HBWwz.out _)
          have HBWwy := HBwy
          clear hwz
          have HPUT := Lib.hid (putPc_any w3.heap.size u9 ds 2 0 ty wy HOwy.out HBwy.out.size HLD.out)
          go_wp2_with fail
          refine (HPUT.out).mono ?_; rintro e w5 ⟨v5, rfl, hown5, hb5⟩
          rw [insP_is ty ry HTYV.out] at hown5
          have HO5 := Lib.hid hown5
          have HB5 := Lib.hid (HBwy.out.trans hb5)
          clear hown5 hb5 HPUT
          go_wp2_with fail
          go_roundw
          case rel => exact ⟨i, k + 1, putL ds (insP ry), by omega, by omega, by go_num, by go_num, by rw [← HRY.out]; exact scrB_ins HSC.out HYL.out (HNY.out _ (List.getElem_mem _)) HN1.out HBB.out, HO5.out, HB5.out⟩
          case measure => (simp [intOf] <;> omega)
      · obtain rfl : k = ly := by omega
        as_aux_lemma =>
          have HFIN := Lib.hid (show ScrB xs ys xs.length ys.length ds by rw [HLX.out, HLY.out]; exact HSC.out)
          have HCK := scrB_check HFIN.out (by rw [HLX.out, HLY.out]; omega) (by rw [HTX.out]; exact HSA.out) (by rw [HTY.out]; exact HSB.out)
          have HLEN := Lib.hid (show ds.length ≤ 2048 by have := HSC.out.lens; omega)
          obtain ⟨ao9, cap9, rfl, hR, -, -⟩ := IsR.owned (f := fP) (s := 3) fP_len (l := ds) (n := ds.length) rfl HO.out
          have HN := Lib.hid (normalize_any ao9 ds.length cap9 ds wr hR (by have := HLEN.out; omega))
          rw [show normL ds = formP ds from if_pos HCK, HCK] at HN
          have HBA2 := Lib.hid (HB3.out.trans (HBW.out.mono (Nat.le_trans HB2.out.size HS3.out)))
          have HSA2 := Lib.hid HBA2.out.size
          clear hR HCK
          go_wp2_with fail
          refine (HN.out).mono ?_; rintro e w6 ⟨v6, rfl, hown6, hb6⟩
          have HO6 := Lib.hid (own_mono hown6 HSA2.out)
          have HB6 := Lib.hid (below_two HBA2.out hb6)
          clear hown6 hb6
          go_wp2_with fail
          go_ret2
          have HSF := scrB_end HFIN.out
          rw [HSF] at HO6
          exact ⟨by rw [← HSF]; exact HFIN.out, _, rfl, HO6.out, HB6.out⟩
end Go.Proofs.YtfbjbgknfdekfaaDoor
