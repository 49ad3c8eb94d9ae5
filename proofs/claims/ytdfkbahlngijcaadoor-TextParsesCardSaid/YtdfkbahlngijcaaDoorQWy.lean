/- Text: the reference's reader: a line with an operation (printed by gen/genw_y.py). (printed by slim.py.) -/
import Derived.Test.YtdfkbahlngijcaaDoorQWv
import Derived.Test.YtdfkbahlngijcaaDoorQUm
namespace Go.Proofs.YtdfkbahlngijcaaDoor
open Go.RowKit
set_option linter.unusedVariables false

theorem st_two {x : Rd} {n : Nat} (hn : 1 ≤ n) : stOf x n = 2 ↔ x.ss ≠ [] ∧ x.last < 0 := by
  unfold stOf
  rw [if_neg (by omega)]
  split
  · rename_i h; exact ⟨fun e => absurd e (by decide), fun e => by have := e.2; omega⟩
  · rename_i h
    split
    · rename_i h2; exact ⟨fun e => absurd e (by decide), fun e => absurd h2 e.1⟩
    · rename_i h2; exact ⟨fun _ => ⟨h2, by omega⟩, fun _ => rfl⟩
theorem st_op {x : Rd} {n : Nat} {A : List (List Ov)} {m : List Ov} (hl : x.last < 0) : stOf { x with ss := A ++ [m] } (n + 1) = 2 := by
  unfold stOf
  rw [if_neg (by omega), if_neg (by show ¬ (0 ≤ x.last); omega), if_neg (by simp)]
set_option maxRecDepth 100000 in
set_option maxHeartbeats 16000000 in
theorem line_op_any (B bR : Nat) (x : Rd) (n : Nat) (row : List UInt8) (w : World) (hB : B ≤ w.heap.size) (h : RnS B bR x n w) (hl : row.length ≤ 1000000) (hn : 1 ≤ n) (hN : x.ss.length ≤ 1000000) (hop : ∀ l ∈ x.ss, l.length ≤ 1000000) (hh1 : (splitW row).getD 0 [] ≠ clientN) (hh2 : (splitW row).getD 0 [] ≠ pickN) :
    Calls Tryd.prog 49 #[.pointer (some ⟨bR, 0, none⟩), .string ⟨row.toArray⟩] w (LinePost B bR x n row w) := by
  obtain ⟨i0, hi0, hz0, hz1, hz2⟩ := info_parts infoOp7
  have HCU := Lib.hid (cut_any ⟨row.toArray⟩ w (by show row.toArray.size ≤ _; rw [List.size_toArray]; exact hl))
  unfold CutPost at HCU
  rw [show (⟨row.toArray⟩ : ByteArray).data.toList = row from List.toList_toArray ..] at HCU
  obtain ⟨vP, vQ, ss, hM, hss⟩ := h
  have HM := Lib.hid hM
  have HSS := Lib.hid hss
  have HSL := Lib.hid (show ss.length = x.ss.length by rw [← hss, List.length_map])
  have HOP := Lib.hid hop
  have HNO := Lib.hid (show ∀ w' : World, KeptR B bR w w' → opP x row = none → LinePost B bR x n row w (.returned (.bool false)) w' from fun w' hk hc => ⟨hk, .inr ⟨by unfold stepR; rw [if_neg (by omega), lineP_by, if_neg hh1, if_neg hh2, hc], rfl⟩⟩)
  have HYES := Lib.hid (show ∀ (w' : World) (y : Rd), KeptR B bR w w' → opP x row = some y → RnS B bR y (n + 1) w' → LinePost B bR x n row w (.returned (.bool true)) w' from fun w' y hk hc hr => ⟨hk, .inl ⟨y, by unfold stepR; rw [if_neg (by omega), lineP_by, if_neg hh1, if_neg hh2, hc], rfl, hr⟩⟩)
  generalize LinePost B bR x n row w = PP at *
  have hs0 := st_pos (x := x) hn
  have HS2 := Lib.hid (st_two (x := x) hn)
  have HPA := Lib.hid (fun u => refParse_any row u hl)
  obtain ⟨wd, r, hr⟩ : ∃ wd r, splitW row = wd :: r := by
    rcases h5 : splitW row with _ | ⟨wd, r⟩
    · exact absurd h5 (splitW_ne row)
    · exact ⟨wd, r, rfl⟩
  rw [hr] at HCU hh1 hh2
  have hh1 : wd ≠ clientN := hh1
  have hh2 : wd ≠ pickN := hh2
  have b1 : ((⟨wd.toArray⟩ : ByteArray).toList == [99, 108, 105, 101, 110, 116]) = false := by
    rw [ByteArray.toList_eq, beq_eq_false_iff_ne]; exact hh1
  have b2 : ((⟨wd.toArray⟩ : ByteArray).toList == [112, 105, 99, 107]) = false := by
    rw [ByteArray.toList_eq, beq_eq_false_iff_ne]; exact hh2
  have b3 : (wd == [99, 108, 105, 101, 110, 116]) = false := by rw [beq_eq_false_iff_ne]; exact hh1
  have b4 : (wd == [112, 105, 99, 107]) = false := by rw [beq_eq_false_iff_ne]; exact hh2
  have HRO := Lib.hid (show opP x row = if x.ss ≠ [] ∧ x.last < 0 then (match parO row with | some o => some { x with ss := addLast x.ss o } | none => none) else none from rfl)
  have HPR := Lib.hid (show parR row = match parO row with | some x => (x, 0) | none => (zeroO, 4) from rfl)
  generalize (⟨row.toArray⟩ : ByteArray) = Y at *
  clear hM hss hl hop hh1 hh2 hr
  go_enter Tryd.func49, Tryd.ntmps49
  go_wp2_with fail
  refine (HCU.out).mono ?_; rintro e1 w1 ⟨v1, rfl, how, hb1⟩
  have HB1 := Lib.hid hb1
  have HOW := Lib.hid how
  have HM1 := Lib.hid (HM.out.later hb1)
  have c10 : w1.cell? ⟨bR, 10, none⟩ = some (.int .i64 (stOf x n)) := rn_st HM1.out
  have hs1 := hb1.size
  obtain ⟨ao, cap, rfl, hao⟩ := own_form how
  obtain ⟨g9, rfl⟩ := hao (by simp)
  have c0 : w1.cell? ⟨g9, 0, none⟩ = some (.string ⟨wd.toArray⟩) := ows HOW.out (j := 0) rfl
  have HK1 := Lib.hid (KeptR.of_below (bR := bR) HB1.out hB)
  clear how hb1 HCU hao
  rw [List.length_cons]
  go_wp2_with fail
  refine (HPA.out _).mono ?_; rintro e2 w2 ⟨rfl, hb2⟩
  have hs2 := hb2.size
  have HK2 := Lib.hid (HK1.out.trans (KeptR.of_below (bR := bR) hb2 (by omega)))
  have HM2 := Lib.hid (HM1.out.later hb2)
  clear hb2 HPA c0 c10
  have HKA := Lib.hid (fun (o : Ov) => HK2.out.trans (KeptR.of_below (bR := bR) ((Below.refl w2.heap.size w2).alloc (Nat.le_refl _) (.cells (oC o) 51)) (by omega)))
  have HMA := Lib.hid (fun (o : Ov) => HM2.out.later ((Below.refl w2.heap.size w2).alloc (Nat.le_refl _) (.cells (oC o) 51)))
  by_cases h2 : stOf x n = 2
  · have hb22 : (stOf x n == 2) = true := by rw [h2]; rfl
    have hb23 : (stOf x n != 2) = false := by rw [h2]; rfl
    obtain ⟨hne, hlt⟩ := HS2.out.1 h2
    rcases hpo : parO row with _ | op
    · as_aux_lemma =>
        have HX := Lib.hid (show opP x row = none by rw [HRO.out, hpo, if_pos ⟨hne, hlt⟩])
        have hpr : parR row = (zeroO, 4) := by rw [HPR.out, hpo]
        rw [hpr]
        have d10 := rn_st (HMA.out zeroO)
        have HKZ := Lib.hid (HKA.out zeroO)
        unfold oC zeroO at d10 HKZ
        unfold oC zeroO
        clear h2 hne hlt hpo hpr
        go_wp2_with fail
        exact HNO.out _ HKZ.out HX.out
    · have HX := Lib.hid (show opP x row = some { x with ss := addLast x.ss op } by rw [HRO.out, hpo, if_pos ⟨hne, hlt⟩])
      have hpr : parR row = (op, 0) := by rw [HPR.out, hpo]
      rw [hpr]
      have HLT := Lib.hid hlt
      have H2 := Lib.hid h2
      obtain ⟨ss0, s, rfl⟩ : ∃ ss0 s, ss = ss0 ++ [s] := by
        have h5 : ss ≠ [] := by rintro rfl; exact hne (HSS.out.symm)
        exact ⟨ss.dropLast, ss.getLast h5, (List.dropLast_concat_getLast _).symm⟩
      have HLS := Lib.hid (show (ss0 ++ [s]).length = ss0.length + 1 from List.length_append)
      have hss0 : ss0.length ≤ 1000000 := by have := HSL.out; rw [HLS.out] at this; omega
      have HM3 := Lib.hid (HMA.out op)
      have HK3 := Lib.hid (HKA.out op)
      have HBL := Lib.hid (block_new w2 (.cells (oC op) 51))
      have hB3 : B ≤ (w2.alloc (.cells (oC op) 51)).heap.size := by rw [World.size_alloc]; omega
      unfold oC at HM3 HK3 HBL hB3
      unfold oC
      clear h2 hne hlt hpo hpr
      go_upto_region 33 with (fail)
      generalize w2.alloc (.cells #[.int .u8 op.k, .int .i64 op.slot, .int .i64 op.at_, .int .i64 op.n, .int .u32 op.id, .int .u8 op.g, .string op.t] 51) = w3 at *
      generalize w2.heap.size = bO at *
      obtain ⟨aoP, capP, rfl, haoP⟩ := own_form HM3.out.ownP
      rw [HLS.out] at HM3 haoP
      obtain ⟨g, rfl⟩ := haoP (by omega)
      have d10 := rn_st HM3.out
      have d8 := rd_PN HM3.out
      have hsub : ((ss0.length + 1 : Nat) : Int) - 1 = (ss0.length : Int) := by omega
      have dS : w3.cell? ⟨g, ss0.length, none⟩ = some (.slice s.a s.n s.c) := by
        have hfl : (flatR fPg ss0).length = ss0.length := by rw [flatR_len fPg_len]; omega
        have := HM3.out.ownP.cells (g := g) rfl ss0.length (pgV s) (by rw [flatR_app, flatR_one, List.getElem?_append_right (by rw [hfl]; exact Nat.le_refl _), hfl, Nat.sub_self]; rfl)
        rw [add_to] at this
        simpa [pgV] using this
      clear haoP
      have HSO := Lib.hid (show w3.ownsRow B 51 7 (.slice s.a s.n s.c) s.n (flatR fO s.l) from (HM3.out.rows s (by simp)).1)
      have HSN := Lib.hid (show s.n ≤ 1000000 by
        have h5 := (HM3.out.rows s (by simp)).2
        have h6 := HOP.out s.l (by rw [← HSS.out]; simp)
        omega)
      have hsn := HSN.out
      have HBO := Lib.hid (show w3.heap[bO]? = some (.cells #[.int .u8 op.k, .int .i64 op.slot, .int .i64 op.at_, .int .i64 op.n, .int .u32 op.id, .int .u8 op.g, .string op.t] 51 (0, 0)) from HBL.out)
      have z0 := block_cell HBO.out 0
      have z1 := block_cell HBO.out 1
      have z2 := block_cell HBO.out 2
      have z3 := block_cell HBO.out 3
      have z4 := block_cell HBO.out 4
      have z5 := block_cell HBO.out 5
      have z6 := block_cell HBO.out 6
      simp at z0 z1 z2 z3 z4 z5 z6
      have HBA := Lib.hid (show Below w3.heap.size w3 (w3.alloc (.cells #[.int .u8 op.k, .int .i64 op.slot, .int .i64 op.at_, .int .i64 op.n, .int .u32 op.id, .int .u8 op.g, .string op.t] 51 (0, 0))).drew from ((Below.refl w3.heap.size w3).alloc (Nat.le_refl _) _).drew)
      have hz3 := block_lt HM3.out.cells
      have hix : (ss0.length : Int) < (ss0.length : Int) + 1 := by omega
      have HEA := Lib.hid (show addLast x.ss op = ss0.map (·.l) ++ [s.l ++ [op]] by rw [← HSS.out, List.map_append]; exact addLast_app _ _ _)
      go_upto_region 37 with (fail)
      go_region_law (first
        | (refine step_append_lies _ (by rfl) _ _ _ (by rfl) B 51 i0 _ 7 56 Tryd.underlying60 hi0 hz0 hz1 hz2 rfl (by decide) _ s.n _ (by rfl) ((HSO.out.alloc _).drew) ⟨w3.heap.size, 0, none⟩ 1 1 (fO op) (by rfl) (by rfl) (World.news_of_block (cs := #[_, _, _, _, _, _, _]) (t := 51) (fr := (0, 0)) (heap_alloc_new w3 _)) (by simp [fO, Value.oneCell']) (by omega) (by unfold maxLen; omega) (by omega) (by simp; omega) (w3.heap.size + 1) (by simp) ?_; intro gg c4 w6 hown6 hgrow6 hat6 hlt6; obtain ⟨⟨x9, hx9⟩, hf9, ha9⟩ := AftON.two (fun _ => undef) (HM3.out.later HBA.out) hgrow6 hown6 (by rcases hat6 with h | h; exact .inl h; exact .inr (by rw [h]; show (w3.alloc _).heap.size ≤ _; simp)) (KeptR.of_below (bR := bR) HBA.out hB3) (Nat.le_trans hB3 HBA.out.size); unfold AftON at ha9; rw [if_neg (by decide)] at ha9; have HA9 := Lib.hid ha9; have u8 : w6.cell? ⟨bR, 8, none⟩ = some (.slice (some ⟨g, 0, none⟩) (ss0.length + 1) capP) := (block_cell (keep_append ((HSO.out.alloc _).drew) (HM3.out.later HBA.out).cells (by decide) hgrow6 (HM3.out.later HBA.out).cells) 8).trans rfl; clear hown6 hgrow6 hat6 hlt6 ha9))
      all_goals
        obtain ⟨vP2, y, hrm, hy, hk⟩ := HA9.out
        have HY := Lib.hid (HYES.out _ { x with ss := addLast x.ss op } (HK3.out.trans hk) HX.out ⟨vP2, vQ, ss0 ++ [y], by
          rw [HEA.out, st_op HLT.out]
          rw [H2.out] at hrm
          exact hrm, by
          show (ss0 ++ [y]).map (·.l) = addLast x.ss op
          rw [HEA.out, List.map_append, List.map_cons, List.map_nil, hy]⟩)
        clear hrm hy hk u8 hx9 hf9
        go_wp2_with fail
        exact HY.out
  · as_aux_lemma =>
      have hb22 : (stOf x n == 2) = false := by rw [beq_eq_false_iff_ne]; exact h2
      have hb23 : (stOf x n != 2) = true := by rw [bne_iff_ne]; exact h2
      have HX := Lib.hid (show opP x row = none by rw [HRO.out, if_neg (fun k => h2 (HS2.out.2 k))])
      have d10 := rn_st (HMA.out (parR row).1)
      have HKZ := Lib.hid (HKA.out (parR row).1)
      generalize parR row = pr at *
      obtain ⟨⟨k0, k1, k2, k3, k4, k5, k6⟩, er⟩ := pr
      unfold oC at d10 HKZ
      unfold oC
      simp only at d10 HKZ ⊢
      clear h2
      go_wp2_with fail
      exact HNO.out _ HKZ.out HX.out
end Go.Proofs.YtdfkbahlngijcaaDoor

