/- Text: the reference's reader: a line with picks (printed by gen/genw_x.py). (printed by slim.py.) -/
import Derived.Test.YtdfkbahlngijcaaDoorQWv
namespace Go.Proofs.YtdfkbahlngijcaaDoor
open Go.RowKit
set_option linter.unusedVariables false

theorem pkP_none {x : Rd} {r : List (List UInt8)} (h : numsW r = none) : pickP x (pickN :: r) = none := by
  unfold pickP
  split
  · show (match numsW r with | some l => if 1 ≤ l.getD 1 0 ∧ l.getD 0 0 ≠ x.last ∧ l.getD 1 0 ≤ 65535 - (x.ps.length : Int) then some { x with ps := x.ps ++ List.replicate (l.getD 1 0).toNat (l.getD 0 0), last := l.getD 0 0 } else none | none => none) = none
    rw [h]
  · rfl
theorem pkP_short {x : Rd} {r : List (List UInt8)} (h : r.length ≠ 2) : pickP x (pickN :: r) = none := by
  unfold pickP
  rw [if_neg (fun e => h (by have h5 : r.length + 1 = 3 := e.1; omega))]
theorem pkP_nums {x : Rd} {r : List (List UInt8)} {a b : Int} (h : numsW r = some [a, b]) : pickP x (pickN :: r) = if 1 ≤ b ∧ a ≠ x.last ∧ b ≤ 65535 - (x.ps.length : Int) then some { x with ps := x.ps ++ List.replicate b.toNat a, last := a } else none := by
  have hlen := numsW_len h
  unfold pickP
  rw [if_pos ⟨by show r.length + 1 = 3; rw [← hlen]; rfl, rfl⟩]
  show (match numsW r with | some l => if 1 ≤ l.getD 1 0 ∧ l.getD 0 0 ≠ x.last ∧ l.getD 1 0 ≤ 65535 - (x.ps.length : Int) then some { x with ps := x.ps ++ List.replicate (l.getD 1 0).toNat (l.getD 0 0), last := l.getD 0 0 } else none | none => none) = _
  rw [h]
  rfl
theorem st_pick {x : Rd} {n : Nat} {ps : List Int} {a : Int} (ha : 0 ≤ a) : stOf { x with ps := ps, last := a } (n + 1) = 3 ∧ laOf { x with ps := ps, last := a } = a := by
  unfold stOf laOf
  rw [if_neg (by omega), if_pos (show 0 ≤ a from ha)]
  exact ⟨rfl, if_pos ha⟩
set_option maxRecDepth 100000 in
set_option maxHeartbeats 16000000 in
theorem line_pick_any (B bR : Nat) (x : Rd) (n : Nat) (row : List UInt8) (w : World) (hB : B ≤ w.heap.size) (h : RnS B bR x n w) (hl : row.length ≤ 1000000) (hn : 1 ≤ n) (hN : x.ps.length ≤ 65535) (hh : (splitW row).getD 0 [] = pickN) :
    Calls Tryd.prog 49 #[.pointer (some ⟨bR, 0, none⟩), .string ⟨row.toArray⟩] w (LinePost B bR x n row w) := by
  obtain ⟨i0, hi0, hz0, hz1, hz2⟩ := info_parts infoInt
  have HCU := Lib.hid (cut_any ⟨row.toArray⟩ w (by show row.toArray.size ≤ _; rw [List.size_toArray]; exact hl))
  unfold CutPost at HCU
  rw [show (⟨row.toArray⟩ : ByteArray).data.toList = row from List.toList_toArray ..] at HCU
  have HSW := Lib.hid (fun wd hw => Nat.le_trans (splitW_word row wd hw) hl)
  have hfew : (splitW row).length ≤ 1000001 := by
    rw [splitW_len]
    have : row.count 32 ≤ row.length := List.count_le_length
    omega
  obtain ⟨vP, vQ, ss, hM, hss⟩ := h
  have HM := Lib.hid hM
  have HSS := Lib.hid hss
  have hcn : ¬ ((splitW row).getD 0 [] = clientN) := by rw [hh]; decide
  have HNO := Lib.hid (show ∀ w' : World, KeptR B bR w w' → pickP x (splitW row) = none → LinePost B bR x n row w (.returned (.bool false)) w' from fun w' hk hc => ⟨hk, .inr ⟨by unfold stepR; rw [if_neg (by omega), lineP_by, if_neg hcn, if_pos hh, hc], rfl⟩⟩)
  have HYES := Lib.hid (show ∀ (w' : World) (y : Rd), KeptR B bR w w' → pickP x (splitW row) = some y → RnS B bR y (n + 1) w' → LinePost B bR x n row w (.returned (.bool true)) w' from fun w' y hk hc hr => ⟨hk, .inl ⟨y, by unfold stepR; rw [if_neg (by omega), lineP_by, if_neg hcn, if_pos hh, hc], rfl, hr⟩⟩)
  generalize LinePost B bR x n row w = PP at *
  obtain ⟨r, hr⟩ := head_cons (splitW_ne row) hh
  rw [hr] at HCU HSW HNO HYES hfew
  have hs0 := st_pos (x := x) hn
  have HS3 := Lib.hid (st_three (x := x) hn)
  generalize (⟨row.toArray⟩ : ByteArray) = Y at *
  clear hM hss hl hh hr hcn
  go_enter Tryd.func49, Tryd.ntmps49
  go_wp2_with fail
  refine (HCU.out).mono ?_; rintro e1 w1 ⟨v1, rfl, how, hb1⟩
  have HB1 := Lib.hid hb1
  have HOW := Lib.hid how
  have HM1 := Lib.hid (HM.out.later hb1)
  have c10 : w1.cell? ⟨bR, 10, none⟩ = some (.int .i64 (stOf x n)) := rn_st HM1.out
  have hs1 := hb1.size
  obtain ⟨ao, cap, rfl, hao⟩ := own_form how
  obtain ⟨g9, rfl⟩ := hao (by simp)
  have c0 : w1.cell? ⟨g9, 0, none⟩ = some (.string ⟨pickN.toArray⟩) := ows HOW.out (j := 0) rfl
  unfold pickN at c0
  have HGL9 := Lib.hid (show g9 < w1.heap.size by obtain ⟨-, cur, hc⟩ := own_typ1 HOW.out (q := g9) rfl; exact block_lt hc)
  have hcap := own_cap HOW.out
  have HNU := Lib.hid (refnumbers_any r g9 1 r.length (cap - 1) w1 (fun j hj => by
    refine ows HOW.out (j := 1 + j) ?_
    rw [Nat.add_comm 1 j, List.getElem?_cons_succ, List.getElem?_eq_getElem hj]) HGL9.out rfl (by rw [List.length_cons] at hfew; omega) (fun y hy => HSW.out y (List.mem_cons_of_mem _ hy)))
  clear how hb1 HCU hao
  rw [List.length_cons] at hcap hfew ⊢
  have HK1 := Lib.hid (KeptR.of_below (bR := bR) HB1.out hB)
  by_cases hr0 : r = []
  · subst hr0
    have HX := Lib.hid (show pickP x [pickN] = none from pkP_short (by decide))
    have HNU0 := Lib.hid (fun o c => refnumbers_any [] g9 o 0 c w1 (fun j hj => absurd hj (Nat.not_lt_zero _)) HGL9.out rfl (by decide) (fun y hy => by cases hy))
    clear HNU hcap hfew
    simp only [List.length_nil, Nat.zero_add]
    go_wp2_with fail
    all_goals
      refine (HNU0.out _ _).mono ?_
      rintro e2 w2 ⟨hnp, hb2⟩
      obtain ⟨v, hev, hov⟩ := hnp
      subst hev
      have HK2 := Lib.hid (HK1.out.trans (KeptR.of_below hb2 (by omega)))
      obtain ⟨ao2, cap2, rfl, -⟩ := own_form hov
      clear hov hb2 HNU0
      go_upto_region 23 with (fail)
      go_quiet (fail)
      go_wp2_with fail
      exact HNO.out _ (HK2.out.trans (KeptR.drewN _ _)) HX.out
  · have hm1 : 1 ≤ r.length := by
      rcases r with _ | ⟨a, r⟩
      · exact absurd rfl hr0
      · rw [List.length_cons]; omega
    have hc1 : ¬ (cap = 1) := by omega
    have HRL := Lib.hid (show r.length = r.length from rfl)
    clear hr0
    obtain ⟨m, hm⟩ : ∃ m, r.length = m := ⟨_, rfl⟩
    have HMR := Lib.hid hm
    rw [hm] at HNU hcap hfew hm1 ⊢
    clear hm HRL
    go_wp2_with fail
    refine (HNU.out).mono ?_; rintro e2 w2 ⟨hnp, hb2⟩
    have HK2 := Lib.hid (HK1.out.trans (KeptR.of_below hb2 (by omega)))
    have HM2 := Lib.hid (HM1.out.later hb2)
    have d10 : w2.cell? ⟨bR, 10, none⟩ = some (.int .i64 (stOf x n)) := rn_st HM2.out
    have d11 := rd_lastN HM2.out
    have d9 := rd_QN HM2.out
    have hs2 := hb2.size
    unfold NumsPost at hnp
    clear hb2 HNU c10 c0
    rcases hnw : numsW r with _ | l
    · as_aux_lemma =>
        have HX := Lib.hid (pkP_none (x := x) hnw)
        rw [hnw] at hnp
        replace hnp : e2 = .returned (.tuple #[.slice none 0 0, .bool false]) := hnp
        subst hnp
        clear hnw
        go_upto_region 23 with (fail)
        go_quiet (fail)
        go_wp2_with fail
        exact HNO.out _ (HK2.out.trans (KeptR.drewN _ _)) HX.out
    · rw [hnw] at hnp
      obtain ⟨v, hev, hov⟩ := hnp
      subst hev
      have HOV := Lib.hid hov
      obtain ⟨ao2, cap2, rfl, hao2⟩ := own_form hov
      by_cases h2 : l.length = 2
      · obtain ⟨a, b, rfl⟩ := list2 l h2
        obtain ⟨g, rfl⟩ := hao2 (by simp)
        have d0 : w2.cell? ⟨g, 0, none⟩ = some (.int .i64 a) := by have := hov.cells (g := g) rfl 0 (.int .i64 a) rfl; rw [add_to] at this; simpa using this
        have d1 : w2.cell? ⟨g, 1, none⟩ = some (.int .i64 b) := by have := hov.cells (g := g) rfl 1 (.int .i64 b) rfl; rw [add_to] at this; simpa using this
        obtain ⟨aq, cq, rfl, -⟩ := own_form HM2.out.ownQ
        have HCP := Lib.hid (pkP_nums (x := x) hnw)
        have HOK := Lib.hid (numsW_ok hnw a (by simp))
        clear h2 hnw hov hao2
        by_cases h1 : 1 ≤ b
        · have g1 : decide (b < 1) = false := decide_eq_false (by omega)
          have H1 := Lib.hid h1
          by_cases h3 : stOf x n = 3
          · have hb3 : (stOf x n == 3) = true := by rw [h3]; rfl
            have hla : laOf x = x.last := by unfold laOf; rw [if_pos (HS3.out.1 h3)]
            have H3 := Lib.hid h3
            rw [hla] at d11 HM1 HM2
            by_cases h5 : a = x.last
            · as_aux_lemma =>
                have g5 : (a == x.last) = true := by rw [h5]; exact beq_self_eq_true _
                have HX := Lib.hid (show pickP x (pickN :: r) = none by rw [HCP.out, if_neg (fun k => k.2.1 h5)])
                clear h1 h3 h5
                go_upto_region 23 with (fail)
                go_quiet (fail)
                go_wp2_with fail
                exact HNO.out _ (HK2.out.trans (KeptR.drewN _ _)) HX.out
            · have g5 : (a == x.last) = false := by rw [beq_eq_false_iff_ne]; exact h5
              have H5 := Lib.hid h5
              clear h3 h5 h1 hla
              by_cases h4 : b ≤ 65535 - (x.ps.length : Int)
              · have g4 : decide (65535 - (x.ps.length : Int) < b) = false := decide_eq_false (by omega)
                have HX := Lib.hid (show pickP x (pickN :: r) = some { x with ps := x.ps ++ List.replicate b.toNat a, last := a } by rw [HCP.out, if_pos ⟨H1.out, H5.out, h4⟩])
                have H4 := Lib.hid h4
                have HNE : ∀ q, (Value.slice aq x.ps.length cq).ownBlock = some q → q ≠ g := fun q hq e => by
                  obtain ⟨-, cu, hcu⟩ := own_typ1 HM1.out.ownQ hq
                  have h5 := block_lt hcu
                  have h6 := (own_typ1 HOV.out (q := g) rfl).1
                  omega
                obtain ⟨cur, hcur⟩ := (own_typ1 HOV.out (q := g) rfl).2
                have HU0 := Lib.hid (show cur[0]? = some (.int .i64 a) from (block_cell hcur 0).symm.trans d0)
                have HU1 := Lib.hid (show cur[1]? = some (.int .i64 b) from (block_cell hcur 1).symm.trans d1)
                have HG := Lib.hid hcur
                have HNQ := Lib.hid HNE
                clear h4 hcur HNE
                go_upto_region 23 with (fail)
                go_quiet (fail)
                have HK3 := Lib.hid (HK2.out.trans (KeptR.drewN (B := B) (bR := bR) w2 nq))
                have HM3 := Lib.hid (HM2.out.later (show Below w2.heap.size w2 (w2.drewN nq) from ⟨rfl, rfl, rfl, Nat.le_refl _, fun _ _ => rfl⟩))
                have HG3 := Lib.hid (show (w2.drewN nq).heap[g]? = some (.cells cur 3 (0, 0)) from HG.out)
                have hB3 : B ≤ (w2.drewN nq).heap.size := by show B ≤ w2.heap.size; omega
                clear d0 d1 d9 d10 d11 HM2 HK2 HG HOV g1 g4 g5 hb3
                generalize w2.drewN nq = w3 at *
                have d1 : w3.cell? ⟨g, 1, none⟩ = some (.int .i64 b) := (block_cell HG3.out 1).trans HU1.out
                have HP0 := Lib.hid (show PkSN B bR g x.c vP (stOf x n) x.last ss x.ps cur w w3 from ⟨⟨_, _, HM3.out, HNQ.out⟩, HG3.out, HK3.out, hB3⟩)
                clear HM3
                go_wp2_with fail
                go_loopw [15] (fun s15 wr => ∃ j : Nat, (j : Int) ≤ b ∧ s15 = .int .i64 j ∧ PkSN B bR g x.c vP (stOf x n) x.last ss (x.ps ++ List.replicate j a) cur w wr) (fun s15 _ => b.toNat - (intOf s15).toNat)
                case atStart => exact ⟨0, by have := H1.out; omega, rfl, by rw [List.replicate_zero, List.append_nil]; exact HP0.out⟩
                case round =>
                  obtain ⟨j, hj, rfl, hpk⟩ := hrel
                  have HPK := Lib.hid hpk
                  clear hpk HP0 d1
                  by_cases hlt : (j : Int) < b
                  · have hj0 : (0 : Int) ≤ (j : Int) := by omega
                    have ha1 : b ≤ 65535 := by have := H4.out; omega
                    have hj1 : (j : Int) + 1 ≤ 65535 := by omega
                    have HPE := Lib.hid (show (x.ps ++ List.replicate j a) ++ [a] = x.ps ++ List.replicate (j + 1) a by rw [List.append_assoc, List.replicate_succ'])
                    have hpl : (x.ps ++ List.replicate j a).length ≤ 65535 := by rw [List.length_append, List.length_replicate]; have := H4.out; omega
                    generalize x.ps ++ List.replicate j a = ps at *
                    obtain ⟨aq2, cq2, hrm2, hnq2⟩ := HPK.out.rd
                    have HRM := Lib.hid hrm2
                    have HN2 := Lib.hid hnq2
                    have d1 : wr.cell? ⟨g, 1, none⟩ = some (.int .i64 b) := (block_cell HPK.out.nums 1).trans HU1.out
                    have d0 : wr.cell? ⟨g, 0, none⟩ = some (.int .i64 a) := (block_cell HPK.out.nums 0).trans HU0.out
                    have d9 := rd_QN hrm2
                    have hBr : B ≤ wr.heap.size := HPK.out.size
                    clear hrm2 hnq2
                    go_wp2_with (at_builtin; refine wpList_append_lies _ rfl _ _ 40 rfl B 3 i0 _ 1 8 Tryd.underlying40 hi0 hz0 hz1 hz2 rfl (by decide) _ ps.length _ rfl (HRM.out.ownQ.alloc _) ⟨wr.heap.size, 0, none⟩ 1 1 [.int .i64 a] rfl rfl (World.news_of_block (cs := #[_]) (t := 3) (fr := (0, 0)) (heap_alloc_new wr _)) (by simp [Value.oneCell']) (by omega) (by unfold maxLen; omega) (by omega) (by simp; omega) (wr.heap.size + 1) (by simp) ?c1)
                    case c1 =>
                      intro gg c4 w6 hown6 hgrow6 hat6 hlt6
                      have hal := HRM.out.later (Below.alloc (Below.refl wr.heap.size wr) (Nat.le_refl _) (.cells #[.int .i64 a] 3 (0, 0)))
                      have hbal : Below wr.heap.size wr (wr.alloc (.cells #[.int .i64 a] 3 (0, 0))) := Below.alloc (Below.refl wr.heap.size wr) (Nat.le_refl _) _
                      have hga := block_below hbal HPK.out.nums (block_lt HPK.out.nums)
                      have hka := HPK.out.kept.trans (KeptR.of_below (bR := bR) hbal hBr)
                      obtain ⟨⟨x9, hx9⟩, hf9, ha9⟩ := AftPN.two (fun _ => undef) hal HN2.out hga hgrow6 hown6 (by rcases hat6 with h | h; exact .inl h; exact .inr (by simp; omega)) hka (Nat.le_trans hBr hbal.size)
                      unfold AftPN at ha9
                      rw [if_neg (by decide)] at ha9
                      have HP2 := Lib.hid ha9
                      clear hal hbal hga hka ha9 hown6 hgrow6 hat6 hlt6
                      go_wp2_with fail
                      go_roundw
                      case rel => exact ⟨j + 1, by omega, by first | go_num | (rw [IntKind.wrap_i64]; congr 1; omega) | simp, by rw [← HPE.out]; exact HP2.out⟩
                      case measure => (simp [intOf] <;> omega)
                  · have HJ := Lib.hid (show b.toNat = j by omega)
                    obtain ⟨aq2, cq2, hrm2, hnq2⟩ := HPK.out.rd
                    have d0 : wr.cell? ⟨g, 0, none⟩ = some (.int .i64 a) := (block_cell HPK.out.nums 0).trans HU0.out
                    have d1 : wr.cell? ⟨g, 1, none⟩ = some (.int .i64 b) := (block_cell HPK.out.nums 1).trans HU1.out
                    have p10 := rn_st hrm2
                    have p11 := rd_lastN hrm2
                    have f10 := block_free hrm2.cells 10
                    have f11 := block_free hrm2.cells 11
                    have h5 := hrm2.put (ln' := 3) (last' := x.last) (grown_set2 _ _ 10 _) (block_setCell hrm2.cells 10 (.int .i64 3))
                    have h6 := h5.put (ln' := 3) (last' := a) (grown_set2 _ _ 11 _) (block_setCell h5.cells 11 (.int .i64 a))
                    have k1 := HPK.out.kept.trans (KeptR.set (i := 10) (v := .int .i64 3) hrm2.cells (.inr rfl) HPK.out.size)
                    have k2 := k1.trans (KeptR.set (i := 11) (v := .int .i64 a) h5.cells (.inr rfl) (Nat.le_trans HPK.out.size (grown_set2 _ _ _ _).size))
                    have HY := Lib.hid (HYES.out _ _ k2 HX.out ⟨_, _, ss, by
                      rw [(st_pick (x := x) (n := n) (ps := x.ps ++ List.replicate b.toNat a) HOK.out.1).1, (st_pick (x := x) (n := n) (ps := x.ps ++ List.replicate b.toNat a) HOK.out.1).2, HJ.out]
                      exact h6, HSS.out⟩)
                    have q11 : (wr.setCell ⟨bR, 10, none⟩ (.int .i64 3)).cell? ⟨bR, 11, none⟩ = some (.int .i64 x.last) := (block_cell h5.cells 11).trans rfl
                    have q11f := block_free h5.cells 11
                    have hlt1 : ¬ ((j : Int) < b) := hlt
                    clear hrm2 hnq2 h5 h6 k1 k2 hlt
                    go_wp2_with fail
                    exact HY.out
              · as_aux_lemma =>
                  have g4 : decide (65535 - (x.ps.length : Int) < b) = true := decide_eq_true (by omega)
                  have HX := Lib.hid (show pickP x (pickN :: r) = none by rw [HCP.out, if_neg (fun k => h4 k.2.2)])
                  clear h4
                  go_upto_region 23 with (fail)
                  go_quiet (fail)
                  go_wp2_with fail
                  exact HNO.out _ (HK2.out.trans (KeptR.drewN _ _)) HX.out
          · have hb3 : (stOf x n == 3) = false := by rw [beq_eq_false_iff_ne]; exact h3
            have hlt : x.last < 0 := by
              rcases Int.lt_or_le x.last 0 with k | k
              · exact k
              · exact absurd (HS3.out.2 k) h3
            have H5 := Lib.hid (show a ≠ x.last by have := HOK.out.1; omega)
            have g5 : True := trivial
            clear h3 h1 hlt
            by_cases h4 : b ≤ 65535 - (x.ps.length : Int)
            · have g4 : decide (65535 - (x.ps.length : Int) < b) = false := decide_eq_false (by omega)
              have HX := Lib.hid (show pickP x (pickN :: r) = some { x with ps := x.ps ++ List.replicate b.toNat a, last := a } by rw [HCP.out, if_pos ⟨H1.out, H5.out, h4⟩])
              have H4 := Lib.hid h4
              have HNE : ∀ q, (Value.slice aq x.ps.length cq).ownBlock = some q → q ≠ g := fun q hq e => by
                obtain ⟨-, cu, hcu⟩ := own_typ1 HM1.out.ownQ hq
                have h5 := block_lt hcu
                have h6 := (own_typ1 HOV.out (q := g) rfl).1
                omega
              obtain ⟨cur, hcur⟩ := (own_typ1 HOV.out (q := g) rfl).2
              have HU0 := Lib.hid (show cur[0]? = some (.int .i64 a) from (block_cell hcur 0).symm.trans d0)
              have HU1 := Lib.hid (show cur[1]? = some (.int .i64 b) from (block_cell hcur 1).symm.trans d1)
              have HG := Lib.hid hcur
              have HNQ := Lib.hid HNE
              clear h4 hcur HNE
              go_upto_region 23 with (fail)
              go_quiet (fail)
              have HK3 := Lib.hid (HK2.out.trans (KeptR.drewN (B := B) (bR := bR) w2 nq))
              have HM3 := Lib.hid (HM2.out.later (show Below w2.heap.size w2 (w2.drewN nq) from ⟨rfl, rfl, rfl, Nat.le_refl _, fun _ _ => rfl⟩))
              have HG3 := Lib.hid (show (w2.drewN nq).heap[g]? = some (.cells cur 3 (0, 0)) from HG.out)
              have hB3 : B ≤ (w2.drewN nq).heap.size := by show B ≤ w2.heap.size; omega
              clear d0 d1 d9 d10 d11 HM2 HK2 HG HOV g1 g4 g5 hb3
              generalize w2.drewN nq = w3 at *
              have d1 : w3.cell? ⟨g, 1, none⟩ = some (.int .i64 b) := (block_cell HG3.out 1).trans HU1.out
              have HP0 := Lib.hid (show PkSN B bR g x.c vP (stOf x n) (laOf x) ss x.ps cur w w3 from ⟨⟨_, _, HM3.out, HNQ.out⟩, HG3.out, HK3.out, hB3⟩)
              clear HM3
              go_wp2_with fail
              go_loopw [15] (fun s15 wr => ∃ j : Nat, (j : Int) ≤ b ∧ s15 = .int .i64 j ∧ PkSN B bR g x.c vP (stOf x n) (laOf x) ss (x.ps ++ List.replicate j a) cur w wr) (fun s15 _ => b.toNat - (intOf s15).toNat)
              case atStart => exact ⟨0, by have := H1.out; omega, rfl, by rw [List.replicate_zero, List.append_nil]; exact HP0.out⟩
              case round =>
                obtain ⟨j, hj, rfl, hpk⟩ := hrel
                have HPK := Lib.hid hpk
                clear hpk HP0 d1
                by_cases hlt : (j : Int) < b
                · have hj0 : (0 : Int) ≤ (j : Int) := by omega
                  have ha1 : b ≤ 65535 := by have := H4.out; omega
                  have hj1 : (j : Int) + 1 ≤ 65535 := by omega
                  have HPE := Lib.hid (show (x.ps ++ List.replicate j a) ++ [a] = x.ps ++ List.replicate (j + 1) a by rw [List.append_assoc, List.replicate_succ'])
                  have hpl : (x.ps ++ List.replicate j a).length ≤ 65535 := by rw [List.length_append, List.length_replicate]; have := H4.out; omega
                  generalize x.ps ++ List.replicate j a = ps at *
                  obtain ⟨aq2, cq2, hrm2, hnq2⟩ := HPK.out.rd
                  have HRM := Lib.hid hrm2
                  have HN2 := Lib.hid hnq2
                  have d1 : wr.cell? ⟨g, 1, none⟩ = some (.int .i64 b) := (block_cell HPK.out.nums 1).trans HU1.out
                  have d0 : wr.cell? ⟨g, 0, none⟩ = some (.int .i64 a) := (block_cell HPK.out.nums 0).trans HU0.out
                  have d9 := rd_QN hrm2
                  have hBr : B ≤ wr.heap.size := HPK.out.size
                  clear hrm2 hnq2
                  go_wp2_with (at_builtin; refine wpList_append_lies _ rfl _ _ 40 rfl B 3 i0 _ 1 8 Tryd.underlying40 hi0 hz0 hz1 hz2 rfl (by decide) _ ps.length _ rfl (HRM.out.ownQ.alloc _) ⟨wr.heap.size, 0, none⟩ 1 1 [.int .i64 a] rfl rfl (World.news_of_block (cs := #[_]) (t := 3) (fr := (0, 0)) (heap_alloc_new wr _)) (by simp [Value.oneCell']) (by omega) (by unfold maxLen; omega) (by omega) (by simp; omega) (wr.heap.size + 1) (by simp) ?c1)
                  case c1 =>
                    intro gg c4 w6 hown6 hgrow6 hat6 hlt6
                    have hal := HRM.out.later (Below.alloc (Below.refl wr.heap.size wr) (Nat.le_refl _) (.cells #[.int .i64 a] 3 (0, 0)))
                    have hbal : Below wr.heap.size wr (wr.alloc (.cells #[.int .i64 a] 3 (0, 0))) := Below.alloc (Below.refl wr.heap.size wr) (Nat.le_refl _) _
                    have hga := block_below hbal HPK.out.nums (block_lt HPK.out.nums)
                    have hka := HPK.out.kept.trans (KeptR.of_below (bR := bR) hbal hBr)
                    obtain ⟨⟨x9, hx9⟩, hf9, ha9⟩ := AftPN.two (fun _ => undef) hal HN2.out hga hgrow6 hown6 (by rcases hat6 with h | h; exact .inl h; exact .inr (by simp; omega)) hka (Nat.le_trans hBr hbal.size)
                    unfold AftPN at ha9
                    rw [if_neg (by decide)] at ha9
                    have HP2 := Lib.hid ha9
                    clear hal hbal hga hka ha9 hown6 hgrow6 hat6 hlt6
                    go_wp2_with fail
                    go_roundw
                    case rel => exact ⟨j + 1, by omega, by first | go_num | (rw [IntKind.wrap_i64]; congr 1; omega) | simp, by rw [← HPE.out]; exact HP2.out⟩
                    case measure => (simp [intOf] <;> omega)
                · have HJ := Lib.hid (show b.toNat = j by omega)
                  obtain ⟨aq2, cq2, hrm2, hnq2⟩ := HPK.out.rd
                  have d0 : wr.cell? ⟨g, 0, none⟩ = some (.int .i64 a) := (block_cell HPK.out.nums 0).trans HU0.out
                  have d1 : wr.cell? ⟨g, 1, none⟩ = some (.int .i64 b) := (block_cell HPK.out.nums 1).trans HU1.out
                  have p10 := rn_st hrm2
                  have p11 := rd_lastN hrm2
                  have f10 := block_free hrm2.cells 10
                  have f11 := block_free hrm2.cells 11
                  have h5 := hrm2.put (ln' := 3) (last' := laOf x) (grown_set2 _ _ 10 _) (block_setCell hrm2.cells 10 (.int .i64 3))
                  have h6 := h5.put (ln' := 3) (last' := a) (grown_set2 _ _ 11 _) (block_setCell h5.cells 11 (.int .i64 a))
                  have k1 := HPK.out.kept.trans (KeptR.set (i := 10) (v := .int .i64 3) hrm2.cells (.inr rfl) HPK.out.size)
                  have k2 := k1.trans (KeptR.set (i := 11) (v := .int .i64 a) h5.cells (.inr rfl) (Nat.le_trans HPK.out.size (grown_set2 _ _ _ _).size))
                  have HY := Lib.hid (HYES.out _ _ k2 HX.out ⟨_, _, ss, by
                    rw [(st_pick (x := x) (n := n) (ps := x.ps ++ List.replicate b.toNat a) HOK.out.1).1, (st_pick (x := x) (n := n) (ps := x.ps ++ List.replicate b.toNat a) HOK.out.1).2, HJ.out]
                    exact h6, HSS.out⟩)
                  have q11 : (wr.setCell ⟨bR, 10, none⟩ (.int .i64 3)).cell? ⟨bR, 11, none⟩ = some (.int .i64 (laOf x)) := (block_cell h5.cells 11).trans rfl
                  have q11f := block_free h5.cells 11
                  have hlt1 : ¬ ((j : Int) < b) := hlt
                  clear hrm2 hnq2 h5 h6 k1 k2 hlt
                  go_wp2_with fail
                  exact HY.out
            · as_aux_lemma =>
                have g4 : decide (65535 - (x.ps.length : Int) < b) = true := decide_eq_true (by omega)
                have HX := Lib.hid (show pickP x (pickN :: r) = none by rw [HCP.out, if_neg (fun k => h4 k.2.2)])
                clear h4
                go_upto_region 23 with (fail)
                go_quiet (fail)
                go_wp2_with fail
                exact HNO.out _ (HK2.out.trans (KeptR.drewN _ _)) HX.out
        · as_aux_lemma =>
            have g1 : decide (b < 1) = true := decide_eq_true (by omega)
            have HX := Lib.hid (show pickP x (pickN :: r) = none by rw [HCP.out, if_neg (fun k => h1 k.1)])
            clear h1
            go_upto_region 23 with (fail)
            go_quiet (fail)
            go_wp2_with fail
            exact HNO.out _ (HK2.out.trans (KeptR.drewN _ _)) HX.out
      · as_aux_lemma =>
          have HX := Lib.hid (pkP_short (x := x) (r := r) (by rw [← numsW_len hnw]; exact h2))
          have hb1 : ((l.length : Int) == 2) = false := by rw [beq_eq_false_iff_ne]; omega
          have hb2 : ((l.length : Int) != 2) = true := by rw [bne_iff_ne]; omega
          have H2 := Lib.hid h2
          clear h2 hov hao2 hnw
          generalize l.length = ll at *
          go_upto_region 23 with (fail)
          go_quiet (fail)
          go_wp2_with fail
          exact HNO.out _ (HK2.out.trans (KeptR.drewN _ _)) HX.out
end Go.Proofs.YtdfkbahlngijcaaDoor

