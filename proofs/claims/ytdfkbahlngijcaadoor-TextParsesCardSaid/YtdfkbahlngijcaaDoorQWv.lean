/- Text: the reference's reader: a client's line. (printed by slim.py.) -/
import Derived.Test.YtdfkbahlngijcaaDoorQWo
namespace Go.Proofs.YtdfkbahlngijcaaDoor
open Go.RowKit
set_option linter.unusedVariables false

theorem st_pos {x : Rd} {n : Nat} (hn : 1 ≤ n) : (stOf x n == 0) = false := by
  unfold stOf
  rw [if_neg (by omega)]
  split
  · rfl
  · split <;> rfl
theorem st_three {x : Rd} {n : Nat} (hn : 1 ≤ n) : stOf x n = 3 ↔ 0 ≤ x.last := by
  unfold stOf
  rw [if_neg (by omega)]
  split
  · rename_i h; exact ⟨fun _ => h, fun _ => rfl⟩
  · rename_i h
    split
    · exact ⟨fun e => absurd e (by decide), fun e => absurd e h⟩
    · exact ⟨fun e => absurd e (by decide), fun e => absurd e h⟩
theorem head_cons {ws : List (List UInt8)} {h : List UInt8} (hw : ws ≠ []) (e : ws.getD 0 [] = h) : ∃ r, ws = h :: r := by
  rcases ws with _ | ⟨a, r⟩
  · exact absurd rfl hw
  · exact ⟨r, by rw [← e]; rfl⟩
theorem clP_none {x : Rd} {r : List (List UInt8)} (h : numsW r = none) : clientP x (clientN :: r) = none := by
  unfold clientP
  split
  · rename_i hc
    obtain ⟨a, rfl⟩ : ∃ a, r = [a] := by
      have := hc.1
      match r, this with
      | [a], _ => exact ⟨a, rfl⟩
    unfold numsW at h
    rcases ha : numW a with _ | k
    · show (match numW a with | some n => if n = x.ss.length then some { x with ss := x.ss ++ [[]] } else none | none => none) = none
      rw [ha]
    · rw [ha] at h; cases h
  · rfl
theorem clP_nums {x : Rd} {r : List (List UInt8)} {l : List Int} (h : numsW r = some l) (hl : x.last < 0) : clientP x (clientN :: r) = if l.length = 1 ∧ l.getD 0 0 = (x.ss.length : Int) then some { x with ss := x.ss ++ [[]] } else none := by
  have hlen := numsW_len h
  unfold clientP
  by_cases h1 : r.length = 1
  · obtain ⟨a, rfl⟩ : ∃ a, r = [a] := by
      match r, h1 with
      | [a], _ => exact ⟨a, rfl⟩
    rw [if_pos ⟨rfl, rfl, hl⟩]
    show (match numW a with | some n => if n = x.ss.length then some { x with ss := x.ss ++ [[]] } else none | none => none) = _
    unfold numsW at h
    rcases ha : numW a with _ | k
    · rw [ha] at h; cases h
    · rw [ha] at h
      have h : some [(k : Int)] = some l := h
      injection h with h
      subst h
      show (if k = x.ss.length then some { x with ss := x.ss ++ [[]] } else none) = if 1 = 1 ∧ (k : Int) = (x.ss.length : Int) then _ else none
      by_cases hk : k = x.ss.length
      · rw [if_pos hk, if_pos ⟨rfl, by omega⟩]
      · rw [if_neg hk, if_neg (fun e => hk (by have := e.2; omega))]
  · rw [if_neg (fun e => h1 (by have h5 : r.length + 1 = 2 := e.1; omega)), if_neg (fun e => h1 (by omega))]
theorem clP_last {x : Rd} {r : List (List UInt8)} (hl : 0 ≤ x.last) : clientP x (clientN :: r) = none := by
  unfold clientP
  rw [if_neg (fun e => by have := e.2.2; omega)]
theorem st_client {x : Rd} {n : Nat} (hl : x.last < 0) : stOf { x with ss := x.ss ++ [[]] } (n + 1) = 2 := by
  unfold stOf
  rw [if_neg (by omega), if_neg (by show ¬ (0 ≤ x.last); omega), if_neg (by simp)]
set_option maxRecDepth 100000 in
set_option maxHeartbeats 8000000 in
theorem line_client_any (B bR : Nat) (x : Rd) (n : Nat) (row : List UInt8) (w : World) (hB : B ≤ w.heap.size) (h : RnS B bR x n w) (hl : row.length ≤ 1000000) (hn : 1 ≤ n) (hN : x.ss.length ≤ 1000000) (hh : (splitW row).getD 0 [] = clientN) :
    Calls Tryd.prog 49 #[.pointer (some ⟨bR, 0, none⟩), .string ⟨row.toArray⟩] w (LinePost B bR x n row w) := by
  obtain ⟨i0, hi0, hz0, hz1, hz2⟩ := info_parts infoOps
  have HCU := Lib.hid (cut_any ⟨row.toArray⟩ w (by show row.toArray.size ≤ _; rw [List.size_toArray]; exact hl))
  unfold CutPost at HCU
  rw [show (⟨row.toArray⟩ : ByteArray).data.toList = row from List.toList_toArray ..] at HCU
  have HSW := Lib.hid (fun wd hw => Nat.le_trans (splitW_word row wd hw) hl)
  have hfew : (splitW row).length ≤ 1000001 := by
    rw [splitW_len]
    have : row.count 32 ≤ row.length := List.count_le_length
    omega
  obtain ⟨vP, vQ, ss, hM, hss⟩ := h
  have HM := Lib.hid hM
  have HSS := Lib.hid hss
  have HSL := Lib.hid (show ss.length = x.ss.length by rw [← hss, List.length_map])
  have HNO := Lib.hid (show ∀ w' : World, KeptR B bR w w' → clientP x (splitW row) = none → LinePost B bR x n row w (.returned (.bool false)) w' from fun w' hk hc => ⟨hk, .inr ⟨by unfold stepR; rw [if_neg (by omega), lineP_by, if_pos hh, hc], rfl⟩⟩)
  have HYES := Lib.hid (show ∀ (w' : World) (y : Rd), KeptR B bR w w' → clientP x (splitW row) = some y → RnS B bR y (n + 1) w' → LinePost B bR x n row w (.returned (.bool true)) w' from fun w' y hk hc hr => ⟨hk, .inl ⟨y, by unfold stepR; rw [if_neg (by omega), lineP_by, if_pos hh, hc], rfl, hr⟩⟩)
  generalize LinePost B bR x n row w = PP at *
  obtain ⟨r, hr⟩ := head_cons (splitW_ne row) hh
  rw [hr] at HCU HSW HNO HYES hfew
  have hs0 := st_pos (x := x) hn
  have HS3 := Lib.hid (st_three (x := x) hn)
  generalize (⟨row.toArray⟩ : ByteArray) = Y at *
  clear hM hss hl hh hr
  go_enter Tryd.func49, Tryd.ntmps49
  go_wp2_with fail
  refine (HCU.out).mono ?_; rintro e1 w1 ⟨v1, rfl, how, hb1⟩
  have HB1 := Lib.hid hb1
  have HOW := Lib.hid how
  have HM1 := Lib.hid (HM.out.later hb1)
  have c10 : w1.cell? ⟨bR, 10, none⟩ = some (.int .i64 (stOf x n)) := rn_st HM1.out
  have hs1 := hb1.size
  obtain ⟨ao, cap, rfl, hao⟩ := own_form how
  obtain ⟨g9, rfl⟩ := hao (by simp)
  have c0 : w1.cell? ⟨g9, 0, none⟩ = some (.string ⟨clientN.toArray⟩) := ows HOW.out (j := 0) rfl
  unfold clientN at c0
  have HGL9 := Lib.hid (show g9 < w1.heap.size by obtain ⟨-, cur, hc⟩ := own_typ1 HOW.out (q := g9) rfl; exact block_lt hc)
  have hcap := own_cap HOW.out
  have HNU := Lib.hid (refnumbers_any r g9 1 r.length (cap - 1) w1 (fun j hj => by
    refine ows HOW.out (j := 1 + j) ?_
    rw [Nat.add_comm 1 j, List.getElem?_cons_succ, List.getElem?_eq_getElem hj]) HGL9.out rfl (by rw [List.length_cons] at hfew; omega) (fun y hy => HSW.out y (List.mem_cons_of_mem _ hy)))
  clear how hb1 HCU hao
  rw [List.length_cons] at hcap hfew ⊢
  have HK1 := Lib.hid (KeptR.of_below (bR := bR) HB1.out hB)
  by_cases hr0 : r = []
  · subst hr0
    have HX := Lib.hid (show clientP x [clientN] = none by unfold clientP; rw [if_neg (fun e => absurd e.1 (by decide))])
    have HNU0 := Lib.hid (fun o c => refnumbers_any [] g9 o 0 c w1 (fun j hj => absurd hj (Nat.not_lt_zero _)) HGL9.out rfl (by decide) (fun y hy => by cases hy))
    clear HNU hcap hfew
    simp only [List.length_nil, Nat.zero_add]
    by_cases h3 : stOf x n = 3
    · have hb3 : (stOf x n == 3) = true := by rw [h3]; rfl
      rw [h3] at hb3 c10 hs0
      clear h3
      go_wp2_with fail
      all_goals
        refine (HNU0.out _ _).mono ?_
        rintro e2 w2 ⟨hnp, hb2⟩
        obtain ⟨v, hev, hov⟩ := hnp
        subst hev
        have HK2 := Lib.hid (HK1.out.trans (KeptR.of_below hb2 (by omega)))
        have d10 : w2.cell? ⟨bR, 10, none⟩ = some (.int .i64 3) := (hb2.cell (p := ⟨bR, 10, none⟩) (block_lt HM1.out.cells)).trans c10
        obtain ⟨ao2, cap2, rfl, -⟩ := own_form hov
        clear hov hb2 HNU0
        go_upto_region 15 with (fail)
        go_quiet (fail)
        go_wp2_with fail
        exact HNO.out _ (HK2.out.trans (KeptR.drewN _ _)) HX.out
    · have hb3 : (stOf x n == 3) = false := by rw [beq_eq_false_iff_ne]; exact h3
      clear h3
      go_wp2_with fail
      all_goals
        refine (HNU0.out _ _).mono ?_
        rintro e2 w2 ⟨hnp, hb2⟩
        obtain ⟨v, hev, hov⟩ := hnp
        subst hev
        have HK2 := Lib.hid (HK1.out.trans (KeptR.of_below hb2 (by omega)))
        have d10 : w2.cell? ⟨bR, 10, none⟩ = some (.int .i64 (stOf x n)) := (hb2.cell (p := ⟨bR, 10, none⟩) (block_lt HM1.out.cells)).trans c10
        obtain ⟨ao2, cap2, rfl, -⟩ := own_form hov
        clear hov hb2 HNU0
        go_upto_region 15 with (fail)
        go_quiet (fail)
        go_wp2_with fail
        exact HNO.out _ (HK2.out.trans (KeptR.drewN _ _)) HX.out
  · have hm1 : 1 ≤ r.length := by
      rcases r with _ | ⟨a, r⟩
      · exact absurd rfl hr0
      · rw [List.length_cons]; omega
    have hc1 : ¬ (cap = 1) := by omega
    clear hr0
    generalize r.length = m at *
    go_wp2_with fail
    refine (HNU.out).mono ?_; rintro e2 w2 ⟨hnp, hb2⟩
    have HK2 := Lib.hid (HK1.out.trans (KeptR.of_below hb2 (by omega)))
    have HM2 := Lib.hid (HM1.out.later hb2)
    have d10 : w2.cell? ⟨bR, 10, none⟩ = some (.int .i64 (stOf x n)) := rn_st HM2.out
    have d8 := rd_PN HM2.out
    have hs2 := hb2.size
    unfold NumsPost at hnp
    clear hb2 HNU c10 c0
    rcases hnw : numsW r with _ | l
    · have HX := Lib.hid (clP_none (x := x) hnw)
      rw [hnw] at hnp
      replace hnp : e2 = .returned (.tuple #[.slice none 0 0, .bool false]) := hnp
      subst hnp
      clear hnw
      by_cases h3 : stOf x n = 3
      · as_aux_lemma =>
          have hb3 : (stOf x n == 3) = true := by rw [h3]; rfl
          clear h3
          go_upto_region 15 with (fail)
          go_quiet (fail)
          go_wp2_with fail
          exact HNO.out _ (HK2.out.trans (KeptR.drewN _ _)) HX.out
      · as_aux_lemma =>
          have hb3 : (stOf x n == 3) = false := by rw [beq_eq_false_iff_ne]; exact h3
          clear h3
          go_upto_region 15 with (fail)
          go_quiet (fail)
          go_wp2_with fail
          exact HNO.out _ (HK2.out.trans (KeptR.drewN _ _)) HX.out
    · rw [hnw] at hnp
      obtain ⟨v, hev, hov⟩ := hnp
      subst hev
      have HOV := Lib.hid hov
      obtain ⟨ao2, cap2, rfl, hao2⟩ := own_form hov
      by_cases h3 : stOf x n = 3
      · as_aux_lemma =>
          have HX := Lib.hid (clP_last (x := x) (r := r) (HS3.out.1 h3))
          have hb3 : (stOf x n == 3) = true := by rw [h3]; rfl
          clear h3 hnw hov hao2
          go_upto_region 15 with (fail)
          go_quiet (fail)
          go_wp2_with fail
          exact HNO.out _ (HK2.out.trans (KeptR.drewN _ _)) HX.out
      · have hlt : x.last < 0 := by
          rcases Int.lt_or_le x.last 0 with k | k
          · exact k
          · exact absurd (HS3.out.2 k) h3
        have HCP := Lib.hid (clP_nums hnw hlt)
        have HLT := Lib.hid hlt
        have hb3 : (stOf x n == 3) = false := by rw [beq_eq_false_iff_ne]; exact h3
        clear h3 hnw hlt
        by_cases h1 : l.length = 1
        · obtain ⟨a, rfl⟩ : ∃ a, l = [a] := by
            match l, h1 with
            | [a], _ => exact ⟨a, rfl⟩
          obtain ⟨g, rfl⟩ := hao2 (by simp)
          have d0 : w2.cell? ⟨g, 0, none⟩ = some (.int .i64 a) := by have := hov.cells (g := g) rfl 0 (.int .i64 a) rfl; rw [add_to] at this; simpa using this
          clear h1 hov hao2
          obtain ⟨aoP, capP, rfl, -⟩ := own_form HM2.out.ownP
          have hsl : ss.length = x.ss.length := HSL.out
          by_cases ha : a = (x.ss.length : Int)
          · subst ha
            have HX := Lib.hid (show clientP x (clientN :: r) = some { x with ss := x.ss ++ [[]] } by rw [HCP.out, if_pos ⟨rfl, rfl⟩])
            have hmi : ((x.ss.length : Int) != (ss.length : Int)) = false := by rw [hsl]; simp
            have hmi2 : ((x.ss.length : Int) == (ss.length : Int)) = true := by rw [hsl]; simp
            clear hsl
            go_upto_region 15 with (fail)
            go_quiet (fail)
            have HK3 := Lib.hid (HK2.out.trans (KeptR.drewN (B := B) (bR := bR) w2 nq))
            have HM3 := Lib.hid (HM2.out.later (show Below w2.heap.size w2 (w2.drewN nq) from ⟨rfl, rfl, rfl, Nat.le_refl _, fun _ _ => rfl⟩))
            have hB3 : B ≤ (w2.drewN nq).heap.size := by show B ≤ w2.heap.size; omega
            clear d0 d8 d10 HM2 HK2 HOV
            generalize w2.drewN nq = w3 at *
            have hssl : ss.length ≤ 1000000 := by rw [HSL.out]; omega
            have d8 := rd_PN HM3.out
            go_wp2_with (at_builtin; refine wpList_append_lies _ rfl _ _ 39 rfl B 60 i0 _ 1 24 Tryd.underlying39 hi0 hz0 hz1 hz2 rfl (by decide) _ ss.length _ rfl (HM3.out.ownP.alloc _) ⟨w3.heap.size, 0, none⟩ 1 1 [.slice none 0 0] rfl rfl (World.news_of_block (cs := #[_]) (t := 60) (fr := (0, 0)) (heap_alloc_new w3 _)) (by simp [Value.oneCell']) (by omega) (by unfold maxLen; omega) (by omega) (by simp; omega) (w3.heap.size + 1) (by simp) ?c1)
            case c1 =>
              intro gg cap5 w5 hown5 hgrow5 hat5 hlt5
              have hal := HM3.out.later (Below.alloc (Below.refl w3.heap.size w3) (Nat.le_refl _) (.cells #[.slice none 0 0] 60 (0, 0)))
              have hcl := hal.client hgrow5 hown5
              have hb0 : Below w3.heap.size w3 (w3.alloc (.cells #[.slice none 0 0] 60 (0, 0))) := Below.alloc (Below.refl w3.heap.size w3) (Nat.le_refl _) _
              have hc5 := keep_append hal.ownP hal.cells (by decide) hgrow5 hal.cells
              have hBa : B ≤ (w3.alloc (.cells #[.slice none 0 0] 60 (0, 0))).heap.size := Nat.le_trans hB3 hb0.size
              have k1 := KeptR.of_below (bR := bR) hb0 hB3
              have k2 := KeptR.own (bR := bR) hgrow5 hal.ownP hBa
              have hB5 : B ≤ w5.heap.size := Nat.le_trans hBa k2.size
              have k3 := KeptR.set (i := 8) (v := .slice (some ⟨gg, 0, none⟩) (ss.length + 1) cap5) hc5 (.inr rfl) hB5
              have hB6 := Nat.le_trans hB5 k3.size
              have k4 := KeptR.set (i := 10) (v := .int .i64 2) hcl.cells (.inr rfl) hB6
              have hp4 := hcl.put (ln' := 2) (grown_set2 _ _ 10 _) (block_setCell hcl.cells 10 (.int .i64 2))
              have HS := Lib.hid (show RnS B bR { x with ss := x.ss ++ [[]] } (n + 1) _ from ⟨_, _, _, by rw [st_client HLT.out]; exact hp4, by rw [List.map_append, HSS.out]; rfl⟩)
              have HY := Lib.hid (HYES.out _ _ (HK3.out.trans (((k1.trans k2).trans k3).trans k4)) HX.out HS.out)
              have p8 : w5.cell? ⟨bR, 8, none⟩ = some (.slice aoP ss.length capP) := (block_cell hc5 8).trans rfl
              have f8 := block_free hc5 8
              have p10 : (w5.setCell ⟨bR, 8, none⟩ (.slice (some ⟨gg, 0, none⟩) (ss.length + 1) cap5)).cell? ⟨bR, 10, none⟩ = some (.int .i64 (stOf x n)) := (block_cell hcl.cells 10).trans rfl
              have f10 := block_free hcl.cells 10
              clear hal hcl hc5 k1 k2 k3 k4 hown5 hgrow5 hat5 hlt5 hb0 hBa hp4
              go_wp2_with fail
              exact HY.out
          · as_aux_lemma =>
              have HX := Lib.hid (show clientP x (clientN :: r) = none by rw [HCP.out, if_neg (fun e => ha e.2)])
              have hmi : (a != (ss.length : Int)) = true := by rw [hsl, bne_iff_ne]; exact ha
              have hmi2 : (a == (ss.length : Int)) = false := by rw [hsl, beq_eq_false_iff_ne]; exact ha
              clear hsl ha
              go_upto_region 15 with (fail)
              go_quiet (fail)
              go_wp2_with fail
              exact HNO.out _ (HK2.out.trans (KeptR.drewN _ _)) HX.out
        · as_aux_lemma =>
            have HX := Lib.hid (show clientP x (clientN :: r) = none by rw [HCP.out, if_neg (fun e => h1 e.1)])
            have hb1 : ((l.length : Int) == 1) = false := by rw [beq_eq_false_iff_ne]; omega
            have hb2 : ((l.length : Int) != 1) = true := by rw [bne_iff_ne]; omega
            have H1 := Lib.hid h1
            clear h1 hov hao2
            generalize l.length = ll at *
            go_upto_region 15 with (fail)
            go_quiet (fail)
            go_wp2_with fail
            exact HNO.out _ (HK2.out.trans (KeptR.drewN _ _)) HX.out
end Go.Proofs.YtdfkbahlngijcaaDoor

