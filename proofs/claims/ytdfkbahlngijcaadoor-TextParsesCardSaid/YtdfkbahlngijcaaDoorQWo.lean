/- Text: the reference's reader: numbers; the first line. (printed by slim.py.) -/
import Derived.Test.YtdfkbahlngijcaaDoorQWn
import Derived.Test.YtdfkbahlngijcaaDoorQUl
namespace Go.Proofs.YtdfkbahlngijcaaDoor
open Go.RowKit
set_option linter.unusedVariables false

set_option maxRecDepth 100000 in
set_option maxHeartbeats 8000000 in
theorem refnumbers_any (ws : List (List UInt8)) (b o n c : Nat) (w : World) (hcells : ∀ j (h : j < ws.length), w.cell? ⟨b, o + j, none⟩ = some (.string ⟨(ws[j]).toArray⟩)) (hb : b < w.heap.size) (hn : ws.length = n) (hN : n ≤ 1000001) (hw : ∀ x ∈ ws, x.length ≤ 1000000) :
    Calls Tryd.prog 83 #[.slice (some ⟨b, o, none⟩) n c] w fun e w' => NumsPost w.heap.size ws e w' ∧ Below w.heap.size w w' := by
  obtain ⟨i0, hi0, hz0, hz1, hz2⟩ := info_parts infoInt
  have HC := Lib.hid hcells
  have HW := Lib.hid hw
  have HN := Lib.hid hn
  have HO0 := Lib.hid (show w.ownsRow w.heap.size 3 1 (.slice none 0 0) 0 (flatR fI []) from ⟨rfl, .inl ⟨rfl, rfl⟩⟩)
  clear hcells hw hn
  go_enter Tryd.func83, Tryd.ntmps83
  go_wp2_with fail
  go_loopw [4, 5] (fun s4 s5 wr => ∃ (j : Nat) (l : List Int), j ≤ n ∧ s5 = .int .i64 j ∧ numsW (ws.take j) = some l ∧ wr.ownsRow w.heap.size 3 1 s4 l.length (flatR fI l) ∧ Below w.heap.size w wr) (fun _ s5 _ => n - (intOf s5).toNat)
  case atStart => exact ⟨0, [], Nat.zero_le _, rfl, rfl, HO0.out, Below.refl _ _⟩
  case round =>
    obtain ⟨j, l, hj, rfl, hl, hown, hbr⟩ := hrel
    have HL := Lib.hid hl
    have HLL := Lib.hid (show l.length = j by rw [numsW_len hl, List.length_take, HN.out]; omega)
    have HOWN := Lib.hid hown
    have HBR := Lib.hid hbr
    have hlo := hbr.size
    clear hl hown HO0
    by_cases hlt : j < n
    · have hlt1 : (j : Int) < (n : Int) := by omega
      have hj0 : (0 : Int) ≤ (j : Int) := by omega
      have HJL := Lib.hid (show j < ws.length by rw [HN.out]; exact hlt)
      have c0 : wr.cell? ⟨b, o + j, none⟩ = some (.string ⟨(ws[j]'HJL.out).toArray⟩) := (hbr.cell (p := ⟨b, o + j, none⟩) hb).trans (HC.out j HJL.out)
      have HWL := Lib.hid (HW.out _ (List.getElem_mem HJL.out))
      have HT := Lib.hid (numsW_take HJL.out HL.out)
      have HS := Lib.hid (numsW_stop HJL.out HL.out)
      obtain ⟨wd, hwd⟩ : ∃ wd, wd = ws[j]'HJL.out := ⟨_, rfl⟩
      rw [← hwd] at c0
      have HT := Lib.hid (show numsW (ws.take (j + 1)) = match numW wd with | some n => some (l ++ [(n : Int)]) | none => none by rw [hwd]; exact HT.out)
      have HS := Lib.hid (show numW wd = none → numsW ws = none from fun h => HS.out (by rw [← hwd]; exact h))
      have HND := Lib.hid (refnumber_any ⟨wd.toArray⟩ wr (by have := HWL.out; rw [← hwd] at this; show wd.toArray.size ≤ _; rw [List.size_toArray]; omega))
      rw [show (⟨wd.toArray⟩ : ByteArray).data.toList = wd from List.toList_toArray ..] at HND
      obtain ⟨ao8, cap8, rfl, -⟩ := own_form HOWN.out
      clear hwd hbr HWL
      rcases hnw : numW wd with _ | m
      · as_aux_lemma =>
          rw [numR_none hnw] at HND
          have HX := Lib.hid (HS.out hnw)
          clear hnw
          go_wp2_with fail
          refine (HND.out).mono ?_; rintro e1 w1 ⟨rfl, rfl⟩
          go_wp2_with fail
          go_ret2
          exact ⟨numsPost_none HX.out, HBR.out⟩
      · as_aux_lemma =>
          rw [numR_some hnw] at HND
          have HX := Lib.hid (show numsW (ws.take (j + 1)) = some (l ++ [(m : Int)]) by rw [HT.out, hnw])
          have hlb : l.length ≤ 1000001 := by rw [HLL.out]; omega
          clear hnw
          go_wp2_with fail
          refine (HND.out).mono ?_; rintro e1 w1 ⟨rfl, rfl⟩
          go_wp2_with (at_builtin; refine wpList_append_lies _ rfl _ _ 40 rfl w.heap.size 3 i0 _ 1 8 Tryd.underlying40 hi0 hz0 hz1 hz2 rfl (by decide) _ l.length _ rfl (HOWN.out.alloc _) ⟨wr.heap.size, 0, none⟩ 1 1 [.int .i64 m] rfl rfl (World.news_of_block (cs := #[_]) (t := 3) (fr := (0, 0)) (heap_alloc_new wr _)) (by simp [Value.oneCell']) (by omega) (by unfold maxLen; omega) (by omega) (by simp; omega) (wr.heap.size + 1) (by simp) ?c1)
          case c1 =>
            intro gg cap w5 hown5 hgrow5 hat5 hlt5
            have HO5 := Lib.hid (show w5.ownsRow w.heap.size 3 1 (.slice (some ⟨gg, 0, none⟩) (l.length + 1) cap) (l ++ [(m : Int)]).length (flatR fI (l ++ [(m : Int)])) by
              rw [flatI_app, flatI_one, List.length_append]; exact hown5)
            have HB5 := Lib.hid (show Below w.heap.size w w5 from (HBR.out.alloc (by omega) _).grown hgrow5 (by simp; omega) fun q hq => (own_typ1 HOWN.out hq).1)
            clear hown5 hgrow5 hat5 hlt5 HND
            go_wp2_with fail
            go_roundw
            case rel => exact ⟨j + 1, l ++ [(m : Int)], by omega, by go_num, HX.out, HO5.out, HB5.out⟩
            case measure => (simp [intOf] <;> omega)
    · as_aux_lemma =>
        obtain rfl : j = n := by omega
        have hlt1 : ¬ ((j : Int) < (j : Int)) := by omega
        have HX := Lib.hid (show numsW ws = some l by have := HL.out; rw [List.take_of_length_le (by rw [HN.out]; omega)] at this; exact this)
        clear hlt hbr
        go_wp2_with fail
        go_ret2
        exact ⟨numsPost_some HX.out HOWN.out, HBR.out⟩
/-- one line, read -/
noncomputable def stepR (x : Rd) (n : Nat) (row : List UInt8) : Option Rd := if n = 0 then (cfgP (splitW row)).map (fun c => { x with c := c }) else lineP x row
def LinePost (B bR : Nat) (x : Rd) (n : Nat) (row : List UInt8) (w : World) (e : Ending) (w' : World) : Prop :=
  KeptR B bR w w' ∧ ((∃ y, stepR x n row = some y ∧ e = .returned (.bool true) ∧ RnS B bR y (n + 1) w') ∨ (stepR x n row = none ∧ e = .returned (.bool false)))
theorem own_cap {w : World} {B s n g cap : Nat} {t : TypeId} {xs : List Value} (h : w.ownsRow B t s (.slice (some ⟨g, 0, none⟩) n cap) n xs) : n ≤ cap := by
  obtain ⟨-, h⟩ := h
  rcases h with ⟨e, -⟩ | ⟨g', cap', cur, e, -, -, hc, -⟩
  · cases e
  · injection e with _ _ e3
    subst e3
    exact hc
theorem rn_st {B bR : Nat} {c : Cf} {vP vQ : Value} {ln last : Int} {ss : List Pg} {ps : List Int} {W : World} (h : RnM B bR c vP vQ ln last ss ps W) : W.cell? ⟨bR, 10, none⟩ = some (.int .i64 ln) := (block_cell h.cells 10).trans rfl
theorem ows {w : World} {B g n cap : Nat} {ws : List (List UInt8)} (h : w.ownsRow B 9 1 (.slice (some ⟨g, 0, none⟩) n cap) n (flatR fS ws)) {j : Nat} {x : List UInt8} (hj : ws[j]? = some x) : w.cell? ⟨g, j, none⟩ = some (.string ⟨x.toArray⟩) := by
  have e : flatR fS ws = ws.map fun x => Value.string ⟨x.toArray⟩ := by
    clear h hj
    induction ws with
    | nil => rfl
    | cons a r ih => show [_] ++ flatR fS r = _; rw [ih]; rfl
  have := h.cells (g := g) rfl j (.string ⟨x.toArray⟩) (by rw [e, List.getElem?_map, hj]; rfl)
  rw [add_to] at this
  simpa using this
set_option maxRecDepth 100000 in
set_option maxHeartbeats 8000000 in
theorem line_first (B bR : Nat) (row : List UInt8) (w : World) (hB : B ≤ w.heap.size) (h : RnS B bR zeroRd 0 w) (hl : row.length ≤ 1000000) :
    Calls Tryd.prog 49 #[.pointer (some ⟨bR, 0, none⟩), .string ⟨row.toArray⟩] w (LinePost B bR zeroRd 0 row w) := by
  have HCU := Lib.hid (cut_any ⟨row.toArray⟩ w (by show row.toArray.size ≤ _; rw [List.size_toArray]; exact hl))
  unfold CutPost at HCU
  rw [show (⟨row.toArray⟩ : ByteArray).data.toList = row from List.toList_toArray ..] at HCU
  have HSW := Lib.hid (fun wd hw => Nat.le_trans (splitW_word row wd hw) hl)
  obtain ⟨vP, vQ, ss, hM, hss⟩ := h
  have HM := Lib.hid hM
  have HSS := Lib.hid hss
  have HNO := Lib.hid (show ∀ w' : World, KeptR B bR w w' → cfgP (splitW row) = none → LinePost B bR zeroRd 0 row w (.returned (.bool false)) w' from fun w' hk hn => ⟨hk, .inr ⟨by unfold stepR; rw [if_pos rfl, hn]; rfl, rfl⟩⟩)
  have HYES := Lib.hid (show ∀ (w' : World) (c : Cf), KeptR B bR w w' → cfgP (splitW row) = some c → RnM B bR c vP vQ 1 0 ss [] w' → LinePost B bR zeroRd 0 row w (.returned (.bool true)) w' from fun w' c hk hc hr => ⟨hk, .inl ⟨{ zeroRd with c := c }, by unfold stepR; rw [if_pos rfl, hc]; rfl, rfl, vP, vQ, ss, hr, hss⟩⟩)
  generalize LinePost B bR zeroRd 0 row w = PP at *
  generalize splitW row = ws at *
  generalize (⟨row.toArray⟩ : ByteArray) = Y at *
  clear hM hss hl
  go_enter Tryd.func49, Tryd.ntmps49
  go_wp2_with fail
  refine (HCU.out).mono ?_; rintro e1 w1 ⟨v1, rfl, how, hb1⟩
  have HB1 := Lib.hid hb1
  have HOW := Lib.hid how
  have HM1 := Lib.hid (HM.out.later hb1)
  have c10 : w1.cell? ⟨bR, 10, none⟩ = some (.int .i64 0) := rn_st HM1.out
  have hs1 := hb1.size
  obtain ⟨ao, cap, rfl, hao⟩ := own_form how
  clear how hb1 HCU
  by_cases h9 : ws.length = 9
  · obtain ⟨w0, u1, u2, u3, u4, u5, u6, u7, u8, rfl⟩ := list9 ws h9
    obtain ⟨g9, rfl⟩ := hao (by simp)
    have HOW9 := Lib.hid (show w1.ownsRow w.heap.size 9 1 (.slice (some ⟨g9, 0, none⟩) 9 cap) 9 (flatR fS [w0, u1, u2, u3, u4, u5, u6, u7, u8]) from HOW.out)
    have c0 : w1.cell? ⟨g9, 0, none⟩ = some (.string ⟨w0.toArray⟩) := ows HOW9.out (j := 0) rfl
    have HGL9 := Lib.hid (show g9 < w1.heap.size by obtain ⟨-, cur, hc⟩ := own_typ1 HOW9.out (q := g9) rfl; exact block_lt hc)
    have hcap : 9 ≤ cap := own_cap HOW9.out
    rw [show [w0, u1, u2, u3, u4, u5, u6, u7, u8].length = 9 from rfl]
    by_cases hc : w0 = cfgN
    · subst hc
      have HCP := Lib.hid (show cfgP [cfgN, u1, u2, u3, u4, u5, u6, u7, u8] = match numsW [u1, u2, u3, u4, u5, u6, u7] with
          | some l => match unqL u8 with
            | some t => some ⟨l.getD 0 0, l.getD 1 0, l.getD 2 0, l.getD 3 0, l.getD 4 0, l.getD 5 0, l.getD 6 0, ⟨t.toArray⟩⟩
            | none => none
          | none => none by unfold cfgP; rw [if_pos ⟨rfl, rfl⟩]; rfl)
      have HNU := Lib.hid (refnumbers_any [u1, u2, u3, u4, u5, u6, u7] g9 1 7 (cap - 1) w1 (fun j hj => by
        have hj7 : j < 7 := hj
        refine ows HOW9.out (j := 1 + j) ?_
        rcases (by omega : j = 0 ∨ j = 1 ∨ j = 2 ∨ j = 3 ∨ j = 4 ∨ j = 5 ∨ j = 6) with rfl | rfl | rfl | rfl | rfl | rfl | rfl <;> rfl) HGL9.out rfl (by decide) (fun y hy => HSW.out y (List.mem_cons_of_mem _ (show y ∈ [u1, u2, u3, u4, u5, u6, u7, u8] by simp at hy ⊢; rcases hy with h | h | h | h | h | h | h <;> simp [h]))))
      have HW8 := Lib.hid (HSW.out u8 (by simp))
      have c8 : w1.cell? ⟨g9, 8, none⟩ = some (.string ⟨u8.toArray⟩) := ows HOW9.out (j := 8) rfl
      unfold cfgN at c0
      clear h9 hao
      go_wp2_with fail
      refine (HNU.out).mono ?_; rintro e2 w2 ⟨hnp, hb2⟩
      have HB2 := Lib.hid hb2
      have HM2 := Lib.hid (HM1.out.later hb2)
      have HK2 := Lib.hid ((KeptR.of_below (bR := bR) HB1.out hB).trans (KeptR.of_below hb2 (by omega)))
      have d8 : w2.cell? ⟨g9, 8, none⟩ = some (.string ⟨u8.toArray⟩) := (hb2.cell (p := ⟨g9, 8, none⟩) HGL9.out).trans c8
      have HUQ := Lib.hid (reftext_any ⟨u8.toArray⟩ w2 (by have := HW8.out; show u8.toArray.size ≤ _; rw [List.size_toArray]; omega))
      rw [show (⟨u8.toArray⟩ : ByteArray).data.toList = u8 from List.toList_toArray ..] at HUQ
      have hs2 := hb2.size
      unfold NumsPost at hnp
      clear hb2 HNU c0 c8
      rcases hnw : numsW [u1, u2, u3, u4, u5, u6, u7] with _ | l
      · as_aux_lemma =>
          rw [hnw] at hnp
          have HX := Lib.hid (show cfgP [cfgN, u1, u2, u3, u4, u5, u6, u7, u8] = none by rw [HCP.out, hnw])
          replace hnp : e2 = .returned (.tuple #[.slice none 0 0, .bool false]) := hnp
          subst hnp
          clear hnw
          go_wp2_with fail
          refine (HUQ.out).mono ?_; rintro e3 w3 ⟨rfl, hb3⟩
          have HK3 := Lib.hid (HK2.out.trans (KeptR.of_below hb3 (by omega)))
          clear hb3 HUQ
          go_wp2_with fail
          exact HNO.out _ HK3.out HX.out
      · rw [hnw] at hnp
        obtain ⟨v, hev, hov⟩ := hnp
        subst hev
        have HCP2 := Lib.hid (show cfgP [cfgN, u1, u2, u3, u4, u5, u6, u7, u8] = match unqL u8 with
            | some t => some ⟨l.getD 0 0, l.getD 1 0, l.getD 2 0, l.getD 3 0, l.getD 4 0, l.getD 5 0, l.getD 6 0, ⟨t.toArray⟩⟩
            | none => none by rw [HCP.out, hnw])
        have HL7 := Lib.hid (show l.length = 7 from numsW_len hnw)
        have HOK := Lib.hid (numsW_ok hnw)
        have HOV := Lib.hid hov
        clear hnw hov
        rcases huw : unqL u8 with _ | t
        · as_aux_lemma =>
            rw [unqR_none huw] at HUQ
            have HX := Lib.hid (show cfgP [cfgN, u1, u2, u3, u4, u5, u6, u7, u8] = none by rw [HCP2.out, huw])
            clear huw
            go_wp2_with fail
            refine (HUQ.out).mono ?_; rintro e3 w3 ⟨rfl, hb3⟩
            have HK3 := Lib.hid (HK2.out.trans (KeptR.of_below hb3 (by omega)))
            clear hb3 HUQ
            go_wp2_with fail
            exact HNO.out _ HK3.out HX.out
        · rw [unqR_some huw] at HUQ
          obtain ⟨a0, a1, a2, a3, a4, a5, a6, rfl⟩ := list7 l HL7.out
          have HX := Lib.hid (show cfgP [cfgN, u1, u2, u3, u4, u5, u6, u7, u8] = some ⟨a0, a1, a2, a3, a4, a5, a6, ⟨t.toArray⟩⟩ by rw [HCP2.out, huw]; rfl)
          obtain ⟨ao, cap2, rfl, hao⟩ := own_form HOV.out
          obtain ⟨g, rfl⟩ := hao (by simp)
          clear huw hao
          go_wp2_with fail
          refine (HUQ.out).mono ?_; rintro e3 w3 ⟨rfl, hb3⟩
          have HK3 := Lib.hid (HK2.out.trans (KeptR.of_below hb3 (by omega)))
          have HM3 := Lib.hid (HM2.out.later hb3)
          have hov3 := own_below HOV.out hb3
          have d0 : w3.cell? ⟨g, 0, none⟩ = some (.int .i64 a0) := by have := hov3.cells (g := g) rfl 0 (.int .i64 a0) rfl; rw [add_to] at this; simpa using this
          have d1 : w3.cell? ⟨g, 1, none⟩ = some (.int .i64 a1) := by have := hov3.cells (g := g) rfl 1 (.int .i64 a1) rfl; rw [add_to] at this; simpa using this
          have d2 : w3.cell? ⟨g, 2, none⟩ = some (.int .i64 a2) := by have := hov3.cells (g := g) rfl 2 (.int .i64 a2) rfl; rw [add_to] at this; simpa using this
          have d3 : w3.cell? ⟨g, 3, none⟩ = some (.int .i64 a3) := by have := hov3.cells (g := g) rfl 3 (.int .i64 a3) rfl; rw [add_to] at this; simpa using this
          have d4 : w3.cell? ⟨g, 4, none⟩ = some (.int .i64 a4) := by have := hov3.cells (g := g) rfl 4 (.int .i64 a4) rfl; rw [add_to] at this; simpa using this
          have d5 : w3.cell? ⟨g, 5, none⟩ = some (.int .i64 a5) := by have := hov3.cells (g := g) rfl 5 (.int .i64 a5) rfl; rw [add_to] at this; simpa using this
          have d6 : w3.cell? ⟨g, 6, none⟩ = some (.int .i64 a6) := by have := hov3.cells (g := g) rfl 6 (.int .i64 a6) rfl; rw [add_to] at this; simpa using this
          have HD := Lib.hid (And.intro d0 (And.intro d1 (And.intro d2 (And.intro d3 (And.intro d4 (And.intro d5 d6))))))
          have HGL := Lib.hid (show g < w3.heap.size by obtain ⟨-, cur, hc⟩ := own_typ1 hov3 (q := g) rfl; exact block_lt hc)
          have HGW := Lib.hid (show IntKind.u64.wrap a1 = a1 by
            have := HOK.out a1 (by simp)
            rw [IntKind.wrap_u64]
            have h1 := this.1
            have h2 := this.2
            omega)
          have HBW := Lib.hid (show B ≤ w3.heap.size by have := hb3.size; omega)
          clear hb3 HUQ hov3 d0 d1 d2 d3 d4 d5 d6 d8 c10
          go_upto_region 9 with (fail)
          -- R9 begin
          refine wp_region_plan [.make, .make, .make, .make, .make, .make, .make, .make, .make, .make, .make, .make, .make, .make, .make, .make, .make, .make, .make, .make, .make, .make, .make, .make, .make, .make, .make, .make, .write 0] [0, 1, 2, 3, 4, 5, 6, 7, 8, 9, 10, 11, 12, 13, 14, 15, 16, 17, 18, 19, 20, 21, 22, 23, 24, 25, 26, 27] 1 (fun _ _ u => RnM B bR ⟨a0, a1, a2, a3, a4, a5, a6, ⟨t.toArray⟩⟩ vP vQ (stOf zeroRd 0) (laOf zeroRd) ss [] u ∧ KeptR B bR w3 u) (by kernel_rfl) (by decide) (by kernel_rfl) (by kernel_rfl) (by kernel_rfl) (by kernel_rfl) (fun p vs vs' u h hE => hE) ?_
          simp only [fill, Act.put, List.setIfInBounds_toArray, List.set_cons_zero, List.set_cons_succ, Nat.zero_add, Nat.reduceAdd, List.zip_cons_cons, List.zip_nil_right]
          apply OpsIs.eq
          · intro vs u hb hd
            clear hd
            go_wp2_with fail
            exact ⟨rfl, _, rfl, Below.refl _ _, rfl⟩
          apply OpsIs.eq
          · intro vs u hb hd
            clear hd
            go_wp2_with fail
            exact ⟨rfl, _, rfl, Below.refl _ _, rfl⟩
          apply OpsIs.eq
          · intro vs u hb hd
            have e1 := hd ⟨1, .data⟩ (by simp) (by decide)
            simp at e1
            clear hd
            simp only [e1]
            go_wp2_with fail
            exact ⟨rfl, _, rfl, Below.refl _ _, rfl⟩
          apply OpsIs.eq
          · intro vs u hb hd
            have e2 := hd ⟨2, .data⟩ (by simp) (by decide)
            simp at e2
            clear hd
            simp only [e2]
            have d0 : u.cell? ⟨g, 0, none⟩ = some (.int .i64 a0) := (hb.cell (p := ⟨g, 0, none⟩) HGL.out).trans HD.out.1
            go_wp2_with fail
            exact ⟨rfl, _, rfl, Below.refl _ _, rfl⟩
          apply OpsIs.eq
          · intro vs u hb hd
            clear hd
            go_wp2_with fail
            exact ⟨rfl, _, rfl, Below.refl _ _, rfl⟩
          apply OpsIs.eq
          · intro vs u hb hd
            have e4 := hd ⟨4, .data⟩ (by simp) (by decide)
            simp at e4
            clear hd
            simp only [e4]
            go_wp2_with fail
            exact ⟨rfl, _, rfl, Below.refl _ _, rfl⟩
          apply OpsIs.eq
          · intro vs u hb hd
            have e5 := hd ⟨5, .data⟩ (by simp) (by decide)
            simp at e5
            clear hd
            simp only [e5]
            have d1 : u.cell? ⟨g, 1, none⟩ = some (.int .i64 a1) := (hb.cell (p := ⟨g, 1, none⟩) HGL.out).trans HD.out.2.1
            go_wp2_with fail
            exact ⟨rfl, _, rfl, Below.refl _ _, rfl⟩
          apply OpsIs.eq
          · intro vs u hb hd
            have e6 := hd ⟨6, .data⟩ (by simp) (by decide)
            simp at e6
            clear hd
            simp only [e6]
            have hgw := HGW.out
            go_wp2_with fail
            exact ⟨rfl, _, rfl, Below.refl _ _, rfl⟩
          apply OpsIs.eq
          · intro vs u hb hd
            clear hd
            go_wp2_with fail
            exact ⟨rfl, _, rfl, Below.refl _ _, rfl⟩
          apply OpsIs.eq
          · intro vs u hb hd
            have e8 := hd ⟨8, .data⟩ (by simp) (by decide)
            simp at e8
            clear hd
            simp only [e8]
            go_wp2_with fail
            exact ⟨rfl, _, rfl, Below.refl _ _, rfl⟩
          apply OpsIs.eq
          · intro vs u hb hd
            have e9 := hd ⟨9, .data⟩ (by simp) (by decide)
            simp at e9
            clear hd
            simp only [e9]
            have d2 : u.cell? ⟨g, 2, none⟩ = some (.int .i64 a2) := (hb.cell (p := ⟨g, 2, none⟩) HGL.out).trans HD.out.2.2.1
            go_wp2_with fail
            exact ⟨rfl, _, rfl, Below.refl _ _, rfl⟩
          apply OpsIs.eq
          · intro vs u hb hd
            clear hd
            go_wp2_with fail
            exact ⟨rfl, _, rfl, Below.refl _ _, rfl⟩
          apply OpsIs.eq
          · intro vs u hb hd
            have e11 := hd ⟨11, .data⟩ (by simp) (by decide)
            simp at e11
            clear hd
            simp only [e11]
            go_wp2_with fail
            exact ⟨rfl, _, rfl, Below.refl _ _, rfl⟩
          apply OpsIs.eq
          · intro vs u hb hd
            have e12 := hd ⟨12, .data⟩ (by simp) (by decide)
            simp at e12
            clear hd
            simp only [e12]
            have d3 : u.cell? ⟨g, 3, none⟩ = some (.int .i64 a3) := (hb.cell (p := ⟨g, 3, none⟩) HGL.out).trans HD.out.2.2.2.1
            go_wp2_with fail
            exact ⟨rfl, _, rfl, Below.refl _ _, rfl⟩
          apply OpsIs.eq
          · intro vs u hb hd
            clear hd
            go_wp2_with fail
            exact ⟨rfl, _, rfl, Below.refl _ _, rfl⟩
          apply OpsIs.eq
          · intro vs u hb hd
            have e14 := hd ⟨14, .data⟩ (by simp) (by decide)
            simp at e14
            clear hd
            simp only [e14]
            go_wp2_with fail
            exact ⟨rfl, _, rfl, Below.refl _ _, rfl⟩
          apply OpsIs.eq
          · intro vs u hb hd
            have e15 := hd ⟨15, .data⟩ (by simp) (by decide)
            simp at e15
            clear hd
            simp only [e15]
            have d4 : u.cell? ⟨g, 4, none⟩ = some (.int .i64 a4) := (hb.cell (p := ⟨g, 4, none⟩) HGL.out).trans HD.out.2.2.2.2.1
            go_wp2_with fail
            exact ⟨rfl, _, rfl, Below.refl _ _, rfl⟩
          apply OpsIs.eq
          · intro vs u hb hd
            clear hd
            go_wp2_with fail
            exact ⟨rfl, _, rfl, Below.refl _ _, rfl⟩
          apply OpsIs.eq
          · intro vs u hb hd
            have e17 := hd ⟨17, .data⟩ (by simp) (by decide)
            simp at e17
            clear hd
            simp only [e17]
            go_wp2_with fail
            exact ⟨rfl, _, rfl, Below.refl _ _, rfl⟩
          apply OpsIs.eq
          · intro vs u hb hd
            have e18 := hd ⟨18, .data⟩ (by simp) (by decide)
            simp at e18
            clear hd
            simp only [e18]
            have d5 : u.cell? ⟨g, 5, none⟩ = some (.int .i64 a5) := (hb.cell (p := ⟨g, 5, none⟩) HGL.out).trans HD.out.2.2.2.2.2.1
            go_wp2_with fail
            exact ⟨rfl, _, rfl, Below.refl _ _, rfl⟩
          apply OpsIs.eq
          · intro vs u hb hd
            clear hd
            go_wp2_with fail
            exact ⟨rfl, _, rfl, Below.refl _ _, rfl⟩
          apply OpsIs.eq
          · intro vs u hb hd
            have e20 := hd ⟨20, .data⟩ (by simp) (by decide)
            simp at e20
            clear hd
            simp only [e20]
            go_wp2_with fail
            exact ⟨rfl, _, rfl, Below.refl _ _, rfl⟩
          apply OpsIs.eq
          · intro vs u hb hd
            have e21 := hd ⟨21, .data⟩ (by simp) (by decide)
            simp at e21
            clear hd
            simp only [e21]
            have d6 : u.cell? ⟨g, 6, none⟩ = some (.int .i64 a6) := (hb.cell (p := ⟨g, 6, none⟩) HGL.out).trans HD.out.2.2.2.2.2.2
            go_wp2_with fail
            exact ⟨rfl, _, rfl, Below.refl _ _, rfl⟩
          apply OpsIs.eq
          · intro vs u hb hd
            clear hd
            go_wp2_with fail
            exact ⟨rfl, _, rfl, Below.refl _ _, rfl⟩
          apply OpsIs.eq
          · intro vs u hb hd
            have e3 := hd ⟨3, .data⟩ (by simp) (by decide)
            simp at e3
            have e7 := hd ⟨7, .data⟩ (by simp) (by decide)
            simp at e7
            have e10 := hd ⟨10, .data⟩ (by simp) (by decide)
            simp at e10
            have e13 := hd ⟨13, .data⟩ (by simp) (by decide)
            simp at e13
            have e16 := hd ⟨16, .data⟩ (by simp) (by decide)
            simp at e16
            have e19 := hd ⟨19, .data⟩ (by simp) (by decide)
            simp at e19
            have e22 := hd ⟨22, .data⟩ (by simp) (by decide)
            simp at e22
            have e23 := hd ⟨23, .data⟩ (by simp) (by decide)
            simp at e23
            clear hd
            simp only [e3, e7, e10, e13, e16, e19, e22, e23]
            apply goes_build8 (hg := rfl) (hop := rfl) (v0 := .int .i64 a0) (v1 := .int .u64 a1) (v2 := .int .i64 a2) (v3 := .int .i64 a3) (v4 := .int .i64 a4) (v5 := .int .i64 a5) (v6 := .int .i64 a6) (v7 := .string ⟨t.toArray⟩) (z0 := .int .i64 0) (z1 := .int .u64 0) (z2 := .int .i64 0) (z3 := .int .i64 0) (z4 := .int .i64 0) (z5 := .int .i64 0) (z6 := .int .i64 0) (z7 := .string ⟨#[]⟩)
            · kernel_rfl
            · simp only [List.map_toArray, List.map_cons, List.map_nil]
              rfl
            all_goals rfl
          apply OpsIs.eq
          · intro vs u hb hd
            have e0 := hd ⟨0, .data⟩ (by simp) (by decide)
            simp at e0
            clear hd
            simp only [e0]
            go_wp2_with fail
            exact ⟨rfl, _, rfl, Below.refl _ _, rfl⟩
          apply OpsIs.eq
          · intro vs u hb hd
            have e25 := hd ⟨25, .data⟩ (by simp) (by decide)
            simp at e25
            clear hd
            simp only [e25]
            go_wp2_with fail
            exact ⟨rfl, _, rfl, Below.refl _ _, rfl⟩
          apply OpsIs.eq
          · intro vs u hb hd
            have e26 := hd ⟨26, .data⟩ (by simp) (by decide)
            simp at e26
            clear hd
            simp only [e26]
            go_wp2_with fail
            exact ⟨rfl, _, rfl, Below.refl _ _, rfl⟩
          refine OpsIs.first ?_ ?_
          · intro vs u hb hdis hd
            have e24 := hd 24 (by simp)
            simp at e24
            have e27 := hd 27 (by simp)
            simp at e27
            clear hd
            simp only [e24, e27]
            have hrm := HM3.out.later hb
            have hkk := KeptR.of_below (bR := bR) hb HBW.out
            have hst := store8N hrm a0 a1 a2 a3 a4 a5 a6 ⟨t.toArray⟩ (Nat.le_trans HBW.out hb.size)
            apply goesT_store (hg := rfl) (hop := rfl) (hd := rfl) (b := bR) (cs := #[.int .i64 a0, .int .u64 a1, .int .i64 a2, .int .i64 a3, .int .i64 a4, .int .i64 a5, .int .i64 a6, .string ⟨t.toArray⟩])
            · rfl
            · rfl
            · exact rd_thereN hrm
            · kernel_rfl
            · simp [Value.oneCell']
            · exact ⟨hst.1, hkk.trans hst.2⟩
          refine OpsIs.done ?_
          intro vs u hE hS
          clear hS
          -- R9 end
          have HE1 := Lib.hid hE.1
          have HE2 := Lib.hid hE.2
          have p10 : u.cell? ⟨bR, 10, none⟩ = some (.int .i64 0) := rn_st hE.1
          have f10 : u.frozen? ⟨bR, 10, none⟩ = false := block_free hE.1.cells 10
          have hBu : B ≤ u.heap.size := Nat.le_trans HBW.out hE.2.size
          have HY := Lib.hid (HYES.out (u.setCell ⟨bR, 10, none⟩ (.int .i64 1)) _ ((HK3.out.trans hE.2).trans (KeptR.set (i := 10) (v := .int .i64 1) hE.1.cells (.inr rfl) hBu)) HX.out (hE.1.put (ln' := 1) (last' := 0) (grown_set2 _ _ 10 _) (block_setCell hE.1.cells 10 (.int .i64 1))))
          clear hE
          go_wp2_with fail
          exact HY.out
    · have HX := Lib.hid (HNO.out w1 (KeptR.of_below HB1.out hB) (by unfold cfgP; rw [if_neg (fun k => hc k.2)]))
      have hb : ((⟨w0.toArray⟩ : ByteArray).toList == [99, 111, 110, 102, 105, 103]) = false := by
        rw [ByteArray.toList_eq, beq_eq_false_iff_ne]
        exact hc
      have hb2 : (w0 == [99, 111, 110, 102, 105, 103]) = false := by rw [beq_eq_false_iff_ne]; exact hc
      clear hc hao
      go_wp2_with fail
      exact HX.out
  · have HX := Lib.hid (HNO.out w1 (KeptR.of_below HB1.out hB) (by unfold cfgP; rw [if_neg (fun k => h9 k.1)]))
    generalize ws.length = m at *
    have hb : ((m : Int) == 9) = false := by rw [beq_eq_false_iff_ne]; omega
    have hb2 : ((m : Int) != 9) = true := by rw [bne_iff_ne]; omega
    have HM9 := Lib.hid h9
    clear h9 hao
    go_wp2_with fail
    exact HX.out
end Go.Proofs.YtdfkbahlngijcaaDoor

