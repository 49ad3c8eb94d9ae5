/- Text: results: Result of the program where Err is OK: its walk. -/
import Derived.Test.YtdfkbahlngijcaaDoorTu
namespace Go.Proofs.YtdfkbahlngijcaaDoor
open Go.RowKit
set_option linter.unusedVariables false

set_option maxRecDepth 100000 in
set_option maxHeartbeats 8000000 in
theorem result_ok (r : Rs) (ao : Option Addr) (n c : Nat) (w : World) (h : IsR fP w ao n r.d) (hn : n ≤ 9223372036854775807) (ht : Tab w) (he : r.e = 0) (hsz : r.t.size ≤ 1000000) (hg : 0 ≤ r.gr ∧ r.gr < 256) (hk : 0 ≤ r.ik ∧ r.ik < 256) :
    Calls Tryd.prog 12 #[.agg (rsV r ao n c)] w fun e w' => e = .returned (.tuple #[.string ⟨(resR r).1.toArray⟩, .int .i64 (resR r).2]) ∧ Below w.heap.size w w' := by
  obtain ⟨i0, hi0, hz0, hz1, hz2⟩ := info_parts infoStr
  have hmf : ∀ (fn : Fn) (first cap : Array Value) (w : World), (Instr.makeFunc fn first cap).run Tryd.prog w = .ok (.func fn first cap) w := fun _ _ _ _ => rfl
  have HP := Lib.hid (put_at (resW_is r ao n c w) ht (by decide) (nums1 r) (by show 4 ≤ 100; decide) #[.int .i64 r.rev, .int .i64 r.sl, .int .i64 r.a, .int .i64 r.gr] rfl (w.heap.size + 4) 4 (by unfold resW; simp) rfl)
  have HR := Lib.hid h
  have HT := Lib.hid ht
  have HSZ := Lib.hid hsz
  have HWL := Lib.hid (words_len r hsz)
  have HRE := Lib.hid (show resR r = if allOK (nums1 r) = true ∧ allOK (nums2 r) = true ∧ checkP r.d = 0 then (joinW (wordsR r), 0) else ([], 2) by
    unfold resR
    rw [if_neg (by rw [he]; exact fun k => k rfl)])
  have HWR := Lib.hid (show wordsR r = [[111, 107]] ++ (nums1 r).map numL ++ [quoteL r.t] ++ (nums2 r).map numL ++ (if textL r.d = [] then [] else [textL r.d]) from rfl)
  have HN2 := Lib.hid (show nums2 r = [r.mb, r.mr, r.ml, r.ik, r.fr, r.tu] from rfl)
  have HL1 := Lib.hid (show (nums1 r).length = 4 from rfl)
  generalize nums1 r = l1 at *
  generalize nums2 r = l2 at *
  generalize wordsR r = wr at *
  obtain ⟨e, rev, sl, a, gr, t, mb, mr, ml, ik, fr, tu, d⟩ := r
  simp only at he hg hk hsz
  subst he
  have HP := Lib.hid (show Calls Tryd.prog 28 #[.slice (some ⟨w.heap.size + 4, 0, none⟩) 4 4, .pointer (some ⟨w.heap.size + 3, 0, none⟩)] (((((w.alloc (.cells #[.int .i64 0, .int .i64 rev, .int .i64 sl, .int .i64 a, .int .u8 gr, .string t, .int .i64 mb, .int .i64 mr, .int .i64 ml, .int .u8 ik, .int .i64 fr, .int .i64 tu, .slice ao n c] 29)).alloc (.cells #[.int .u8 ik, .int .i64 fr, .int .i64 tu, .slice ao n c] 27)).alloc (.cells #[.string ⟨#[111, 107]⟩] 9)).alloc (.cells #[.slice (some ⟨w.heap.size + 2, 0, none⟩) 1 1] 59)).alloc (.cells #[.int .i64 rev, .int .i64 sl, .int .i64 a, .int .i64 gr] 3)) fun e w' =>
      e = .returned (.bool (allOK l1)) ∧ Below w.heap.size w w' ∧ (allOK l1 = true → ∃ v', ResS ⟨0, rev, sl, a, gr, t, mb, mr, ml, ik, fr, tu, d⟩ ao n c w v' ([[111, 107]] ++ l1.map numL) w') from HP.out)
  have HR := Lib.hid (show IsR fP w ao n d from HR.out)
  have HSZ := Lib.hid (show t.size ≤ 1000000 from HSZ.out)
  have HWL := Lib.hid (show checkP d = 0 → (joinW wr).length ≤ 100000000 ∧ wr.length ≤ 13 from HWL.out)
  have HRE := Lib.hid (show resR ⟨0, rev, sl, a, gr, t, mb, mr, ml, ik, fr, tu, d⟩ = if allOK l1 = true ∧ allOK l2 = true ∧ checkP d = 0 then (joinW wr, 0) else ([], 2) from HRE.out)
  have HWR := Lib.hid (show wr = [[111, 107]] ++ l1.map numL ++ [quoteL t] ++ l2.map numL ++ (if textL d = [] then [] else [textL d]) from HWR.out)
  have HN2 := Lib.hid (show l2 = [mb, mr, ml, ik, fr, tu] from HN2.out)
  have hwg : IntKind.i64.wrap gr = gr := by rw [IntKind.wrap_i64]; omega
  have hwk : IntKind.i64.wrap ik = ik := by rw [IntKind.wrap_i64]; omega
  clear h ht hsz
  simp only [rsV]
  go_enter Tryd.func12, Tryd.ntmps12
  go_wp2_with fail
  refine (HP.out).mono ?_; rintro e1 w1 ⟨rfl, hb1, ho1⟩
  by_cases hok1 : allOK l1 = true
  · obtain ⟨v1, hS1⟩ := ho1 hok1
    have HS1 := Lib.hid hS1
    have HO1 := Lib.hid hok1
    rw [hok1]
    have q5 := block_cell hS1.box 5
    have cO := block_cell hS1.out.out 0
    have fO := block_free hS1.out.out 0
    simp [rsV] at q5 cO
    have HQ := Lib.hid (fun u => quote_any t u (by have := HSZ.out; omega))
    have hl1 : ([[111, 107]] ++ l1.map numL).length ≤ 50 := by rw [List.length_append, List.length_map, HL1.out]; decide
    generalize hw1 : [[111, 107]] ++ l1.map numL = ws1 at *
    have HW1 := Lib.hid hw1
    have hsz1 := hS1.size
    clear ho1 hok1 hb1 hS1 HP hw1
    go_wp2_with fail
    go_region_law (first
      | (go_simp; go_at_call 29; refine (HQ.out w1.drew).mono ?_; rintro e w3 ⟨rfl, hb3'⟩; have hb3 : Below w1.heap.size w1 w3 := (Below.refl _ w1).drew.trans hb3'; have HS3 := Lib.hid (HS1.out.later hb3); have cO3 : w3.cell? ⟨w.heap.size + 3, 0, none⟩ = some v1 := block_cell HS3.out.out.out 0; have cA3 : (w3.alloc (.cells #[.string ⟨(quoteL t).toArray⟩] 9)).cell? ⟨w.heap.size + 3, 0, none⟩ = some v1 := block_cell (block_alloc HS3.out.out.out _) 0; have hsz3 : w.heap.size + 4 ≤ w3.heap.size := HS3.out.size; clear hb3 hb3')
      | (refine step_append_lies _ (by rfl) _ _ _ (by rfl) (w.heap.size + 2) 9 i0 _ 1 16 Tryd.underlying59 hi0 hz0 hz1 hz2 rfl (by decide) v1 ws1.length _ (by rfl) (by first | exact HS3.out.out.own.alloc _ | exact (HS3.out.out.own.alloc _).drew) ⟨w3.heap.size, 0, none⟩ 1 1 [_] (by rfl) (by rfl) (World.news_of_block (cs := #[_]) (t := 9) (fr := (0, 0)) (heap_alloc_new w3 _)) (by simp [Value.oneCell']) (by omega) (by unfold maxLen; omega) (by omega) (by simp; omega) (w3.heap.size + 1) (by simp) ?_; intro gg cap w4 hown4 hgrow4 hat4 hlt4; have k4 : w4.heap[w.heap.size + 3]? = some (.cells #[v1] 59 (0, 0)) := keep_append HS3.out.out.own HS3.out.out.out (by decide) hgrow4 (block_alloc HS3.out.out.out _); have cO4 : w4.cell? ⟨w.heap.size + 3, 0, none⟩ = some v1 := block_cell k4 0; have fO4 : w4.frozen? ⟨w.heap.size + 3, 0, none⟩ = false := block_free k4 0; have K4 := Lib.hid k4; clear k4))
    all_goals
      have HS5 := Lib.hid (show ResS ⟨0, rev, sl, a, gr, t, mb, mr, ml, ik, fr, tu, d⟩ ao n c w (.slice (some ⟨gg, 0, none⟩) (ws1.length + 1) cap) (ws1 ++ [quoteL t]) (w4.setCell ⟨w.heap.size + 3, 0, none⟩ (.slice (some ⟨gg, 0, none⟩) (ws1.length + 1) cap)) by
        have hB4 : Below (w.heap.size + 2) w3 w4 := by
          have hB3 : Below (w.heap.size + 2) w3 w3 := Below.refl _ _
          first | exact (hB3.alloc (by omega) _).grown hgrow4 (by simp; omega) fun q hq => (own_typ1 HS3.out.out.own hq).1 | exact (hB3.alloc (by omega) _).drew.grown hgrow4 (by simp; omega) fun q hq => (own_typ1 HS3.out.out.own hq).1
        exact HS3.out.kept (hB4.setCell (p := ⟨w.heap.size + 3, 0, none⟩) (by show w.heap.size + 2 ≤ w.heap.size + 3; omega) _) ⟨block_setCell K4.out 0 _, own_set (by rw [flatS_app, flatS_one, List.length_append]; exact hown4) K4.out (by decide) 0 _⟩)
      clear HS3 hown4 hgrow4 hat4 hlt4 K4 cO3 cA3 cO4 fO4 q5 cO fO HS1 HQ
      generalize hw5 : World.setCell _ _ _ = w5 at *
      obtain ⟨v5, hv5⟩ : ∃ v5, v5 = Value.slice (some ⟨gg, 0, none⟩) (ws1.length + 1) cap := ⟨_, rfl⟩
      rw [← hv5] at HS5
      have hl5 : (ws1 ++ [quoteL t]).length ≤ 51 := by rw [List.length_append]; simp; omega
      have HP2 := Lib.hid (put_at HS5.out HT.out (by omega) l2 (by rw [HN2.out]; show 6 ≤ 100; decide) #[.int .i64 mb, .int .i64 mr, .int .i64 ml, .int .i64 ik, .int .i64 fr, .int .i64 tu] (by rw [HN2.out]; rfl) w5.heap.size 6 rfl (by rw [HN2.out]; rfl))
      have HS5b := Lib.hid HS5.out
      have q6 := block_cell HS5.out.box 6
      have q7 := block_cell HS5.out.box 7
      have q8 := block_cell HS5.out.box 8
      have i0c := block_cell HS5.out.item 0
      have i1c := block_cell HS5.out.item 1
      have i2c := block_cell HS5.out.item 2
      simp [rsV, itemV] at q6 q7 q8 i0c i1c i2c
      have hs5 := HS5.out.size
      clear hw5 hv5 HP
      go_wp2_with fail
      refine (HP2.out).mono ?_; rintro e6 w6 ⟨rfl, hb6, ho6⟩
      clear q6 q7 q8 i0c i1c i2c HP2
      by_cases hok2 : allOK l2 = true
      · obtain ⟨v6, hS6⟩ := ho6 hok2
        have HS6 := Lib.hid hS6
        have HO2 := Lib.hid hok2
        rw [hok2]
        have i3c := block_cell hS6.item 3
        simp [itemV] at i3c
        have HT6 := Lib.hid (text_any ao n c d w6 (HR.out.later hS6.low) hn (HT.out.below hS6.low))
        generalize hw2 : ws1 ++ [quoteL t] ++ l2.map numL = ws2 at *
        have hl2 : ws2.length ≤ 60 := by rw [← hw2, List.length_append, List.length_map, HN2.out]; show _ + 6 ≤ 60; omega
        have hl2p : 0 < ws2.length := by rw [← hw2, List.length_append, List.length_append]; simp; omega
        have HW2 := Lib.hid hw2
        clear ho6 hb6 hS6 hw2 hok2
        go_wp2_with fail
        refine (HT6.out).mono ?_; rintro e7 w7 ⟨rfl, hb7⟩
        have HS7 := Lib.hid (HS6.out.later hb7)
        clear hb7 HT6 i3c
        by_cases hc : checkP d = 0
        · have hwl := HWL.out hc
          have HWL2 := Lib.hid hwl
          have HR2 := Lib.hid (show resR ⟨0, rev, sl, a, gr, t, mb, mr, ml, ik, fr, tu, d⟩ = (joinW wr, 0) by rw [HRE.out, if_pos ⟨HO1.out, HO2.out, hc⟩])
          have HTX := Lib.hid (show txtP d = textL d from if_pos hc)
          have HSH := Lib.hid (show (textL d).length ≤ 3000000 by
            have := text_short hc d.length
            rw [List.take_length] at this
            exact this)
          rw [HTX.out, hc]
          clear hc hwl
          have cO := block_cell HS7.out.out.out 0
          have fO := block_free HS7.out.out.out 0
          simp at cO
          by_cases hd : textL d = []
          · have HE := Lib.hid (show wr = ws2 by rw [HWR.out, if_pos hd, List.append_nil])
            rw [hd]
            have HJ := Lib.hid (join_row HS7.out.out.own hl2p (by omega) (by have := HWL2.out.1; rw [HE.out] at this; omega))
            clear hd
            go_wp2_with fail
            refine (HJ.out).mono ?_; rintro e8 w8 ⟨rfl, hb8⟩
            have HB8 := Lib.hid (below_two HS7.out.low hb8)
            clear hb8
            go_wp2_with fail
            go_ret2
            exact ⟨by rw [HR2.out, HE.out] <;> rfl, HB8.out⟩
          · have HE := Lib.hid (show wr = ws2 ++ [textL d] by rw [HWR.out, if_neg hd])
            obtain ⟨tx, htx⟩ : ∃ tx : ByteArray, tx = ⟨(textL d).toArray⟩ := ⟨_, rfl⟩
            have hne : tx.toList.isEmpty = false := str_some (by
              rw [htx]
              show (textL d).toArray.size ≠ 0
              rw [List.size_toArray]
              exact fun k => hd (List.eq_nil_of_length_eq_zero k))
            rw [← htx]
            have HTXX := Lib.hid htx
            clear htx
            have hs7 := HS7.out.size
            clear hd
            go_wp2_with (at_builtin; refine wpList_append_lies _ rfl _ _ 59 rfl (w.heap.size + 2) 9 i0 _ 1 16 Tryd.underlying59 hi0 hz0 hz1 hz2 rfl (by decide) _ ws2.length _ rfl (HS7.out.out.own.alloc _) ⟨w7.heap.size, 0, none⟩ 1 1 [.string tx] rfl rfl (World.news_of_block (cs := #[_]) (t := 9) (fr := (0, 0)) (heap_alloc_new w7 _)) (by simp [Value.oneCell']) (by omega) (by unfold maxLen; omega) (by omega) (by simp; omega) (w7.heap.size + 1) (by simp) ?c1)
            case c1 =>
              intro gg cap w8 hown8 hgrow8 hat8 hlt8
              rw [HTXX.out] at hown8
              have k8 : w8.heap[w.heap.size + 3]? = some (.cells #[v6] 59 (0, 0)) := keep_append HS7.out.out.own HS7.out.out.out (by decide) hgrow8 (block_alloc HS7.out.out.out _)
              have cO8 : w8.cell? ⟨w.heap.size + 3, 0, none⟩ = some v6 := block_cell k8 0
              have fO8 : w8.frozen? ⟨w.heap.size + 3, 0, none⟩ = false := block_free k8 0
              have HS9 := Lib.hid (show ResS ⟨0, rev, sl, a, gr, t, mb, mr, ml, ik, fr, tu, d⟩ ao n c w (.slice (some ⟨gg, 0, none⟩) (ws2.length + 1) cap) (ws2 ++ [textL d]) (w8.setCell ⟨w.heap.size + 3, 0, none⟩ (.slice (some ⟨gg, 0, none⟩) (ws2.length + 1) cap)) by
                have hB7 : Below (w.heap.size + 2) w7 w7 := Below.refl _ _
                have hB8 : Below (w.heap.size + 2) w7 w8 := (hB7.alloc (by omega) _).grown hgrow8 (by simp; omega) fun q hq => (own_typ1 HS7.out.out.own hq).1
                exact HS7.out.kept (hB8.setCell (p := ⟨w.heap.size + 3, 0, none⟩) (by show w.heap.size + 2 ≤ w.heap.size + 3; omega) _) ⟨block_setCell k8 0 _, own_set (by rw [flatS_app, flatS_one, List.length_append]; exact hown8) k8 (by decide) 0 _⟩)
              have HJ := Lib.hid (join_row HS9.out.out.own (by rw [List.length_append]; simp) (by rw [List.length_append]; simp; omega) (by have := HWL2.out.1; rw [HE.out] at this; omega))
              clear k8 hown8 hgrow8 hat8 hlt8 cO fO
              go_wp2_with fail
              refine (HJ.out).mono ?_; rintro e8 w9 ⟨rfl, hb9⟩
              have HB9 := Lib.hid (below_two HS9.out.low hb9)
              clear hb9
              go_wp2_with fail
              go_ret2
              exact ⟨by rw [HR2.out, HE.out] <;> rfl, HB9.out⟩
        · have HR2 := Lib.hid (show resR ⟨0, rev, sl, a, gr, t, mb, mr, ml, ik, fr, tu, d⟩ = ([], 2) by rw [HRE.out, if_neg (fun k => hc k.2.2)])
          have hc2 : (checkP d == 0) = false := by rw [beq_eq_false_iff_ne]; exact hc
          clear hc
          go_wp2_with fail
          go_ret2
          exact ⟨by rw [HR2.out] <;> rfl, HS7.out.low⟩
      · have HR2 := Lib.hid (show resR ⟨0, rev, sl, a, gr, t, mb, mr, ml, ik, fr, tu, d⟩ = ([], 2) by rw [HRE.out, if_neg (fun k => hok2 k.2.1)])
        have hok3 : allOK l2 = false := by simpa using hok2
        rw [hok3]
        have HB6 := Lib.hid hb6
        clear hok2 ho6 hb6
        go_wp2_with fail
        go_ret2
        exact ⟨by rw [HR2.out] <;> rfl, HB6.out⟩
  · have HR2 := Lib.hid (show resR ⟨0, rev, sl, a, gr, t, mb, mr, ml, ik, fr, tu, d⟩ = ([], 2) by rw [HRE.out, if_neg (fun k => hok1 k.1)])
    have hok2 : allOK l1 = false := by simpa using hok1
    rw [hok2]
    have HB1 := Lib.hid hb1
    clear hok1 ho1 hb1 HP
    go_wp2_with fail
    go_ret2
    exact ⟨by rw [HR2.out] <;> rfl, HB1.out⟩
theorem textResult_any (r : Rs) (ao : Option Addr) (n c : Nat) (w : World) (h : IsR fP w ao n r.d) (hn : n ≤ 9223372036854775807) (ht : Tab w) (hsz : r.t.size ≤ 1000000) (hg : 0 ≤ r.gr ∧ r.gr < 256) (hk : 0 ≤ r.ik ∧ r.ik < 256) :
    Calls Tryd.prog 12 #[.agg (rsV r ao n c)] w fun e w' => e = .returned (.tuple #[.string ⟨(resR r).1.toArray⟩, .int .i64 (resR r).2]) ∧ Below w.heap.size w w' := by
  by_cases he : r.e = 0
  · exact result_ok r ao n c w h hn ht he hsz hg hk
  · exact result_err r ao n c w h.1 ht he
end Go.Proofs.YtdfkbahlngijcaaDoor
