/- Text: the law OpBack: its walk. -/
import Derived.Test.YtdfkbahlngijcaaDoorUm
namespace Go.Proofs.YtdfkbahlngijcaaDoor
open Go.RowKit
set_option linter.unusedVariables false

set_option maxRecDepth 100000 in
set_option maxHeartbeats 8000000 in
theorem opback_law (x : Ov) (s : ByteArray) (w : World) (ho : OvOk x) (htab : Tab w) :
    Calls Tryd.prog 8 #[.agg (oC x), .string s] w fun e w' => e = .returned (.bool true) ∧ Below w.heap.size w w' := by
  obtain ⟨sl, rfl⟩ : ∃ sl : List UInt8, s = ⟨sl.toArray⟩ := ⟨s.data.toList, by cases s; simp⟩
  have HB0 := Lib.hid ((Below.refl w.heap.size w).alloc (Nat.le_refl _) (.cells (oC x) 51))
  have HBX := Lib.hid (block_new w (.cells (oC x) 51))
  have HT := Lib.hid htab
  have HC1 := Lib.hid (fun (u : World) (hu : Below w.heap.size w u) (h : x.t.size ≤ 1000) => opT_any x u ho (by omega) (HT.out.below hu))
  have HC3 := Lib.hid (fun (u : World) (h : sl.length ≤ 1000) => parseOp_any ⟨sl.toArray⟩ u (by show sl.toArray.size ≤ _; rw [List.size_toArray]; omega))
  rw [show (⟨sl.toArray⟩ : ByteArray).data.toList = sl from List.toList_toArray ..] at HC3
  have HC2 := Lib.hid (show plainO x = true → ∀ u, Calls Tryd.prog 23 #[.string ⟨(opL x).toArray⟩] u fun e w' => e = .returned (.tuple #[.agg (oC x), .int .i64 0]) ∧ Below u.heap.size u w' from fun hp u => by
    have h := parseOp_any ⟨(opL x).toArray⟩ u (by show (opL x).toArray.size ≤ _; rw [List.size_toArray]; have := (joinW_opW x hp).1; show (joinW (opW x)).length ≤ _; omega)
    rw [show (⟨(opL x).toArray⟩ : ByteArray).data.toList = opL x from List.toList_toArray ..] at h
    rw [parR_some ⟨ho, hp, rfl⟩] at h
    exact h)
  have HOR := Lib.hid (show (plainO x = true ∧ opR x = (opL x, 0)) ∨ opR x = ([], 2) by
    unfold opR
    by_cases h : plainO x = true
    · rw [if_pos h]; exact .inl ⟨h, rfl⟩
    · rw [if_neg h]; exact .inr rfl)
  have hx0 : x.t.size = x.t.size := rfl
  clear ho htab hx0
  by_cases h1 : 1000 < x.t.size
  · have h1i : (1000 : Int) < (x.t.size : Int) := by omega
    have h1d := decide_eq_true h1i
    obtain ⟨k, s_, a, m, id, g, t⟩ := x
    simp only [oC] at HB0 HBX h1i h1d ⊢
    clear HC1 HC2 HOR h1
    go_enter Tryd.func8, Tryd.ntmps8
    go_wp2_with fail
    go_ret
    exact ⟨rfl, HB0.out⟩
  · have h1i : ¬ ((1000 : Int) < (x.t.size : Int)) := by omega
    have h1d := decide_eq_false h1i
    by_cases h2 : 1000 < sl.length
    · have h2i : (1000 : Int) < (sl.length : Int) := by omega
      have h2d := decide_eq_true h2i
      obtain ⟨k, s_, a, m, id, g, t⟩ := x
      simp only [oC] at HB0 HBX h1i h1d ⊢
      clear HC1 HC2 HOR h1 h2
      go_enter Tryd.func8, Tryd.ntmps8
      go_wp2_with fail
      go_ret
      exact ⟨rfl, HB0.out⟩
    · have h2i : ¬ ((1000 : Int) < (sl.length : Int)) := by omega
      have h2d := decide_eq_false h2i
      have HC1 := Lib.hid (fun (u : World) (hu : Below w.heap.size w u) => HC1.out u hu (by omega))
      have HC3 := Lib.hid (fun (u : World) => HC3.out u (by omega))
      clear h1 h2
      rcases HOR.out with ⟨hp, hor⟩ | hor
      · have HC2 := Lib.hid (HC2.out hp)
        rw [hor] at HC1
        clear HOR hp hor
        generalize opL x = lx at *
        obtain ⟨k, s_, a, m, id, g, t⟩ := x
        simp only [oC] at HB0 HBX HC1 HC2 h1i h1d ⊢
        go_enter Tryd.func8, Tryd.ntmps8
        go_wp2_with fail
        refine (HC1.out _ HB0.out).mono ?_; rintro e w2 ⟨rfl, hb2⟩
        have HB2 := Lib.hid (below_two HB0.out hb2)
        have HBX2 := Lib.hid (block_below hb2 HBX.out (by simp))
        clear hb2
        go_wp2_with fail
        refine (HC2.out w2).mono ?_; rintro e w3 ⟨rfl, hb3⟩
        have HB3 := Lib.hid (below_two HB2.out hb3)
        have hbx := block_alloc (block_below hb3 HBX2.out (block_lt HBX2.out)) (.cells #[.int .u8 k, .int .i64 s_, .int .i64 a, .int .i64 m, .int .u32 id, .int .u8 g, .string t] 51)
        have q0 := block_cell hbx 0
        have q1 := block_cell hbx 1
        have q2 := block_cell hbx 2
        have q3 := block_cell hbx 3
        have q4 := block_cell hbx 4
        have q5 := block_cell hbx 5
        have q6 := block_cell hbx 6
        simp only [List.getElem?_toArray, List.getElem?_cons_zero, List.getElem?_cons_succ] at q0 q1 q2 q3 q4 q5 q6
        have HBA := Lib.hid (HB3.out.alloc HB3.out.size (.cells #[.int .u8 k, .int .i64 s_, .int .i64 a, .int .i64 m, .int .u32 id, .int .u8 g, .string t] 51))
        clear hb3 hbx
        go_upto_region 8 with (fail)
        generalize hw4 : World.alloc w3 _ = w4 at *
        clear hw4 q0 q1 q2 q3 q4 q5 q6
        go_wp2_with fail
        refine (HC3.out w4).mono ?_; rintro e w6 ⟨rfl, hb6⟩
        have HB6 := Lib.hid (below_two HBA.out hb6)
        clear hb6
        rcases hpo : parO sl with _ | y
        · have HE := Lib.hid (show parR sl = (zeroO, 4) by unfold parR; rw [hpo])
          rw [HE.out]
          clear hpo
          have HZ := Lib.hid (HB6.out.alloc HB6.out.size (.cells (oC zeroO) 51))
          rw [oC_zero] at HZ ⊢
          unfold zC at HZ ⊢
          go_wp2_with fail
          go_ret
          exact ⟨rfl, HZ.out⟩
        · have hy := parO_inv hpo
          have HE := Lib.hid (show parR sl = (y, 0) from parR_some hy)
          have HOY := Lib.hid (fun u (hu : Below w.heap.size w u) => opT_any y u hy.ok (by have := plain_text hy.plain; omega) (HT.out.below hu))
          rw [show opR y = (sl, 0) by unfold opR; rw [if_pos hy.plain, hy.line]] at HOY
          rw [HE.out]
          clear hpo hy
          obtain ⟨k2, s2, a2, m2, id2, g2, t2⟩ := y
          have HZ := Lib.hid (HB6.out.alloc HB6.out.size (.cells #[.int .u8 k2, .int .i64 s2, .int .i64 a2, .int .i64 m2, .int .u32 id2, .int .u8 g2, .string t2] 51))
          simp only [oC] at HOY ⊢
          go_wp2_with fail
          refine (HOY.out _ HZ.out).mono ?_; rintro e w8 ⟨rfl, hb8⟩
          have HB8 := Lib.hid (below_two HZ.out hb8)
          clear hb8
          go_wp2_with fail
          go_ret
          exact ⟨rfl, HB8.out⟩
      · rw [hor] at HC1
        clear HOR HC2 hor
        obtain ⟨k, s_, a, m, id, g, t⟩ := x
        simp only [oC] at HB0 HBX HC1 h1i h1d ⊢
        go_enter Tryd.func8, Tryd.ntmps8
        go_wp2_with fail
        refine (HC1.out _ HB0.out).mono ?_; rintro e w2 ⟨rfl, hb2⟩
        have HB2 := Lib.hid (below_two HB0.out hb2)
        clear hb2
        go_wp2_with fail
        refine (HC3.out w2).mono ?_; rintro e w6 ⟨rfl, hb6⟩
        have HB6 := Lib.hid (below_two HB2.out hb6)
        clear hb6
        rcases hpo : parO sl with _ | y
        · have HE := Lib.hid (show parR sl = (zeroO, 4) by unfold parR; rw [hpo])
          rw [HE.out]
          clear hpo
          have HZ := Lib.hid (HB6.out.alloc HB6.out.size (.cells (oC zeroO) 51))
          rw [oC_zero] at HZ ⊢
          unfold zC at HZ ⊢
          go_wp2_with fail
          go_ret
          exact ⟨rfl, HZ.out⟩
        · have hy := parO_inv hpo
          have HE := Lib.hid (show parR sl = (y, 0) from parR_some hy)
          have HOY := Lib.hid (fun u (hu : Below w.heap.size w u) => opT_any y u hy.ok (by have := plain_text hy.plain; omega) (HT.out.below hu))
          rw [show opR y = (sl, 0) by unfold opR; rw [if_pos hy.plain, hy.line]] at HOY
          rw [HE.out]
          clear hpo hy
          obtain ⟨k2, s2, a2, m2, id2, g2, t2⟩ := y
          have HZ := Lib.hid (HB6.out.alloc HB6.out.size (.cells #[.int .u8 k2, .int .i64 s2, .int .i64 a2, .int .i64 m2, .int .u32 id2, .int .u8 g2, .string t2] 51))
          simp only [oC] at HOY ⊢
          go_wp2_with fail
          refine (HOY.out _ HZ.out).mono ?_; rintro e w8 ⟨rfl, hb8⟩
          have HB8 := Lib.hid (below_two HZ.out hb8)
          clear hb8
          go_wp2_with fail
          go_ret
          exact ⟨rfl, HB8.out⟩
end Go.Proofs.YtdfkbahlngijcaaDoor

