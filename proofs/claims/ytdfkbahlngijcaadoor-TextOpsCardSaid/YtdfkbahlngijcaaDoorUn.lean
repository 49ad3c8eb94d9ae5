/- Text: the law Ops: its walk. -/
import Derived.Test.YtdfkbahlngijcaaDoorUm
namespace Go.Proofs.YtdfkbahlngijcaaDoor
open Go.RowKit
set_option linter.unusedVariables false

set_option maxRecDepth 100000 in
set_option maxHeartbeats 8000000 in
theorem ops_law (x : Ov) (s : ByteArray) (w : World) (ho : OvOk x) (htab : Tab w) :
    Calls Tryd.prog 7 #[.agg (oC x), .string s] w fun e w' => e = .returned (.bool true) ∧ Below w.heap.size w w' := by
  obtain ⟨sl, rfl⟩ : ∃ sl : List UInt8, s = ⟨sl.toArray⟩ := ⟨s.data.toList, by cases s; simp⟩
  have HB0 := Lib.hid ((Below.refl w.heap.size w).alloc (Nat.le_refl _) (.cells (oC x) 51))
  have HBX := Lib.hid (block_new w (.cells (oC x) 51))
  have HT := Lib.hid htab
  have HC1 := Lib.hid (fun (u : World) (hu : Below w.heap.size w u) (h : x.t.size ≤ 1000) => opT_any x u ho (by omega) (HT.out.below hu))
  have HC2 := Lib.hid (fun (u : World) (h : x.t.size ≤ 1000) => refOp_any x u ho (by omega))
  have HC3 := Lib.hid (fun (u : World) (h : sl.length ≤ 1000) => parseOp_any ⟨sl.toArray⟩ u (by show sl.toArray.size ≤ _; rw [List.size_toArray]; omega))
  rw [show (⟨sl.toArray⟩ : ByteArray).data.toList = sl from List.toList_toArray ..] at HC3
  have HC4 := Lib.hid (fun (u : World) (h : sl.length ≤ 1000) => refParse_any sl u (by omega))
  generalize (opR x).1 = l1 at *
  generalize (opR x).2 = e1 at *
  generalize (parR sl).1 = P at *
  generalize (parR sl).2 = e2 at *
  obtain ⟨k, s_, a, m, id, g, t⟩ := x
  obtain ⟨k2, s2, a2, m2, id2, g2, t2⟩ := P
  simp only [oC] at HB0 HBX HC1 HC2 HC3 HC4 ⊢
  clear ho htab
  by_cases h1 : 1000 < t.size
  · have h1i : (1000 : Int) < (t.size : Int) := by omega
    have h1d := decide_eq_true h1i
    go_enter Tryd.func7, Tryd.ntmps7
    go_wp2_with fail
    go_ret
    exact ⟨rfl, HB0.out⟩
  · have h1i : ¬ ((1000 : Int) < (t.size : Int)) := by omega
    have h1d := decide_eq_false h1i
    by_cases h2 : 1000 < sl.length
    · have h2i : (1000 : Int) < (sl.length : Int) := by omega
      have h2d := decide_eq_true h2i
      go_enter Tryd.func7, Tryd.ntmps7
      go_wp2_with fail
      go_ret
      exact ⟨rfl, HB0.out⟩
    · have h2i : ¬ ((1000 : Int) < (sl.length : Int)) := by omega
      have h2d := decide_eq_false h2i
      have HC1 := Lib.hid (fun (u : World) (hu : Below w.heap.size w u) => HC1.out u hu (by omega))
      have HC2 := Lib.hid (fun (u : World) => HC2.out u (by omega))
      have HC3 := Lib.hid (fun (u : World) => HC3.out u (by omega))
      have HC4 := Lib.hid (fun (u : World) => HC4.out u (by omega))
      go_enter Tryd.func7, Tryd.ntmps7
      go_wp2_with fail
      refine (HC1.out _ HB0.out).mono ?_; rintro e w2 ⟨rfl, hb2⟩
      have HB2 := Lib.hid (below_two HB0.out hb2)
      have hbx := block_below hb2 HBX.out (by simp)
      have HBX2 := Lib.hid hbx
      have q0 := block_cell hbx 0
      have q1 := block_cell hbx 1
      have q2 := block_cell hbx 2
      have q3 := block_cell hbx 3
      have q4 := block_cell hbx 4
      have q5 := block_cell hbx 5
      have q6 := block_cell hbx 6
      simp at q0 q1 q2 q3 q4 q5 q6
      clear hb2 hbx
      go_wp2_with fail
      refine (HC2.out _).mono ?_; rintro e w3 ⟨rfl, hb3⟩
      have HB3 := Lib.hid (below_two HB2.out hb3)
      clear hb3 q0 q1 q2 q3 q4 q5 q6
      go_wp2_with fail
      refine (HC3.out _).mono ?_; rintro e w4 ⟨rfl, hb4⟩
      have HB4 := Lib.hid (below_two HB3.out hb4)
      clear hb4
      go_wp2_with fail
      refine (HC4.out _).mono ?_; rintro e w5 ⟨rfl, hb5⟩
      have HC5 := Lib.hid (below_two (HB4.out.alloc (by have := HB4.out.size; omega) (.cells #[.int .u8 k2, .int .i64 s2, .int .i64 a2, .int .i64 m2, .int .u32 id2, .int .u8 g2, .string t2] 51)) hb5)
      have hbc := block_below hb5 (block_new w4 (.cells #[.int .u8 k2, .int .i64 s2, .int .i64 a2, .int .i64 m2, .int .u32 id2, .int .u8 g2, .string t2] 51)) (by simp)
      have q0 := block_cell hbc 0
      have q1 := block_cell hbc 1
      have q2 := block_cell hbc 2
      have q3 := block_cell hbc 3
      have q4 := block_cell hbc 4
      have q5 := block_cell hbc 5
      have q6 := block_cell hbc 6
      simp at q0 q1 q2 q3 q4 q5 q6
      have hlc := block_lt hbc
      clear hb5 hbc
      go_wp2_with fail
      go_ret
      exact ⟨rfl, by have := HC5.out.size; exact HC5.out.alloc (by omega) _⟩
end Go.Proofs.YtdfkbahlngijcaaDoor

