/- The contracts of the reference's Check, Measure and inner. -/
import Derived.Test.YtbodacjhhkjdfaaNg
namespace Go.Proofs.Ytbodacjhhkjdfaa
open Go.RowKit

theorem refFormed_yes (x : Nd) (ao : Option Addr) (n c : Nat) (w : World) (hk : IsKs w ao n x.kids) (hf : formedP x) :
    Calls Try.prog 48 #[aggN x.h x.text ao n c] w fun e w' => e = .returned (.bool true) ∧ Below w.heap.size w w' := by
  have := refFormed_any x ao n c w hk
  rwa [decide_eq_true hf] at this
theorem refFormed_no (x : Nd) (ao : Option Addr) (n c : Nat) (w : World) (hk : IsKs w ao n x.kids) (hf : ¬ formedP x) :
    Calls Try.prog 48 #[aggN x.h x.text ao n c] w fun e w' => e = .returned (.bool false) ∧ Below w.heap.size w w' := by
  have := refFormed_any x ao n c w hk
  rwa [decide_eq_false hf] at this

theorem sumN_leaf {x : Nd} (h : x.h = 0) : sumN x = ofT x.text := if_pos h
theorem sumN_inner {x : Nd} (h : x.h ≠ 0) : sumN x = sumM (x.kids.map (·.2)) := if_neg h
theorem long_iff {x : Nd} {n : Nat} (hf : formedP x) (hl : x.kids.length = n) : 65536 < (sumM (msTo x.kids n)).1 ↔ 65536 < (sumN x).1 := by
  rcases formed_cases hf with ⟨h1, h2, h3, h4⟩ | ⟨h0, h1, h2, h3, h4, h5, h6⟩
  · rw [sumN_leaf h1, h4]
    unfold msTo ofT
    simp [sumM]
    omega
  · rw [sumN_inner h0, ← hl, msTo_end]

theorem formed_len {x : Nd} (hf : formedP x) : x.kids.length ≤ 4 := by
  rcases formed_cases hf with ⟨h1, h2, h3, h4⟩ | ⟨h0, h1, h2, h3, h4, h5, h6⟩
  · rw [h4]; simp
  · exact h5
set_option maxRecDepth 100000 in
set_option maxHeartbeats 2000000 in
theorem refCheck_any (x : Nd) (ao : Option Addr) (n c : Nat) (w : World) (hk : IsKs w ao n x.kids) :
    Calls Try.prog 16 #[aggN x.h x.text ao n c] w fun e w' => e = .returned (.int .i64 (checkN x)) ∧ Below w.heap.size w w' := by
  have hl := hk.1
  have HK := Lib.hid hk
  clear hk
  by_cases hf : formedP x
  · have hn := formed_len hf
    rw [hl] at hn
    by_cases hs : 65536 < (sumM (msTo x.kids n)).1
    · rw [checkN_long hf ((long_iff hf hl).1 hs)]
      have HF := Lib.hid hf
      clear hf hl
      unfold aggN
      go_enter Try.func16, Try.ntmps16
      go_wp2_with fail
      refine (refFormed_yes x ao n c _ (HK.out.box _) HF.out).mono ?_; rintro e w1 ⟨rfl, hb⟩
      obtain ⟨hbw, hb0⟩ := box_later hb
      (have q0 := block_cell hb0 0; have q1 := block_cell hb0 1; have q2 := block_cell hb0 2; have f0 := block_free hb0 0; have f1 := block_free hb0 1; have f2 := block_free hb0 2; have hz := block_lt hb0; simp at q0 q1 q2)
      have HBW := Lib.hid hbw
      clear hb hbw hb0
      go_wp2_with fail
      refine (refSum_any x.h x.text x.kids ao n c n _ (HK.out.later HBW.out) (Nat.le_refl _) (by omega)).mono ?_; rintro e w2 ⟨rfl, hb⟩
      unfold aggM
      have hfl := run_field_bytes (sumM (msTo x.kids n)).1 (sumM (msTo x.kids n)).2.1 (sumM (msTo x.kids n)).2.2
      go_wp2_with fail
      go_ret
      exact ⟨rfl, below_step HBW.out hb⟩
    · rw [checkN_ok hf (fun h => hs ((long_iff hf hl).2 h))]
      have HF := Lib.hid hf
      clear hf hl
      unfold aggN
      go_enter Try.func16, Try.ntmps16
      go_wp2_with fail
      refine (refFormed_yes x ao n c _ (HK.out.box _) HF.out).mono ?_; rintro e w1 ⟨rfl, hb⟩
      obtain ⟨hbw, hb0⟩ := box_later hb
      (have q0 := block_cell hb0 0; have q1 := block_cell hb0 1; have q2 := block_cell hb0 2; have f0 := block_free hb0 0; have f1 := block_free hb0 1; have f2 := block_free hb0 2; have hz := block_lt hb0; simp at q0 q1 q2)
      have HBW := Lib.hid hbw
      clear hb hbw hb0
      go_wp2_with fail
      refine (refSum_any x.h x.text x.kids ao n c n _ (HK.out.later HBW.out) (Nat.le_refl _) (by omega)).mono ?_; rintro e w2 ⟨rfl, hb⟩
      unfold aggM
      have hfl := run_field_bytes (sumM (msTo x.kids n)).1 (sumM (msTo x.kids n)).2.1 (sumM (msTo x.kids n)).2.2
      go_wp2_with fail
      go_ret
      exact ⟨rfl, below_step HBW.out hb⟩
  · rw [checkN_bad hf]
    have HF := Lib.hid hf
    clear hf hl
    unfold aggN
    go_enter Try.func16, Try.ntmps16
    go_wp2_with fail
    refine (refFormed_no x ao n c _ (HK.out.box _) HF.out).mono ?_; rintro e w1 ⟨rfl, hb⟩
    obtain ⟨hbw, _⟩ := box_later hb
    go_wp2_with fail
    go_ret
    exact ⟨rfl, hbw⟩

set_option maxRecDepth 100000 in
set_option maxHeartbeats 2000000 in
theorem refMeasure_any (x : Nd) (ao : Option Addr) (n c : Nat) (w : World) (hk : IsKs w ao n x.kids) :
    Calls Try.prog 14 #[aggN x.h x.text ao n c] w fun e w' => e = .returned (.tuple #[aggM (measN x), .int .i64 (checkN x)]) ∧ Below w.heap.size w w' := by
  have hl := hk.1
  have HL := Lib.hid hl
  have HK := Lib.hid hk
  clear hk hl
  by_cases hc : checkN x = 0
  · have e : measN x = sumN x := if_pos hc
    have HF := Lib.hid (checkN_zero hc).1
    rw [e, hc]
    have HC := Lib.hid hc
    clear e hc
    by_cases hh : x.h = 0
    · rw [sumN_leaf hh]
      have HS : x.text.size ≤ maxLen := by
        rcases formed_cases HF.out with ⟨h1, h2, h3, h4⟩ | ⟨h0, _⟩
        · unfold maxLen; omega
        · exact absurd hh h0
      have HH := Lib.hid hh
      clear hh
      unfold aggN
      go_enter Try.func14, Try.ntmps14
      go_wp2_with fail
      refine (refCheck_any x ao n c _ ((HK.out.box _).box _)).mono ?_; rintro e w1 ⟨rfl, hb⟩
      rw [HC.out]
      have hh := HH.out
      obtain ⟨hbw, hb0, hb1⟩ := box2_later hb
      (have q0 := block_cell hb0 0; have q1 := block_cell hb0 1; have q2 := block_cell hb0 2; have f0 := block_free hb0 0; have f1 := block_free hb0 1; have f2 := block_free hb0 2; have hz := block_lt hb0; simp at q0 q1 q2)
      have HB1 := Lib.hid hb1
      have HBW := Lib.hid hbw
      clear hb hb0 hb1 hbw
      go_wp2_with fail
      refine (refOf_any x.text _ HS).mono ?_; rintro e w2 ⟨rfl, hb⟩
      try unfold aggM
      have hb1 := block_below hb HB1.out (block_lt HB1.out)
      (have q0 := block_cell hb1 0; have q1 := block_cell hb1 1; have q2 := block_cell hb1 2; have f0 := block_free hb1 0; have f1 := block_free hb1 1; have f2 := block_free hb1 2; have hz := block_lt hb1; simp at q0 q1 q2)
      have HB2 := Lib.hid hb1
      have HB := Lib.hid hb
      clear hb hb1
      go_wp2_with fail
      have hb0 := block_setCell (block_setCell (block_setCell HB2.out 0 (.int .i64 (ofT x.text).1)) 1 (.int .i64 (ofT x.text).2.1)) 2 (.int .i64 (ofT x.text).2.2)
      exact bodyPost_ret (res3_tmp Try.results14 (Try.isAgg27 _) (Try.sizeOf27 _) rfl hb0) rfl ⟨rfl, (((below_step HBW.out HB.out).setCell (by simp) _).setCell (by simp) _).setCell (by simp) _⟩
    · rw [sumN_inner hh]
      have hh' : (x.h == 0) = false := by simpa using hh
      have hn : n ≤ 4 := by have := formed_len HF.out; have := HL.out; omega
      have HE := Lib.hid (show msTo x.kids n = x.kids.map (·.2) by rw [← HL.out, msTo_end])
      clear hh
      unfold aggN
      go_enter Try.func14, Try.ntmps14
      go_wp2_with fail
      refine (refCheck_any x ao n c _ ((HK.out.box _).box _)).mono ?_; rintro e w1 ⟨rfl, hb⟩
      rw [HC.out]
      obtain ⟨hbw, hb0, hb1⟩ := box2_later hb
      (have q0 := block_cell hb0 0; have q1 := block_cell hb0 1; have q2 := block_cell hb0 2; have f0 := block_free hb0 0; have f1 := block_free hb0 1; have f2 := block_free hb0 2; have hz := block_lt hb0; simp at q0 q1 q2)
      have HB1 := Lib.hid hb1
      have HBW := Lib.hid hbw
      clear hb hb0 hb1 hbw
      go_wp2_with fail
      refine (refSum_any x.h x.text x.kids ao n c n _ (HK.out.later HBW.out) (Nat.le_refl _) (by omega)).mono ?_; rintro e w2 ⟨rfl, hb⟩; rw [HE.out]
      try unfold aggM
      have hb1 := block_below hb HB1.out (block_lt HB1.out)
      (have q0 := block_cell hb1 0; have q1 := block_cell hb1 1; have q2 := block_cell hb1 2; have f0 := block_free hb1 0; have f1 := block_free hb1 1; have f2 := block_free hb1 2; have hz := block_lt hb1; simp at q0 q1 q2)
      have HB2 := Lib.hid hb1
      have HB := Lib.hid hb
      clear hb hb1
      go_wp2_with fail
      have hb0 := block_setCell (block_setCell (block_setCell HB2.out 0 (.int .i64 (sumM (x.kids.map (·.2))).1)) 1 (.int .i64 (sumM (x.kids.map (·.2))).2.1)) 2 (.int .i64 (sumM (x.kids.map (·.2))).2.2)
      exact bodyPost_ret (res3_tmp Try.results14 (Try.isAgg27 _) (Try.sizeOf27 _) rfl hb0) rfl ⟨rfl, (((below_step HBW.out HB.out).setCell (by simp) _).setCell (by simp) _).setCell (by simp) _⟩
  · have e : measN x = (0, 0, 0) := if_neg hc
    rw [e]
    have hc' : (checkN x == 0) = false := by simpa using hc
    clear e hc
    unfold aggN
    go_enter Try.func14, Try.ntmps14
    go_wp2_with fail
    refine (refCheck_any x ao n c _ ((HK.out.box _).box _)).mono ?_; rintro e w1 ⟨rfl, hb⟩
    obtain ⟨hbw, hb0, hb1⟩ := box2_later hb
    (have q0 := block_cell hb1 0; have q1 := block_cell hb1 1; have q2 := block_cell hb1 2; have f0 := block_free hb1 0; have f1 := block_free hb1 1; have f2 := block_free hb1 2; have hz := block_lt hb1; simp at q0 q1 q2)
    have HB1 := Lib.hid hb1
    have HBW := Lib.hid hbw
    clear hb hb0 hb1 hbw
    go_wp2_with fail
    have hb0 := block_setCell (block_setCell (block_setCell HB1.out 0 (.int .i64 0)) 1 (.int .i64 0)) 2 (.int .i64 0)
    exact bodyPost_ret (res3_tmp Try.results14 (Try.isAgg27 _) (Try.sizeOf27 _) rfl hb0) rfl ⟨rfl, ((HBW.out.setCell (by simp) _).setCell (by simp) _).setCell (by simp) _⟩

/-- what the reference's inner returns -/
def innerN (x : Nd) : Trip × Int := if checkN x = 0 ∧ x.h = 0 then ((0, 0, 0), 8) else (measN x, checkN x)

set_option maxRecDepth 100000 in
set_option maxHeartbeats 2000000 in
theorem inner_any (x : Nd) (ao : Option Addr) (n c : Nat) (w : World) (hk : IsKs w ao n x.kids) :
    Calls Try.prog 51 #[aggN x.h x.text ao n c] w fun e w' => e = .returned (.tuple #[aggM (innerN x).1, .int .i64 (innerN x).2]) ∧ Below w.heap.size w w' := by
  have HK := Lib.hid hk
  clear hk
  by_cases hc : checkN x = 0
  · by_cases hh : x.h = 0
    · have e : innerN x = ((0, 0, 0), 8) := if_pos ⟨hc, hh⟩
      rw [e]
      have HC := Lib.hid hc
      have HH := Lib.hid hh
      clear hc e hh
      unfold aggN
      go_enter Try.func51, Try.ntmps51
      go_wp2_with fail
      refine (refMeasure_any x ao n c _ ((HK.out.box _).box _)).mono ?_; rintro e w1 ⟨rfl, hb⟩
      rw [HC.out]
      have hh := HH.out
      unfold aggM
      obtain ⟨hbw, hb0, hb1⟩ := box2_later hb
      (have q0 := block_cell hb0 0; have q1 := block_cell hb0 1; have q2 := block_cell hb0 2; have f0 := block_free hb0 0; have f1 := block_free hb0 1; have f2 := block_free hb0 2; have hz := block_lt hb0; simp at q0 q1 q2)
      (have q0 := block_cell hb1 0; have q1 := block_cell hb1 1; have q2 := block_cell hb1 2; have f0 := block_free hb1 0; have f1 := block_free hb1 1; have f2 := block_free hb1 2; have hz := block_lt hb1; simp at q0 q1 q2)
      have HB1 := Lib.hid hb1
      have HBW := Lib.hid hbw
      clear hb hb0 hb1 hbw
      go_wp2_with fail
      have hb0 := block_alloc (block_setCell (block_setCell (block_setCell HB1.out 0 (.int .i64 0)) 1 (.int .i64 0)) 2 (.int .i64 0)) (.cells #[.int .i64 (measN x).1, .int .i64 (measN x).2.1, .int .i64 (measN x).2.2] 27)
      exact bodyPost_ret (res3_tmp Try.results51 (Try.isAgg27 _) (Try.sizeOf27 _) rfl hb0) rfl ⟨rfl, (((HBW.out.setCell (by simp) _).setCell (by simp) _).setCell (by simp) _).alloc (by simpa [World.setCell] using HBW.out.size) _⟩
    · have e : innerN x = (measN x, checkN x) := if_neg (fun h => hh h.2)
      rw [e]
      have HC := Lib.hid hc
      have hh' : (x.h == 0) = false := by simpa using hh
      clear hc e hh
      rw [HC.out]
      unfold aggN
      go_enter Try.func51, Try.ntmps51
      go_wp2_with fail
      refine (refMeasure_any x ao n c _ ((HK.out.box _).box _)).mono ?_; rintro e w1 ⟨rfl, hb⟩
      rw [HC.out]
      unfold aggM
      obtain ⟨hbw, hb0, hb1⟩ := box2_later hb
      (have q0 := block_cell hb0 0; have q1 := block_cell hb0 1; have q2 := block_cell hb0 2; have f0 := block_free hb0 0; have f1 := block_free hb0 1; have f2 := block_free hb0 2; have hz := block_lt hb0; simp at q0 q1 q2)
      (have q0 := block_cell hb1 0; have q1 := block_cell hb1 1; have q2 := block_cell hb1 2; have f0 := block_free hb1 0; have f1 := block_free hb1 1; have f2 := block_free hb1 2; have hz := block_lt hb1; simp at q0 q1 q2)
      have HB1 := Lib.hid hb1
      have HBW := Lib.hid hbw
      clear hb hb0 hb1 hbw
      go_wp2_with fail
      have hb0 := block_alloc (block_setCell (block_setCell (block_setCell HB1.out 0 (.int .i64 (measN x).1)) 1 (.int .i64 (measN x).2.1)) 2 (.int .i64 (measN x).2.2)) (.cells #[.int .i64 (measN x).1, .int .i64 (measN x).2.1, .int .i64 (measN x).2.2] 27)
      exact bodyPost_ret (res3_tmp Try.results51 (Try.isAgg27 _) (Try.sizeOf27 _) rfl hb0) rfl ⟨rfl, (((HBW.out.setCell (by simp) _).setCell (by simp) _).setCell (by simp) _).alloc (by simpa [World.setCell] using HBW.out.size) _⟩
  · have e : innerN x = (measN x, checkN x) := if_neg (fun h => hc h.1)
    rw [e]
    have hc' : (checkN x == 0) = false := by simpa using hc
    clear hc e
    unfold aggN
    go_enter Try.func51, Try.ntmps51
    go_wp2_with fail
    refine (refMeasure_any x ao n c _ ((HK.out.box _).box _)).mono ?_; rintro e w1 ⟨rfl, hb⟩
    skip
    unfold aggM
    obtain ⟨hbw, hb0, hb1⟩ := box2_later hb
    (have q0 := block_cell hb0 0; have q1 := block_cell hb0 1; have q2 := block_cell hb0 2; have f0 := block_free hb0 0; have f1 := block_free hb0 1; have f2 := block_free hb0 2; have hz := block_lt hb0; simp at q0 q1 q2)
    (have q0 := block_cell hb1 0; have q1 := block_cell hb1 1; have q2 := block_cell hb1 2; have f0 := block_free hb1 0; have f1 := block_free hb1 1; have f2 := block_free hb1 2; have hz := block_lt hb1; simp at q0 q1 q2)
    have HB1 := Lib.hid hb1
    have HBW := Lib.hid hbw
    clear hb hb0 hb1 hbw
    go_wp2_with fail
    have hb0 := block_alloc (block_setCell (block_setCell (block_setCell HB1.out 0 (.int .i64 (measN x).1)) 1 (.int .i64 (measN x).2.1)) 2 (.int .i64 (measN x).2.2)) (.cells #[.int .i64 (measN x).1, .int .i64 (measN x).2.1, .int .i64 (measN x).2.2] 27)
    exact bodyPost_ret (res3_tmp Try.results51 (Try.isAgg27 _) (Try.sizeOf27 _) rfl hb0) rfl ⟨rfl, (((HBW.out.setCell (by simp) _).setCell (by simp) _).setCell (by simp) _).alloc (by simpa [World.setCell] using HBW.out.size) _⟩
end Go.Proofs.Ytbodacjhhkjdfaa
