/- The contracts of sum, Check and Measure. -/
import Derived.Test.YtbodacjhhkjdfaaNe
namespace Go.Proofs.Ytbodacjhhkjdfaa
open Go.RowKit

theorem box_later {w w1 : World} {O : Obj} (hb : Below (w.alloc O).heap.size (w.alloc O) w1) : Below w.heap.size w w1 ∧ w1.heap[w.heap.size]? = some O :=
  ⟨below_step ((Below.refl _ _).alloc (Nat.le_refl _) _) hb, block_below hb (block_new w _) (by simp)⟩
theorem box2_later {w w1 : World} {O O' : Obj} (hb : Below ((w.alloc O).alloc O').heap.size ((w.alloc O).alloc O') w1) : Below w.heap.size w w1 ∧ w1.heap[w.heap.size]? = some O ∧ w1.heap[w.heap.size + 1]? = some O' :=
  ⟨below_step (((Below.refl _ _).alloc (Nat.le_refl _) _).alloc (by simp) _) hb, block_below hb (block_alloc (block_new w _) _) (by simp; omega), block_below hb (block_new' _ _ _ (by simp)) (by simp)⟩

theorem IsKs.box {w : World} {ao : Option Addr} {n : Nat} {l : List Kid} (h : IsKs w ao n l) (O : Obj) : IsKs (w.alloc O) ao n l := h.later ((Below.refl _ _).alloc (Nat.le_refl _) _)

theorem formed_yes (x : Nd) (ao : Option Addr) (n c : Nat) (w : World) (hk : IsKs w ao n x.kids) (hf : formedP x) :
    Calls Try.prog 47 #[aggN x.h x.text ao n c] w fun e w' => e = .returned (.bool true) ∧ Below w.heap.size w w' := by
  have := formed_any x ao n c w hk
  rwa [decide_eq_true hf] at this
theorem formed_no (x : Nd) (ao : Option Addr) (n c : Nat) (w : World) (hk : IsKs w ao n x.kids) (hf : ¬ formedP x) :
    Calls Try.prog 47 #[aggN x.h x.text ao n c] w fun e w' => e = .returned (.bool false) ∧ Below w.heap.size w w' := by
  have := formed_any x ao n c w hk
  rwa [decide_eq_false hf] at this

set_option maxRecDepth 100000 in
set_option maxHeartbeats 2000000 in
theorem sum_leaf (t : ByteArray) (ao : Option Addr) (n c : Nat) (w : World) (ht : t.size ≤ maxLen) :
    Calls Try.prog 44 #[aggN 0 t ao n c] w fun e w' => e = .returned (aggM (ofT t)) ∧ Below w.heap.size w w' := by
  unfold aggN
  go_enter Try.func44, Try.ntmps44
  go_wp2_with fail
  refine (of_any t _ ht).mono ?_; rintro e w1 ⟨rfl, hb⟩
  obtain ⟨hbw, hb0, hb1⟩ := box2_later hb
  (have q0 := block_cell hb1 0; have q1 := block_cell hb1 1; have q2 := block_cell hb1 2; have f0 := block_free hb1 0; have f1 := block_free hb1 1; have f2 := block_free hb1 2; have hz := block_lt hb1; simp at q0 q1 q2)
  have HB1 := Lib.hid hb1
  have HBW := Lib.hid hbw
  clear hb hb0 hb1 hbw
  go_wp2_with fail
  have hb0 := block_setCell (block_setCell (block_setCell HB1.out 0 (.int .i64 (ofT t).1)) 1 (.int .i64 (ofT t).2.1)) 2 (.int .i64 (ofT t).2.2)
  exact bodyPost_ret (res3 Try.results44 (Try.isAgg27 _) (Try.sizeOf27 _) rfl hb0) rfl ⟨rfl, ((HBW.out.setCell (by simp) _).setCell (by simp) _).setCell (by simp) _⟩

theorem formed_cases {x : Nd} (hf : formedP x) : (x.h = 0 ∧ 1 ≤ x.text.size ∧ x.text.size ≤ 16 ∧ x.kids = []) ∨ (x.h ≠ 0 ∧ 1 ≤ x.h ∧ x.h ≤ 16 ∧ x.text = ⟨#[]⟩ ∧ 2 ≤ x.kids.length ∧ x.kids.length ≤ 4 ∧ ∀ k ∈ x.kids, kidOK (x.h - 1).toNat k) := by
  rcases hf with ⟨h1, h2, h3, h4⟩ | ⟨h1, h2, h3, h4, h5, h6⟩
  · exact .inl ⟨h1, h2, h3, List.length_eq_zero_iff.1 h4⟩
  · refine .inr ⟨by omega, h1, h2, ?_, h4, h5, h6⟩
    obtain ⟨h, t, l⟩ := x
    cases t
    simpa [ByteArray.size] using h3

theorem sum_any (x : Nd) (ao : Option Addr) (n c : Nat) (w : World) (hk : IsKs w ao n x.kids) (hf : formedP x) :
    Calls Try.prog 44 #[aggN x.h x.text ao n c] w fun e w' => e = .returned (aggM (sumN x)) ∧ Below w.heap.size w w' := by
  obtain ⟨hl, _, hc⟩ := hk
  rcases formed_cases hf with ⟨h1, h2, h3, h4⟩ | ⟨h0, h1, h2, h3, h4, h5, h6⟩
  · have e : sumN x = ofT x.text := if_pos h1
    rw [e, h1]
    exact sum_leaf x.text ao n c w (by unfold maxLen; omega)
  · have e : sumN x = sumM (x.kids.map (·.2)) := if_neg h0
    rw [e]
    obtain ⟨b, off, rfl, hc'⟩ := hc (by omega)
    exact sum_inner x.h x.text x.kids b off n c w hl h0 (by omega) (cellK_lt (hc' 0 (by omega))) hc'

theorem run_field_bytes (a b c : Int) (w : World) : (Instr.field 27 (.agg #[.int .i64 a, .int .i64 b, .int .i64 c]) 0).run Try.prog w = .ok (.int .i64 a) w := by kernel_rfl
theorem checkN_bad {x : Nd} (hf : ¬ formedP x) : checkN x = 23 := if_pos hf
theorem checkN_long {x : Nd} (hf : formedP x) (hs : 65536 < (sumN x).1) : checkN x = 5 := by unfold checkN; rw [if_neg (fun h => h hf), if_pos hs]
theorem checkN_ok {x : Nd} (hf : formedP x) (hs : ¬ 65536 < (sumN x).1) : checkN x = 0 := by unfold checkN; rw [if_neg (fun h => h hf), if_neg hs]
theorem checkN_zero {x : Nd} (h : checkN x = 0) : formedP x ∧ (sumN x).1 ≤ 65536 := by
  by_cases hf : formedP x
  · by_cases hs : 65536 < (sumN x).1
    · rw [checkN_long hf hs] at h; exact absurd h (by decide)
    · exact ⟨hf, by omega⟩
  · rw [checkN_bad hf] at h; exact absurd h (by decide)

set_option maxRecDepth 100000 in
set_option maxHeartbeats 2000000 in
theorem check_any (x : Nd) (ao : Option Addr) (n c : Nat) (w : World) (hk : IsKs w ao n x.kids) :
    Calls Try.prog 15 #[aggN x.h x.text ao n c] w fun e w' => e = .returned (.int .i64 (checkN x)) ∧ Below w.heap.size w w' := by
  have HK := Lib.hid hk
  clear hk
  by_cases hf : formedP x
  · by_cases hs : 65536 < (sumN x).1
    · rw [checkN_long hf hs]
      have HF := Lib.hid hf
      clear hf
      unfold aggN
      go_enter Try.func15, Try.ntmps15
      go_wp2_with fail
      refine (formed_yes x ao n c _ (HK.out.box _) HF.out).mono ?_; rintro e w1 ⟨rfl, hb⟩
      obtain ⟨hbw, hb0⟩ := box_later hb
      (have q0 := block_cell hb0 0; have q1 := block_cell hb0 1; have q2 := block_cell hb0 2; have f0 := block_free hb0 0; have f1 := block_free hb0 1; have f2 := block_free hb0 2; have hz := block_lt hb0; simp at q0 q1 q2)
      have HBW := Lib.hid hbw
      clear hb hbw hb0
      go_wp2_with fail
      refine (sum_any x ao n c _ (HK.out.later HBW.out) HF.out).mono ?_; rintro e w2 ⟨rfl, hb⟩
      unfold aggM
      have hfl := run_field_bytes (sumN x).1 (sumN x).2.1 (sumN x).2.2
      go_wp2_with fail
      go_ret
      exact ⟨rfl, below_step HBW.out hb⟩
    · rw [checkN_ok hf hs]
      have HF := Lib.hid hf
      clear hf
      unfold aggN
      go_enter Try.func15, Try.ntmps15
      go_wp2_with fail
      refine (formed_yes x ao n c _ (HK.out.box _) HF.out).mono ?_; rintro e w1 ⟨rfl, hb⟩
      obtain ⟨hbw, hb0⟩ := box_later hb
      (have q0 := block_cell hb0 0; have q1 := block_cell hb0 1; have q2 := block_cell hb0 2; have f0 := block_free hb0 0; have f1 := block_free hb0 1; have f2 := block_free hb0 2; have hz := block_lt hb0; simp at q0 q1 q2)
      have HBW := Lib.hid hbw
      clear hb hbw hb0
      go_wp2_with fail
      refine (sum_any x ao n c _ (HK.out.later HBW.out) HF.out).mono ?_; rintro e w2 ⟨rfl, hb⟩
      unfold aggM
      have hfl := run_field_bytes (sumN x).1 (sumN x).2.1 (sumN x).2.2
      go_wp2_with fail
      go_ret
      exact ⟨rfl, below_step HBW.out hb⟩
  · rw [checkN_bad hf]
    have HF := Lib.hid hf
    clear hf
    unfold aggN
    go_enter Try.func15, Try.ntmps15
    go_wp2_with fail
    refine (formed_no x ao n c _ (HK.out.box _) HF.out).mono ?_; rintro e w1 ⟨rfl, hb⟩
    obtain ⟨hbw, _⟩ := box_later hb
    go_wp2_with fail
    go_ret
    exact ⟨rfl, hbw⟩

/-- what both Measures return -/
def measN (x : Nd) : Trip := if checkN x = 0 then sumN x else (0, 0, 0)

set_option maxRecDepth 100000 in
set_option maxHeartbeats 2000000 in
theorem measure_any (x : Nd) (ao : Option Addr) (n c : Nat) (w : World) (hk : IsKs w ao n x.kids) :
    Calls Try.prog 13 #[aggN x.h x.text ao n c] w fun e w' => e = .returned (.tuple #[aggM (measN x), .int .i64 (checkN x)]) ∧ Below w.heap.size w w' := by
  have HK := Lib.hid hk
  clear hk
  by_cases hc : checkN x = 0
  · have e : measN x = sumN x := if_pos hc
    have HF := Lib.hid (checkN_zero hc).1
    rw [e, hc]
    have HC := Lib.hid hc
    clear e hc
    unfold aggN
    go_enter Try.func13, Try.ntmps13
    go_wp2_with fail
    refine (check_any x ao n c _ ((HK.out.box _).box _)).mono ?_; rintro e w1 ⟨rfl, hb⟩
    rw [HC.out]
    obtain ⟨hbw, hb0, hb1⟩ := box2_later hb
    (have q0 := block_cell hb0 0; have q1 := block_cell hb0 1; have q2 := block_cell hb0 2; have f0 := block_free hb0 0; have f1 := block_free hb0 1; have f2 := block_free hb0 2; have hz := block_lt hb0; simp at q0 q1 q2)
    have HB1 := Lib.hid hb1
    have HBW := Lib.hid hbw
    clear hb hb0 hb1 hbw
    go_wp2_with fail
    refine (sum_any x ao n c _ (HK.out.later HBW.out) HF.out).mono ?_; rintro e w2 ⟨rfl, hb⟩
    unfold aggM
    have hb1 := block_below hb HB1.out (block_lt HB1.out)
    (have q0 := block_cell hb1 0; have q1 := block_cell hb1 1; have q2 := block_cell hb1 2; have f0 := block_free hb1 0; have f1 := block_free hb1 1; have f2 := block_free hb1 2; have hz := block_lt hb1; simp at q0 q1 q2)
    have HB2 := Lib.hid hb1
    have HB := Lib.hid hb
    clear hb hb1
    go_wp2_with fail
    have hb0 := block_setCell (block_setCell (block_setCell HB2.out 0 (.int .i64 (sumN x).1)) 1 (.int .i64 (sumN x).2.1)) 2 (.int .i64 (sumN x).2.2)
    exact bodyPost_ret (res3_tmp Try.results13 (Try.isAgg27 _) (Try.sizeOf27 _) rfl hb0) rfl ⟨rfl, (((below_step HBW.out HB.out).setCell (by simp) _).setCell (by simp) _).setCell (by simp) _⟩
  · have e : measN x = (0, 0, 0) := if_neg hc
    rw [e]
    have hc' : (checkN x == 0) = false := by simpa using hc
    clear e hc
    unfold aggN
    go_enter Try.func13, Try.ntmps13
    go_wp2_with fail
    refine (check_any x ao n c _ ((HK.out.box _).box _)).mono ?_; rintro e w1 ⟨rfl, hb⟩
    obtain ⟨hbw, hb0, hb1⟩ := box2_later hb
    (have q0 := block_cell hb1 0; have q1 := block_cell hb1 1; have q2 := block_cell hb1 2; have f0 := block_free hb1 0; have f1 := block_free hb1 1; have f2 := block_free hb1 2; have hz := block_lt hb1; simp at q0 q1 q2)
    have HB1 := Lib.hid hb1
    have HBW := Lib.hid hbw
    clear hb hb0 hb1 hbw
    go_wp2_with fail
    have hb0 := block_setCell (block_setCell (block_setCell HB1.out 0 (.int .i64 0)) 1 (.int .i64 0)) 2 (.int .i64 0)
    exact bodyPost_ret (res3_tmp Try.results13 (Try.isAgg27 _) (Try.sizeOf27 _) rfl hb0) rfl ⟨rfl, ((HBW.out.setCell (by simp) _).setCell (by simp) _).setCell (by simp) _⟩
end Go.Proofs.Ytbodacjhhkjdfaa
