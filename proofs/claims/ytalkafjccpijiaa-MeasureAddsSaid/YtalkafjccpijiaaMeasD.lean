/- The contracts of Of and of the reference's functions. -/
import Derived.Test.YtalkafjccpijiaaMeasC
import Derived.Test.YtalkafjccpijiaaLibB
namespace Go.Proofs.Ytalkafjccpijiaa
open Go.RowKit

theorem cntA (s : ByteArray) : cnt isA s = s.size := by
  unfold cnt
  have : ∀ l : List UInt8, l.countP isA = l.length := fun l => by
    rw [List.countP_eq_length]; intro a _; rfl
  rw [this]
  simp

set_option maxHeartbeats 400000 in
theorem of_any (s : ByteArray) (w : World) (hs : s.size ≤ maxLen) :
    Calls Try.prog 11 #[.string s] w fun e w' => e = .returned (.agg #[.int .i64 (s.size : Int), .int .i64 ((cnt isB s : Nat) : Int), .int .i64 ((cnt isF s : Nat) : Int)]) ∧ Below w.heap.size w w' := by
  have i0 : ∀ w, (Instr.index 43 (.agg #[.func (.func 26) #[] #[], .func (.func 27) #[] #[], .func (.func 28) #[] #[]]) (.int .i64 0)).run Try.prog w = .ok (.func (.func 26) #[] #[]) w := fun _ => by kernel_rfl
  have i1 : ∀ w, (Instr.index 43 (.agg #[.func (.func 26) #[] #[], .func (.func 27) #[] #[], .func (.func 28) #[] #[]]) (.int .i64 1)).run Try.prog w = .ok (.func (.func 27) #[] #[]) w := fun _ => by kernel_rfl
  have i2 : ∀ w, (Instr.index 43 (.agg #[.func (.func 26) #[] #[], .func (.func 27) #[] #[], .func (.func 28) #[] #[]]) (.int .i64 2)).run Try.prog w = .ok (.func (.func 28) #[] #[]) w := fun _ => by kernel_rfl
  go_enter Try.func11, Try.ntmps11
  go_wp2
  refine wp_loop_rounds 4 ?_
  rw [rounds_succ]
  go_wp2_with (go_at_call 29; refine (countA_any _ _ hs).mono ?_; rintro e w' ⟨rfl, rfl⟩)
  rw [rounds_succ]
  go_wp2_with (go_at_call 29; refine (countB_any _ _ hs).mono ?_; rintro e w' ⟨rfl, rfl⟩)
  rw [rounds_succ]
  go_wp2_with (go_at_call 29; refine (countF_any _ _ hs).mono ?_; rintro e w' ⟨rfl, rfl⟩)
  rw [rounds_succ]
  go_wp2_with fail
  refine (measured_any _ _ _ _).mono ?_
  rintro e w1 ⟨rfl, hb⟩
  obtain ⟨hc, hf⟩ := bcell hb
  have hz : w.heap.size + 1 < w1.heap.size := by have := hb.size; simp at this; omega
  go_wp2
  have hb0 := block_setCell (block_setCell (block_setCell (block_below hb (block_alloc (block_new w _) _) (by simp; omega)) 0 (.int .i64 ((cnt isA s : Nat) : Int))) 1 (.int .i64 ((cnt isB s : Nat) : Int))) 2 (.int .i64 ((cnt isF s : Nat) : Int))
  exact bodyPost_ret (res3 Try.results11 (Try.isAgg23 _) (Try.sizeOf23 _) rfl hb0) rfl ⟨by rw [cntA], (((Below.refl _ _).alloc (Nat.le_refl _) _).alloc (by simp) _).trans (hb.mono (by simp; omega)) |>.setCell (by simp) _ |>.setCell (by simp) _ |>.setCell (by simp) _⟩

theorem isC_eq (b : UInt8) : (decide ((128 : Int) ≤ (b.toNat : Int)) && decide ((b.toNat : Int) < 192)) = !isB b := by
  unfold isB
  by_cases h1 : (b.toNat : Int) < 128
  · rw [decide_eq_true h1, decide_eq_false (by omega)]; rfl
  · by_cases h2 : (191 : Int) < (b.toNat : Int)
    · rw [decide_eq_false h1, decide_eq_true h2, decide_eq_false (show ¬ (b.toNat : Int) < 192 by omega), Bool.and_false]; rfl
    · rw [decide_eq_false h1, decide_eq_false h2, decide_eq_true (show (b.toNat : Int) < 192 by omega), decide_eq_true (by omega)]; rfl

set_option maxHeartbeats 400000 in
theorem cont_any (b : UInt8) (w : World) :
    Calls Try.prog 33 #[.int .u8 b.toNat] w fun e w' => e = .returned (.bool (!isB b)) ∧ w = w' := by
  rw [← isC_eq]
  by_cases h : (128 : Int) ≤ (b.toNat : Int)
  · rw [decide_eq_true h, Bool.true_and]
    go_enter Try.func33, Try.ntmps33
    go_wp2
    go_ret
    exact ⟨rfl, rfl⟩
  · rw [decide_eq_false h, Bool.false_and]
    go_enter Try.func33, Try.ntmps33
    go_wp2
    go_ret
    exact ⟨rfl, rfl⟩

set_option maxHeartbeats 400000 in
theorem refCount_any (s : ByteArray) (w : World) (hs : s.size ≤ maxLen) :
    Calls Try.prog 31 #[.string s] w fun e w' => e = .returned (.int .i64 ((cnt isB s : Nat) : Int)) ∧ w = w' := by
  unfold maxLen at hs
  go_enter Try.func31, Try.ntmps31
  go_wp2
  go_loop [3, 4] (fun n i => ∃ k : Nat, k ≤ s.size ∧ i = .int .i64 k ∧ n = .int .i64 ((cntTo isB s k : Nat) : Int)) (fun _ i => s.size - (intOf i).toNat)
  case atStart => exact ⟨0, Nat.zero_le _, rfl, rfl⟩
  case round =>
    obtain ⟨k, hk, rfl, rfl⟩ := hrel
    have hl := cntTo_le isB s k
    by_cases hlt : k < s.size
    · rcases hp : isB s[k] with _ | _
      · have HC := Lib.hid (cntTo_no isB s k hlt hp)
        go_wp2_with (go_at_call 33; refine (cont_any _ _).mono ?_; rintro e w' ⟨rfl, rfl⟩)
        all_goals
          go_round
          case rel => exact ⟨k + 1, by omega, by go_num, by rw [HC.out]⟩
          case measure => simp [intOf]; omega
      · have HC := Lib.hid (cntTo_yes isB s k hlt hp)
        go_wp2_with (go_at_call 33; refine (cont_any _ _).mono ?_; rintro e w' ⟨rfl, rfl⟩)
        all_goals
          go_round
          case rel => exact ⟨k + 1, by omega, by go_num, by rw [HC.out]; go_num⟩
          case measure => simp [intOf]; omega
    · have HT := Lib.hid (cntTo_end isB s k hlt)
      go_wp2
      go_ret
      rw [HT.out]
      exact ⟨rfl, rfl⟩

set_option maxHeartbeats 400000 in
theorem refOf_any (s : ByteArray) (w : World) (hs : s.size ≤ maxLen) :
    Calls Try.prog 12 #[.string s] w fun e w' => e = .returned (.agg #[.int .i64 (s.size : Int), .int .i64 ((cnt isB s : Nat) : Int), .int .i64 ((cnt isF s : Nat) : Int)]) ∧ Below w.heap.size w w' := by
  have hs' : s.size ≤ 9223372036854775807 := hs
  go_enter Try.func12, Try.ntmps12
  go_wp2_with (go_at_call 31; refine (refCount_any _ _ hs).mono ?_; rintro e w' ⟨rfl, rfl⟩)
  go_loopw [4] (fun i wr => ∃ k : Nat, k ≤ s.size ∧ i = .int .i64 k ∧ wr = (w.alloc (.cells #[.int .i64 0, .int .i64 0, .int .i64 0] 23)).alloc (.cells #[.int .i64 (s.size : Int), .int .i64 ((cnt isB s : Nat) : Int), .int .i64 ((cntTo isF s k : Nat) : Int)] 23)) (fun i _ => s.size - (intOf i).toNat)
  case atStart => exact ⟨0, Nat.zero_le _, rfl, rfl⟩
  case round =>
    obtain ⟨k, hk, rfl, rfl⟩ := hrel
    have hl := cntTo_le isF s k
    by_cases hlt : k < s.size
    · rcases hp : isF s[k] with _ | _
      · have HC := Lib.hid (cntTo_no isF s k hlt hp)
        unfold isF at hp
        go_wp2
        all_goals
          go_roundw
          case rel => exact ⟨k + 1, by omega, by go_num, by rw [HC.out]⟩
          case measure => simp [intOf]; omega
      · have HC := Lib.hid (cntTo_yes isF s k hlt hp)
        unfold isF at hp
        go_wp2
        all_goals
          go_roundw
          case rel => exact ⟨k + 1, by omega, by go_num, by rw [HC.out]; rfl⟩
          case measure => simp [intOf]; omega
    · have HT := Lib.hid (cntTo_end isF s k hlt)
      go_wp2
      exact bodyPost_ret (v := .agg #[.int .i64 (s.size : Int), .int .i64 ((cnt isB s : Nat) : Int), .int .i64 ((cntTo isF s k : Nat) : Int)]) (by simp [results, Try.results12, go_sem]) rfl ⟨by rw [HT.out], by go_grown⟩

end Go.Proofs.Ytalkafjccpijiaa
