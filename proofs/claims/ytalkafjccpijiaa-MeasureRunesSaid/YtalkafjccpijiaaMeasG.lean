/- The walks of the laws MeasureOf, MeasureRunes, MeasureLines. -/
import Derived.Test.YtalkafjccpijiaaMeasF
namespace Go.Proofs.Ytalkafjccpijiaa
open Go.RowKit

theorem lines_le_runes (s : ByteArray) : cnt isF s ≤ cnt isB s := by
  unfold cnt
  refine List.countP_mono_left fun b _ hb => ?_
  unfold isF at hb
  unfold isB
  have h : (b.toNat : Int) = 10 := by simpa using hb
  rw [decide_eq_true (show (b.toNat : Int) < 128 by omega)]
  rfl

set_option maxRecDepth 100000 in
set_option maxHeartbeats 1000000 in
theorem walk_of (s : ByteArray) (w : World) (hs : s.size ≤ maxLen) :
    Calls Try.prog 3 #[.string s] w fun e w' => e = .returned (.bool true) ∧ Below w.heap.size w w' := by
  have h1 : ((cnt isB s : Nat) : Int) ≤ (s.size : Int) := by have := cnt_le isB s; omega
  have h2 : ((cnt isF s : Nat) : Int) ≤ ((cnt isB s : Nat) : Int) := by have := lines_le_runes s; omega
  go_enter Try.func3, Try.ntmps3
  go_wp2_with fail
  refine (of_any _ _ hs).mono ?_; rintro e w1 ⟨rfl, hb1⟩
  go_wp2_with fail
  refine wp_region_mild (by kernel_rfl) (by kernel_rfl) ?_
  intro X _ f hf hg
  have c0 : ∀ x, (f x).cell? ⟨w1.heap.size, 0, none⟩ = some (.int .i64 (s.size : Int)) := fun x => ((hf x).cell (by simp)).trans (by simp [go_sem])
  have c1 : ∀ x, (f x).cell? ⟨w1.heap.size, 1, none⟩ = some (.int .i64 ((cnt isB s : Nat) : Int)) := fun x => ((hf x).cell (by simp)).trans (by simp [go_sem])
  have c2 : ∀ x, (f x).cell? ⟨w1.heap.size, 2, none⟩ = some (.int .i64 ((cnt isF s : Nat) : Int)) := fun x => ((hf x).cell (by simp)).trans (by simp [go_sem])
  have HF := Lib.hid hf
  have HG := Lib.hid hg
  clear hf hg
  repeat (go_big_quiet_step (first
    | (go_at_call 12; exact Calls_mild HG.out (refOf_any _ _ hs))
    | (go_at_call 13; exact Calls_mild HG.out (known_any _))))
  refine wpQuiet_nil ?_
  rintro _ ⟨y, rfl⟩
  have hy := HF.out y
  go_wp2_with fail
  go_ret
  exact ⟨rfl, below_step (hb1.alloc hb1.size _) hy⟩

set_option maxRecDepth 100000 in
set_option maxHeartbeats 1000000 in
theorem walk_runes (s : ByteArray) (n at_ : Int) (w : World) (hs : s.size ≤ maxLen) (w1 : (Lit.int .i64 n).wf = true) (w2 : (Lit.int .i64 at_).wf = true) :
    Calls Try.prog 4 #[.string s, .int .i64 n, .int .i64 at_] w fun e w' => e = .returned (.bool true) ∧ Below w.heap.size w w' := by
  go_enter Try.func4, Try.ntmps4
  go_wp2_with fail
  refine (rune_any _ _ _ hs w1).mono ?_; rintro e w' ⟨rfl, rfl⟩
  go_wp2_with fail
  refine (refRune_any _ _ _ hs w1).mono ?_; rintro e w' ⟨rfl, rfl⟩
  go_wp2_with fail
  refine (runesBefore_any _ _ _ hs w2).mono ?_; rintro e w' ⟨rfl, rfl⟩
  go_wp2_with fail
  refine (refRunesBefore_any _ _ _ hs w2).mono ?_; rintro e w' ⟨rfl, rfl⟩
  go_wp2_with fail
  refine (known_any _).mono ?_; rintro e w2 ⟨rfl, hb⟩
  go_wp2_with fail
  go_ret
  exact ⟨rfl, hb⟩

set_option maxRecDepth 100000 in
set_option maxHeartbeats 1000000 in
theorem walk_lines (s : ByteArray) (n at_ : Int) (w : World) (hs : s.size ≤ maxLen) (w1 : (Lit.int .i64 n).wf = true) (w2 : (Lit.int .i64 at_).wf = true) :
    Calls Try.prog 5 #[.string s, .int .i64 n, .int .i64 at_] w fun e w' => e = .returned (.bool true) ∧ Below w.heap.size w w' := by
  go_enter Try.func5, Try.ntmps5
  go_wp2_with fail
  refine (line_any _ _ _ hs w1).mono ?_; rintro e w' ⟨rfl, rfl⟩
  go_wp2_with fail
  refine (refLine_any _ _ _ hs w1).mono ?_; rintro e wa ⟨rfl, ha⟩
  go_wp2_with fail
  refine (lineOf_any _ _ _ hs w2).mono ?_; rintro e w' ⟨rfl, rfl⟩
  go_wp2_with fail
  refine (refLineOf_any _ _ _ hs w2).mono ?_; rintro e wb ⟨rfl, hb⟩
  go_wp2_with fail
  refine (known_any _).mono ?_; rintro e wc ⟨rfl, hc⟩
  go_wp2_with fail
  go_ret
  exact ⟨rfl, below_step (below_step ha hb) hc⟩

end Go.Proofs.Ytalkafjccpijiaa
