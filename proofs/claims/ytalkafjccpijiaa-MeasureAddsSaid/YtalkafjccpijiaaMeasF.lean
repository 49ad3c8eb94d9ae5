/- The contracts of Sub and of the laws' examples. -/
import Derived.Test.YtalkafjccpijiaaMeasE
namespace Go.Proofs.Ytalkafjccpijiaa
open Go.RowKit

set_option maxRecDepth 100000 in
set_option maxHeartbeats 400000 in
theorem sub_err (a b c x y z : Int) (w : World) (h : a < x ∨ b < y ∨ c < z) :
    Calls Try.prog 24 #[.agg #[.int .i64 a, .int .i64 b, .int .i64 c], .agg #[.int .i64 x, .int .i64 y, .int .i64 z]] w fun e w' => e = .returned (.tuple #[.agg #[.int .i64 0, .int .i64 0, .int .i64 0], .int .i64 3]) ∧ Below w.heap.size w w' := by
  by_cases h1 : a < x
  · clear h
    go_enter Try.func24, Try.ntmps24
    go_wp2
    exact bodyPost_ret (v := .tuple #[.agg #[.int .i64 0, .int .i64 0, .int .i64 0], .int .i64 3]) (by simp [results, Try.results24, go_sem]) rfl ⟨rfl, by go_grown⟩
  · by_cases h2 : b < y
    · clear h
      go_enter Try.func24, Try.ntmps24
      go_wp2
      exact bodyPost_ret (v := .tuple #[.agg #[.int .i64 0, .int .i64 0, .int .i64 0], .int .i64 3]) (by simp [results, Try.results24, go_sem]) rfl ⟨rfl, by go_grown⟩
    · have h3 : c < z := by omega
      clear h
      go_enter Try.func24, Try.ntmps24
      go_wp2
      exact bodyPost_ret (v := .tuple #[.agg #[.int .i64 0, .int .i64 0, .int .i64 0], .int .i64 3]) (by simp [results, Try.results24, go_sem]) rfl ⟨rfl, by go_grown⟩

set_option maxRecDepth 100000 in
set_option maxHeartbeats 400000 in
theorem sub_ok (a b c x y z : Int) (w : World) (h1 : ¬ a < x) (h2 : ¬ b < y) (h3 : ¬ c < z) :
    Calls Try.prog 24 #[.agg #[.int .i64 a, .int .i64 b, .int .i64 c], .agg #[.int .i64 x, .int .i64 y, .int .i64 z]] w fun e w' => e = .returned (.tuple #[.agg #[.int .i64 (wrap64 (a - x)), .int .i64 (wrap64 (b - y)), .int .i64 (wrap64 (c - z))], .int .i64 0]) ∧ Below w.heap.size w w' := by
  go_enter Try.func24, Try.ntmps24
  go_wp2_with fail
  refine (measured_any _ _ _ _).mono ?_
  rintro e w1 ⟨rfl, hb⟩
  obtain ⟨hc, hf⟩ := bcell hb
  have hz : w.heap.size + 2 < w1.heap.size := by have := hb.size; simp at this; omega
  go_wp2
  have hb0 := block_setCell (block_setCell (block_setCell (block_below hb (block_new' _ _ (w.heap.size + 1 + 1) (by simp)) (by simp)) 0 (.int .i64 (wrap64 (a - x)))) 1 (.int .i64 (wrap64 (b - y)))) 2 (.int .i64 (wrap64 (c - z)))
  exact bodyPost_ret (res3_tmp Try.results24 (Try.isAgg23 _) (Try.sizeOf23 _) rfl hb0) rfl ⟨rfl, ((((Below.refl _ _).alloc (Nat.le_refl _) _).alloc (by simp) _).alloc (by simp; omega) _).trans (hb.mono (by simp; omega)) |>.setCell (by simp; omega) _ |>.setCell (by simp; omega) _ |>.setCell (by simp; omega) _⟩

/-- the string of the examples -/
def sK : ByteArray := ⟨#[97, 10, 226, 130, 172, 10]⟩
theorem sK_size : sK.size ≤ maxLen := by decide
theorem kRune3 : runeR sK 3 = (5, 0) := by decide +kernel
theorem kRune5 : runeR sK 5 = (0, 3) := by decide +kernel
theorem kBef3 : befR isB sK 3 = (3, 0) := by decide +kernel
theorem kLine1 : lineR sK 1 = (2, 0) := by decide +kernel
theorem kLineOf6 : befR isF sK 6 = (2, 0) := by decide +kernel
theorem kOf : ((sK.size : Int) = 6 ∧ ((cnt isB sK : Nat) : Int) = 4 ∧ ((cnt isF sK : Nat) : Int) = 2) := by decide +kernel

theorem rune3_k (w : World) : Calls Try.prog 14 #[.string ⟨#[97, 10, 226, 130, 172, 10]⟩, .int .i64 3] w fun e w' => e = .returned (.tuple #[.int .i64 5, .int .i64 0]) ∧ w = w' := by
  have h := rune_any sK 3 w sK_size (by decide)
  rw [kRune3] at h
  exact h
theorem rune5_k (w : World) : Calls Try.prog 14 #[.string ⟨#[97, 10, 226, 130, 172, 10]⟩, .int .i64 5] w fun e w' => e = .returned (.tuple #[.int .i64 0, .int .i64 3]) ∧ w = w' := by
  have h := rune_any sK 5 w sK_size (by decide)
  rw [kRune5] at h
  exact h
theorem bef3_k (w : World) : Calls Try.prog 16 #[.string ⟨#[97, 10, 226, 130, 172, 10]⟩, .int .i64 3] w fun e w' => e = .returned (.tuple #[.int .i64 3, .int .i64 0]) ∧ w = w' := by
  have h := runesBefore_any sK 3 w sK_size (by decide)
  rw [kBef3] at h
  exact h
theorem line1_k (w : World) : Calls Try.prog 18 #[.string ⟨#[97, 10, 226, 130, 172, 10]⟩, .int .i64 1] w fun e w' => e = .returned (.tuple #[.int .i64 2, .int .i64 0]) ∧ w = w' := by
  have h := line_any sK 1 w sK_size (by decide)
  rw [kLine1] at h
  exact h
theorem lineOf6_k (w : World) : Calls Try.prog 20 #[.string ⟨#[97, 10, 226, 130, 172, 10]⟩, .int .i64 6] w fun e w' => e = .returned (.tuple #[.int .i64 2, .int .i64 0]) ∧ w = w' := by
  have h := lineOf_any sK 6 w sK_size (by decide)
  rw [kLineOf6] at h
  exact h
theorem of_k (w : World) : Calls Try.prog 11 #[.string ⟨#[97, 10, 226, 130, 172, 10]⟩] w fun e w' => e = .returned (.agg #[.int .i64 6, .int .i64 4, .int .i64 2]) ∧ Below w.heap.size w w' := by
  have h := of_any sK w sK_size
  rw [kOf.1, kOf.2.1, kOf.2.2] at h
  exact h

set_option maxRecDepth 100000 in
set_option maxHeartbeats 1000000 in
theorem known_any (w : World) : Calls Try.prog 13 #[] w fun e w' => e = .returned (.bool true) ∧ Below w.heap.size w w' := by
  go_enter Try.func13, Try.ntmps13
  go_wp2_with fail
  refine (rune3_k _).mono ?_; rintro e w1 ⟨rfl, rfl⟩
  go_wp2_with fail
  refine (rune5_k _).mono ?_; rintro e w1 ⟨rfl, rfl⟩
  go_wp2_with fail
  refine (bef3_k _).mono ?_; rintro e w1 ⟨rfl, rfl⟩
  go_wp2_with fail
  refine (line1_k _).mono ?_; rintro e w1 ⟨rfl, rfl⟩
  go_wp2_with fail
  refine (lineOf6_k _).mono ?_; rintro e w1 ⟨rfl, rfl⟩
  go_wp2_with fail
  refine (sub_err _ _ _ _ _ _ _ (by omega)).mono ?_; rintro e w1 ⟨rfl, hb1⟩
  go_wp2_with fail
  refine (of_k _).mono ?_; rintro e w2 ⟨rfl, hb2⟩
  go_wp2_with fail
  go_ret
  exact ⟨rfl, below_step (hb1.alloc hb1.size _) hb2⟩

end Go.Proofs.Ytalkafjccpijiaa
