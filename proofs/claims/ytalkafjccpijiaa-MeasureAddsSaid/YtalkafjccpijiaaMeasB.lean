/- The contracts of find, before, measured, Rune, RunesBefore, Line, LineOf of quarto/measure, by walks. -/
import Derived.Test.YtalkafjccpijiaaMeas
namespace Go.Proofs.Ytalkafjccpijiaa
open Go.RowKit

/-- k is the offset of the byte that counts with the index n -/
def IsNth (p : UInt8 → Bool) (s : ByteArray) (n k : Nat) : Prop := ∃ h : k < s.size, p s[k] = true ∧ cntTo p s k = n

theorem cntTo_step (p : UInt8 → Bool) (s : ByteArray) (k : Nat) (h : k < s.size) : cntTo p s (k + 1) = cntTo p s k + (if p s[k] then 1 else 0) := by
  rcases hp : p s[k] with _ | _
  · rw [cntTo_no p s k h hp]; simp
  · rw [cntTo_yes p s k h hp]; simp
theorem cntTo_mono (p : UInt8 → Bool) (s : ByteArray) {j k : Nat} (h : j ≤ k) : cntTo p s j ≤ cntTo p s k := by
  unfold cntTo
  exact (List.take_sublist_take_left h).countP_le
theorem cntTo_cnt (p : UInt8 → Bool) (s : ByteArray) (k : Nat) : cntTo p s k ≤ cnt p s := by
  unfold cntTo cnt
  exact (List.take_sublist _ _).countP_le
theorem cntTo_lt (p : UInt8 → Bool) (s : ByteArray) {j k : Nat} (h : j < k) (hj : j < s.size) (hp : p s[j] = true) : cntTo p s j < cntTo p s k := by
  have h1 := cntTo_yes p s j hj hp
  have h2 := cntTo_mono p s (show j + 1 ≤ k from h)
  omega
theorem cntTo_lt_cnt (p : UInt8 → Bool) (s : ByteArray) {j : Nat} (hj : j < s.size) (hp : p s[j] = true) : cntTo p s j < cnt p s := by
  have h1 := cntTo_yes p s j hj hp
  have h2 := cntTo_cnt p s (j + 1)
  omega
theorem cntTo_zero (p : UInt8 → Bool) (s : ByteArray) : cntTo p s 0 = 0 := rfl
theorem cnt_le (p : UInt8 → Bool) (s : ByteArray) : cnt p s ≤ s.size := by
  unfold cnt
  exact Nat.le_trans List.countP_le_length (by simp)

/-- the index exists, or there are not so many -/
theorem nth_or (p : UInt8 → Bool) (s : ByteArray) (n : Nat) : cnt p s ≤ n ∨ ∃ k, IsNth p s n k := by
  have key : ∀ j, cntTo p s j ≤ n ∨ ∃ k, IsNth p s n k := by
    intro j
    induction j with
    | zero => left; rw [cntTo_zero]; omega
    | succ j ih =>
      rcases ih with ih | ih
      · by_cases hj : j < s.size
        · rw [cntTo_step p s j hj]
          rcases hp : p s[j] with _ | _
          · left; simpa using ih
          · by_cases e : cntTo p s j = n
            · right; exact ⟨j, hj, hp, e⟩
            · left; simp; omega
        · left
          rw [cntTo_end p s (j + 1) (by omega), ← cntTo_end p s j hj]
          exact ih
      · exact Or.inr ih
  rcases key s.size with h | h
  · left; rw [← cntTo_end p s s.size (by omega)]; exact h
  · exact Or.inr h
theorem IsNth.lt {p : UInt8 → Bool} {s : ByteArray} {n k : Nat} (h : IsNth p s n k) : n < cnt p s := by
  obtain ⟨h1, h2, h3⟩ := h
  have := cntTo_lt_cnt p s h1 h2
  omega
theorem IsNth.size {p : UInt8 → Bool} {s : ByteArray} {n k : Nat} (h : IsNth p s n k) : k < s.size := h.1
theorem IsNth.uniq {p : UInt8 → Bool} {s : ByteArray} {n k j : Nat} (h : IsNth p s n k) (g : IsNth p s n j) : k = j := by
  obtain ⟨h1, h2, h3⟩ := h
  obtain ⟨g1, g2, g3⟩ := g
  rcases Nat.lt_trichotomy k j with e | e | e
  · have := cntTo_lt p s e h1 h2; omega
  · exact e
  · have := cntTo_lt p s e g1 g2; omega

set_option maxHeartbeats 400000 in
theorem findB_no (s : ByteArray) (n : Int) (w : World) (hs : s.size ≤ maxLen) (hn : n ≤ 9223372036854775807) (h : (cnt isB s : Int) ≤ n) :
    Calls Try.prog 32 #[.string s, .func (.func 27) #[] #[], .int .i64 n] w fun e w' => e = .returned (.tuple #[.int .i64 0, .bool false]) ∧ w = w' := by
  unfold maxLen at hs
  go_enter Try.func32, Try.ntmps32
  go_wp2
  go_loop [2, 11] (fun m i => ∃ k : Nat, k ≤ s.size ∧ i = .int .i64 k ∧ m = .int .i64 (n - ((cntTo isB s k : Nat) : Int))) (fun _ i => s.size - (intOf i).toNat)
  case atStart => exact ⟨0, Nat.zero_le _, rfl, by rw [cntTo_zero]; simp⟩
  case round =>
    obtain ⟨k, hk, rfl, rfl⟩ := hrel
    have hl := cntTo_le isB s k
    by_cases hlt : k < s.size
    · rcases hp : isB s[k] with _ | _
      · have HC := Lib.hid (cntTo_no isB s k hlt hp)
        go_wp2_with (go_at_call 27; refine (begins_any _ _).mono ?_; rintro e w' ⟨rfl, rfl⟩)
        all_goals
          go_round
          case rel => exact ⟨k + 1, by omega, by go_num, by rw [HC.out]⟩
          case measure => simp [intOf]; omega
      · have HC := Lib.hid (cntTo_yes isB s k hlt hp)
        have h2 : ((cntTo isB s k : Nat) : Int) < (cnt isB s : Int) := by have := cntTo_lt_cnt isB s hlt hp; omega
        have h0 : (n - ((cntTo isB s k : Nat) : Int) == 0) = false := by simp; omega
        go_wp2_with (go_at_call 27; refine (begins_any _ _).mono ?_; rintro e w' ⟨rfl, rfl⟩)
        all_goals
          go_round
          case rel => exact ⟨k + 1, by omega, by go_num, by rw [HC.out]; go_num⟩
          case measure => simp [intOf]; omega
    · go_wp2
      go_ret2
      exact ⟨rfl, rfl⟩

set_option maxHeartbeats 400000 in
theorem findB_yes (s : ByteArray) (n : Int) (q : Nat) (w : World) (hs : s.size ≤ maxLen) (hn : n ≤ 9223372036854775807) (h0 : 0 ≤ n) (h : IsNth isB s n.toNat q) :
    Calls Try.prog 32 #[.string s, .func (.func 27) #[] #[], .int .i64 n] w fun e w' => e = .returned (.tuple #[.int .i64 q, .bool true]) ∧ w = w' := by
  unfold maxLen at hs
  obtain ⟨hq, hpq, hnq⟩ := h
  have hnq' : ((cntTo isB s q : Nat) : Int) = n := by omega
  have HN := Lib.hid hnq'
  clear hnq hnq'
  go_enter Try.func32, Try.ntmps32
  go_wp2
  go_loop [2, 11] (fun m i => ∃ k : Nat, k ≤ q ∧ i = .int .i64 k ∧ m = .int .i64 (n - ((cntTo isB s k : Nat) : Int))) (fun _ i => s.size - (intOf i).toNat)
  case atStart => exact ⟨0, Nat.zero_le _, rfl, by rw [cntTo_zero]; simp⟩
  case round =>
    obtain ⟨k, hk, rfl, rfl⟩ := hrel
    have hl := cntTo_le isB s k
    have hlt : k < s.size := by omega
    by_cases he : k = q
    · subst he
      have h0 : (n - ((cntTo isB s k : Nat) : Int) == 0) = true := by simp; have := HN.out; omega
      go_wp2_with (go_at_call 27; refine (begins_any _ _).mono ?_; rintro e w' ⟨rfl, rfl⟩)
      go_ret2
      exact ⟨rfl, rfl⟩
    · rcases hp : isB s[k] with _ | _
      · have HC := Lib.hid (cntTo_no isB s k hlt hp)
        go_wp2_with (go_at_call 27; refine (begins_any _ _).mono ?_; rintro e w' ⟨rfl, rfl⟩)
        all_goals
          go_round
          case rel => exact ⟨k + 1, by omega, by go_num, by rw [HC.out]⟩
          case measure => simp [intOf]; omega
      · have HC := Lib.hid (cntTo_yes isB s k hlt hp)
        have h2 : ((cntTo isB s k : Nat) : Int) < n := by have := cntTo_lt isB s (show k < q by omega) hlt hp; have := HN.out; omega
        have h0 : (n - ((cntTo isB s k : Nat) : Int) == 0) = false := by simp; omega
        go_wp2_with (go_at_call 27; refine (begins_any _ _).mono ?_; rintro e w' ⟨rfl, rfl⟩)
        all_goals
          go_round
          case rel => exact ⟨k + 1, by omega, by go_num, by rw [HC.out]; go_num⟩
          case measure => simp [intOf]; omega

set_option maxHeartbeats 400000 in
theorem findF_no (s : ByteArray) (n : Int) (w : World) (hs : s.size ≤ maxLen) (hn : n ≤ 9223372036854775807) (h : (cnt isF s : Int) ≤ n) :
    Calls Try.prog 32 #[.string s, .func (.func 28) #[] #[], .int .i64 n] w fun e w' => e = .returned (.tuple #[.int .i64 0, .bool false]) ∧ w = w' := by
  unfold maxLen at hs
  go_enter Try.func32, Try.ntmps32
  go_wp2
  go_loop [2, 11] (fun m i => ∃ k : Nat, k ≤ s.size ∧ i = .int .i64 k ∧ m = .int .i64 (n - ((cntTo isF s k : Nat) : Int))) (fun _ i => s.size - (intOf i).toNat)
  case atStart => exact ⟨0, Nat.zero_le _, rfl, by rw [cntTo_zero]; simp⟩
  case round =>
    obtain ⟨k, hk, rfl, rfl⟩ := hrel
    have hl := cntTo_le isF s k
    by_cases hlt : k < s.size
    · rcases hp : isF s[k] with _ | _
      · have HC := Lib.hid (cntTo_no isF s k hlt hp)
        go_wp2_with (go_at_call 28; refine (feeds_any _ _).mono ?_; rintro e w' ⟨rfl, rfl⟩)
        all_goals
          go_round
          case rel => exact ⟨k + 1, by omega, by go_num, by rw [HC.out]⟩
          case measure => simp [intOf]; omega
      · have HC := Lib.hid (cntTo_yes isF s k hlt hp)
        have h2 : ((cntTo isF s k : Nat) : Int) < (cnt isF s : Int) := by have := cntTo_lt_cnt isF s hlt hp; omega
        have h0 : (n - ((cntTo isF s k : Nat) : Int) == 0) = false := by simp; omega
        go_wp2_with (go_at_call 28; refine (feeds_any _ _).mono ?_; rintro e w' ⟨rfl, rfl⟩)
        all_goals
          go_round
          case rel => exact ⟨k + 1, by omega, by go_num, by rw [HC.out]; go_num⟩
          case measure => simp [intOf]; omega
    · go_wp2
      go_ret2
      exact ⟨rfl, rfl⟩

set_option maxHeartbeats 400000 in
theorem findF_yes (s : ByteArray) (n : Int) (q : Nat) (w : World) (hs : s.size ≤ maxLen) (hn : n ≤ 9223372036854775807) (h0 : 0 ≤ n) (h : IsNth isF s n.toNat q) :
    Calls Try.prog 32 #[.string s, .func (.func 28) #[] #[], .int .i64 n] w fun e w' => e = .returned (.tuple #[.int .i64 q, .bool true]) ∧ w = w' := by
  unfold maxLen at hs
  obtain ⟨hq, hpq, hnq⟩ := h
  have hnq' : ((cntTo isF s q : Nat) : Int) = n := by omega
  have HN := Lib.hid hnq'
  clear hnq hnq'
  go_enter Try.func32, Try.ntmps32
  go_wp2
  go_loop [2, 11] (fun m i => ∃ k : Nat, k ≤ q ∧ i = .int .i64 k ∧ m = .int .i64 (n - ((cntTo isF s k : Nat) : Int))) (fun _ i => s.size - (intOf i).toNat)
  case atStart => exact ⟨0, Nat.zero_le _, rfl, by rw [cntTo_zero]; simp⟩
  case round =>
    obtain ⟨k, hk, rfl, rfl⟩ := hrel
    have hl := cntTo_le isF s k
    have hlt : k < s.size := by omega
    by_cases he : k = q
    · subst he
      have h0 : (n - ((cntTo isF s k : Nat) : Int) == 0) = true := by simp; have := HN.out; omega
      go_wp2_with (go_at_call 28; refine (feeds_any _ _).mono ?_; rintro e w' ⟨rfl, rfl⟩)
      go_ret2
      exact ⟨rfl, rfl⟩
    · rcases hp : isF s[k] with _ | _
      · have HC := Lib.hid (cntTo_no isF s k hlt hp)
        go_wp2_with (go_at_call 28; refine (feeds_any _ _).mono ?_; rintro e w' ⟨rfl, rfl⟩)
        all_goals
          go_round
          case rel => exact ⟨k + 1, by omega, by go_num, by rw [HC.out]⟩
          case measure => simp [intOf]; omega
      · have HC := Lib.hid (cntTo_yes isF s k hlt hp)
        have h2 : ((cntTo isF s k : Nat) : Int) < n := by have := cntTo_lt isF s (show k < q by omega) hlt hp; have := HN.out; omega
        have h0 : (n - ((cntTo isF s k : Nat) : Int) == 0) = false := by simp; omega
        go_wp2_with (go_at_call 28; refine (feeds_any _ _).mono ?_; rintro e w' ⟨rfl, rfl⟩)
        all_goals
          go_round
          case rel => exact ⟨k + 1, by omega, by go_num, by rw [HC.out]; go_num⟩
          case measure => simp [intOf]; omega

end Go.Proofs.Ytalkafjccpijiaa
