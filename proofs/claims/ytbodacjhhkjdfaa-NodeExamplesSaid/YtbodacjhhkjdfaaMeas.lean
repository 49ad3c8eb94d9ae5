/- Contracts of the functions of quarto/measure and quarto/quartoref02 by walks. -/
import Derived.Test.YtbodacjhhkjdfaaLib
namespace Go.Proofs.Ytbodacjhhkjdfaa
open Go.RowKit

def isA (_ : UInt8) : Bool := true
def isB (b : UInt8) : Bool := decide ((b.toNat : Int) < 128) || decide ((191 : Int) < (b.toNat : Int))
def isF (b : UInt8) : Bool := ((b.toNat : Int) == 10)

set_option maxHeartbeats 400000 in
theorem every_any (b : UInt8) (w : World) :
    Calls Try.prog 62 #[.int .u8 b.toNat] w fun e w' => e = .returned (.bool (isA b)) ∧ w = w' := by
  go_enter Try.func62, Try.ntmps62
  go_wp2
  go_ret
  exact ⟨rfl, rfl⟩

set_option maxHeartbeats 400000 in
theorem begins_any (b : UInt8) (w : World) :
    Calls Try.prog 63 #[.int .u8 b.toNat] w fun e w' => e = .returned (.bool (isB b)) ∧ w = w' := by
  by_cases h : (b.toNat : Int) < 128
  · have hf : isB b = true := by unfold isB; rw [decide_eq_true h]; rfl
    have HF := Lib.hid hf
    clear hf
    go_enter Try.func63, Try.ntmps63
    go_wp2
    go_ret
    rw [HF.out]
    exact ⟨rfl, rfl⟩
  · have hf : isB b = decide ((191 : Int) < (b.toNat : Int)) := by unfold isB; rw [decide_eq_false h]; rfl
    have HF := Lib.hid hf
    clear hf
    go_enter Try.func63, Try.ntmps63
    go_wp2
    go_ret
    rw [HF.out]
    exact ⟨rfl, rfl⟩

set_option maxHeartbeats 400000 in
theorem feeds_any (b : UInt8) (w : World) :
    Calls Try.prog 64 #[.int .u8 b.toNat] w fun e w' => e = .returned (.bool (isF b)) ∧ w = w' := by
  go_enter Try.func64, Try.ntmps64
  go_wp2
  go_ret
  exact ⟨rfl, rfl⟩

theorem take_snoc (s : ByteArray) (k : Nat) (h : k < s.size) : s.data.toList.take (k + 1) = s.data.toList.take k ++ [s[k]] := by
  rw [List.take_succ_eq_append_getElem (by simpa using h)]; rfl

/-- how many of the first k bytes of s count -/
def cntTo (p : UInt8 → Bool) (s : ByteArray) (k : Nat) : Nat := (s.data.toList.take k).countP p
/-- how many bytes of s count -/
def cnt (p : UInt8 → Bool) (s : ByteArray) : Nat := s.data.toList.countP p

theorem cntTo_le (p : UInt8 → Bool) (s : ByteArray) (k : Nat) : cntTo p s k ≤ k := Nat.le_trans List.countP_le_length (List.length_take_le _ _)
theorem cntTo_end (p : UInt8 → Bool) (s : ByteArray) (k : Nat) (h : ¬ k < s.size) : cntTo p s k = cnt p s := by
  unfold cntTo cnt
  rw [List.take_of_length_le (by have : s.data.toList.length = s.size := by simp
                                 omega)]
theorem cntTo_yes (p : UInt8 → Bool) (s : ByteArray) (k : Nat) (h : k < s.size) (hp : p s[k] = true) : cntTo p s (k + 1) = cntTo p s k + 1 := by
  unfold cntTo
  rw [take_snoc s k h, List.countP_append]
  simp [hp]
theorem cntTo_no (p : UInt8 → Bool) (s : ByteArray) (k : Nat) (h : k < s.size) (hp : p s[k] = false) : cntTo p s (k + 1) = cntTo p s k := by
  unfold cntTo
  rw [take_snoc s k h, List.countP_append]
  simp [hp]

set_option maxHeartbeats 400000 in
theorem countA_any (s : ByteArray) (w : World) (hs : s.size ≤ maxLen) :
    Calls Try.prog 65 #[.string s, .func (.func 62) #[] #[]] w fun e w' => e = .returned (.int .i64 ((cnt isA s : Nat) : Int)) ∧ w = w' := by
  unfold maxLen at hs
  go_enter Try.func65, Try.ntmps65
  go_wp2
  go_loop [5, 9] (fun n i => ∃ k : Nat, k ≤ s.size ∧ i = .int .i64 k ∧ n = .int .i64 ((cntTo isA s k : Nat) : Int)) (fun _ i => s.size - (intOf i).toNat)
  case atStart => exact ⟨0, Nat.zero_le _, rfl, rfl⟩
  case round =>
    obtain ⟨k, hk, rfl, rfl⟩ := hrel
    have hl := cntTo_le isA s k
    by_cases hlt : k < s.size
    · rcases hp : isA s[k] with _ | _
      · have HC := Lib.hid (cntTo_no isA s k hlt hp)
        go_wp2_with (go_at_call 62; refine (every_any _ _).mono ?_; rintro e w' ⟨rfl, rfl⟩)
        all_goals
          go_round
          case rel => exact ⟨k + 1, by omega, by go_num, by rw [HC.out]⟩
          case measure => simp [intOf]; omega
      · have HC := Lib.hid (cntTo_yes isA s k hlt hp)
        go_wp2_with (go_at_call 62; refine (every_any _ _).mono ?_; rintro e w' ⟨rfl, rfl⟩)
        all_goals
          go_round
          case rel => exact ⟨k + 1, by omega, by go_num, by rw [HC.out]; go_num⟩
          case measure => simp [intOf]; omega
    · have HT := Lib.hid (cntTo_end isA s k hlt)
      go_wp2
      go_ret
      rw [HT.out]
      exact ⟨rfl, rfl⟩

set_option maxHeartbeats 400000 in
theorem countB_any (s : ByteArray) (w : World) (hs : s.size ≤ maxLen) :
    Calls Try.prog 65 #[.string s, .func (.func 63) #[] #[]] w fun e w' => e = .returned (.int .i64 ((cnt isB s : Nat) : Int)) ∧ w = w' := by
  unfold maxLen at hs
  go_enter Try.func65, Try.ntmps65
  go_wp2
  go_loop [5, 9] (fun n i => ∃ k : Nat, k ≤ s.size ∧ i = .int .i64 k ∧ n = .int .i64 ((cntTo isB s k : Nat) : Int)) (fun _ i => s.size - (intOf i).toNat)
  case atStart => exact ⟨0, Nat.zero_le _, rfl, rfl⟩
  case round =>
    obtain ⟨k, hk, rfl, rfl⟩ := hrel
    have hl := cntTo_le isB s k
    by_cases hlt : k < s.size
    · rcases hp : isB s[k] with _ | _
      · have HC := Lib.hid (cntTo_no isB s k hlt hp)
        go_wp2_with (go_at_call 63; refine (begins_any _ _).mono ?_; rintro e w' ⟨rfl, rfl⟩)
        all_goals
          go_round
          case rel => exact ⟨k + 1, by omega, by go_num, by rw [HC.out]⟩
          case measure => simp [intOf]; omega
      · have HC := Lib.hid (cntTo_yes isB s k hlt hp)
        go_wp2_with (go_at_call 63; refine (begins_any _ _).mono ?_; rintro e w' ⟨rfl, rfl⟩)
        all_goals
          go_round
          case rel => exact ⟨k + 1, by omega, by go_num, by rw [HC.out]; go_num⟩
          case measure => simp [intOf]; omega
    · have HT := Lib.hid (cntTo_end isB s k hlt)
      go_wp2
      go_ret
      rw [HT.out]
      exact ⟨rfl, rfl⟩

set_option maxHeartbeats 400000 in
theorem countF_any (s : ByteArray) (w : World) (hs : s.size ≤ maxLen) :
    Calls Try.prog 65 #[.string s, .func (.func 64) #[] #[]] w fun e w' => e = .returned (.int .i64 ((cnt isF s : Nat) : Int)) ∧ w = w' := by
  unfold maxLen at hs
  go_enter Try.func65, Try.ntmps65
  go_wp2
  go_loop [5, 9] (fun n i => ∃ k : Nat, k ≤ s.size ∧ i = .int .i64 k ∧ n = .int .i64 ((cntTo isF s k : Nat) : Int)) (fun _ i => s.size - (intOf i).toNat)
  case atStart => exact ⟨0, Nat.zero_le _, rfl, rfl⟩
  case round =>
    obtain ⟨k, hk, rfl, rfl⟩ := hrel
    have hl := cntTo_le isF s k
    by_cases hlt : k < s.size
    · rcases hp : isF s[k] with _ | _
      · have HC := Lib.hid (cntTo_no isF s k hlt hp)
        go_wp2_with (go_at_call 64; refine (feeds_any _ _).mono ?_; rintro e w' ⟨rfl, rfl⟩)
        all_goals
          go_round
          case rel => exact ⟨k + 1, by omega, by go_num, by rw [HC.out]⟩
          case measure => simp [intOf]; omega
      · have HC := Lib.hid (cntTo_yes isF s k hlt hp)
        go_wp2_with (go_at_call 64; refine (feeds_any _ _).mono ?_; rintro e w' ⟨rfl, rfl⟩)
        all_goals
          go_round
          case rel => exact ⟨k + 1, by omega, by go_num, by rw [HC.out]; go_num⟩
          case measure => simp [intOf]; omega
    · have HT := Lib.hid (cntTo_end isF s k hlt)
      go_wp2
      go_ret
      rw [HT.out]
      exact ⟨rfl, rfl⟩

end Go.Proofs.Ytbodacjhhkjdfaa
