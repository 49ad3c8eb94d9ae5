/- The contracts of get and value. -/
import Derived.Test.YtbodacjhhkjdfaaNr
namespace Go.Proofs.Ytbodacjhhkjdfaa
open Go.RowKit

def getTo (s : ByteArray) (k : Nat) : Nat := (s.data.toList.take k).foldl (fun a b => a * 256 + b.toNat) 0
def getV (s : ByteArray) : Nat := getTo s s.size
theorem getTo_succ (s : ByteArray) (k : Nat) (h : k < s.size) : getTo s (k + 1) = getTo s k * 256 + s[k].toNat := by
  unfold getTo
  have h' : k < s.data.toList.length := by simpa using h
  rw [List.take_succ_eq_append_getElem h', List.foldl_append]
  simp
  rfl
theorem getTo_lt (s : ByteArray) : ∀ k, k ≤ s.size → getTo s k < 256 ^ k
  | 0, _ => by simp [getTo]
  | k + 1, h => by
    have := getTo_lt s k (by omega)
    rw [getTo_succ s k (by omega), Nat.pow_succ]
    have := s[k].toNat_lt
    omega

set_option maxRecDepth 100000 in
set_option maxHeartbeats 1000000 in
theorem value_any (s : ByteArray) (w : World) (hs : s.size ≤ 7) :
    Calls Try.prog 60 #[.string s] w fun e w' => e = .returned (.int .u64 (getV s)) ∧ w = w' := by
  go_enter Try.func60, Try.ntmps60
  go_wp2_with fail
  go_loop [3, 4] (fun v i => ∃ k : Nat, k ≤ s.size ∧ i = .int .i64 k ∧ v = .int .u64 (getTo s k : Nat)) (fun _ i => s.size - (intOf i).toNat)
  case atStart => exact ⟨0, Nat.zero_le _, rfl, rfl⟩
  case round =>
    obtain ⟨k, hk, rfl, rfl⟩ := hrel
    have hlt0 := getTo_lt s k hk
    have h56 : 256 ^ k ≤ 256 ^ 7 := Nat.pow_le_pow_right (by decide) (by omega)
    have hb : getTo s k < 72057594037927936 := Nat.lt_of_lt_of_le hlt0 h56
    clear hlt0 h56
    by_cases hlt : k < s.size
    · have hst := Lib.hid (getTo_succ s k hlt)
      have hby := s[k].toNat_lt
      go_wp2_with fail
      go_round
      case rel => exact ⟨k + 1, by omega, by go_num, by rw [hst.out]; go_num⟩
      case measure => simp [intOf]; omega
    · obtain rfl : k = s.size := by omega
      go_wp2_with fail
      go_ret
      exact ⟨rfl, rfl⟩

set_option maxRecDepth 100000 in
set_option maxHeartbeats 1000000 in
theorem get_any (s : ByteArray) (w : World) (hs : s.size ≤ 7) :
    Calls Try.prog 59 #[.string s] w fun e w' => e = .returned (.int .u64 (getV s)) ∧ w = w' := by
  go_enter Try.func59, Try.ntmps59
  go_wp2_with fail
  go_loop [3, 4] (fun v i => ∃ k : Nat, k ≤ s.size ∧ i = .int .i64 k ∧ v = .int .u64 (getTo s k : Nat)) (fun _ i => s.size - (intOf i).toNat)
  case atStart => exact ⟨0, Nat.zero_le _, rfl, rfl⟩
  case round =>
    obtain ⟨k, hk, rfl, rfl⟩ := hrel
    have hlt0 := getTo_lt s k hk
    have h56 : 256 ^ k ≤ 256 ^ 7 := Nat.pow_le_pow_right (by decide) (by omega)
    have hb : getTo s k < 72057594037927936 := Nat.lt_of_lt_of_le hlt0 h56
    clear hlt0 h56
    by_cases hlt : k < s.size
    · have hst := Lib.hid (getTo_succ s k hlt)
      have hby := s[k].toNat_lt
      go_wp2_with fail
      go_round
      case rel =>
        refine ⟨k + 1, by omega, by go_num, ?_⟩
        rw [hst.out]
        have e := u64_or_nat (getTo s k * 256) s[k].toNat (by omega) (by omega)
        have e2 : getTo s k * 256 ||| s[k].toNat = getTo s k * 256 + s[k].toNat := by
          have := Nat.two_pow_add_eq_or_of_lt (i := 8) (b := s[k].toNat) hby (getTo s k)
          rw [show getTo s k * 256 = 2 ^ 8 * getTo s k by omega]
          exact this.symm
        rw [e2] at e
        exact congrArg (Value.int IntKind.u64) (by rw [← e]; push_cast; rfl)
      case measure => simp [intOf]; omega
    · obtain rfl : k = s.size := by omega
      go_wp2_with fail
      go_ret
      exact ⟨rfl, rfl⟩
end Go.Proofs.Ytbodacjhhkjdfaa
