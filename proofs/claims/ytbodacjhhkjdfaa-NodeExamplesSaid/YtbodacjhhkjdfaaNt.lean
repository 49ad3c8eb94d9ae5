/- The contract of number. -/
import Derived.Test.YtbodacjhhkjdfaaNs
namespace Go.Proofs.Ytbodacjhhkjdfaa
open Go.RowKit

theorem byte_str (b : UInt8) (l : List UInt8) : (⟨#[b]⟩ : ByteArray) ++ ⟨l.toArray⟩ = ⟨(b :: l).toArray⟩ := by
  apply ByteArray.ext
  simp

set_option maxRecDepth 100000 in
set_option maxHeartbeats 1000000 in
theorem number_any (v m : Nat) (w : World) (hv : v < 18446744073709551616) (hm : m ≤ 8) :
    Calls Try.prog 56 #[.int .u64 v, .int .i64 m] w fun e w' => e = .returned (.string ⟨(be m v).toArray⟩) ∧ Below w.heap.size w w' := by
  go_enter Try.func56, Try.ntmps56
  go_wp2_with fail
  go_loopw [0, 5, 6] (fun nv o i wr => ∃ (k nn : Nat) (os : ByteArray), k ≤ m ∧ i = .int .i64 k ∧ nv = .int .u64 nn ∧ o = .string os ∧ Hid (nn = v / 256 ^ k) ∧ Hid (os = ⟨(be k v).toArray⟩) ∧ Below w.heap.size w wr) (fun _ _ i _ => m - (intOf i).toNat)
  case atStart => exact ⟨0, v, ⟨#[]⟩, Nat.zero_le _, rfl, rfl, rfl, Lib.hid (by simp), Lib.hid rfl, Below.refl _ _⟩
  case round =>
    obtain ⟨k, nn, os, hk, rfl, rfl, rfl, hnn, hos, hbr⟩ := hrel
    have HBR := Lib.hid hbr
    have hnv : nn < 18446744073709551616 := by rw [hnn.out]; exact Nat.lt_of_le_of_lt (Nat.div_le_self _ _) hv
    have hsz : os.size = k := by rw [hos.out]; simp [ByteArray.size, be_len]
    clear hbr
    by_cases hlt : k < m
    · have hcat : ¬ 9223372036854775807 < 1 + os.size := by omega
      have hb : (UInt8.ofNat (nn % 256)).toNat = nn % 256 := by
        rw [UInt8.toNat_ofNat']
        exact Nat.mod_eq_of_lt (Nat.mod_lt _ (by decide))
      have hconv := run_convert_bytes_back (P := Try.prog) (wr.alloc (.cells #[.int .u8 ((nn : Int) % 256)] 5)) 66 9 5 ⟨wr.heap.size, 0, none⟩ 1 [UInt8.ofNat (nn % 256)] Try.underlying66 Try.underlying5 Try.underlying9 (fun j hj => by
        obtain rfl : j = 0 := by simpa using hj
        rw [add_to, block_cell (block_new _ _)]
        simp only [List.getElem_cons_zero, hb]
        rfl)
      have hnext : nn / 256 = v / 256 ^ (k + 1) := by rw [hnn.out, Nat.div_div_eq_div_mul, ← Nat.pow_succ]
      have hbe : (⟨#[UInt8.ofNat (nn % 256)]⟩ : ByteArray) ++ os = ⟨(be (k + 1) v).toArray⟩ := by rw [hos.out, byte_str, hnn.out]; rfl
      have HNEXT := Lib.hid hnext
      have HBE := Lib.hid hbe
      clear hb hnext hbe hsz
      simp only [List.length_singleton] at hconv
      go_wp2_with fail
      go_roundw
      case rel => exact ⟨k + 1, nn / 256, _, by omega, by go_num, by go_num, rfl, HNEXT, HBE, HBR.out.alloc HBR.out.size _⟩
      case measure => simp [intOf]; omega
    · obtain rfl : m = k := by omega
      go_wp2_with fail
      go_ret
      exact ⟨by rw [hos.out] <;> rfl, HBR.out⟩
end Go.Proofs.Ytbodacjhhkjdfaa
