/- Text: Number of the reference. -/
import Derived.Test.YtdfkbahlngijcaaDoorTq
namespace Go.Proofs.YtdfkbahlngijcaaDoor
open Go.RowKit
set_option linter.unusedVariables false

def numOK (v : Int) : Prop := 0 ≤ v ∧ v ≤ 9999999999
instance (v : Int) : Decidable (numOK v) := by unfold numOK; infer_instance
def numL (v : Int) : List UInt8 := if numOK v then Lib.decDigits v.toNat else []

set_option maxRecDepth 100000 in
set_option maxHeartbeats 4000000 in
theorem refNumber_any (v : Int) (w : World) :
    Calls Tryd.prog 32 #[.int .i64 v] w fun e w' => e = .returned (.tuple #[.string ⟨(numL v).toArray⟩, .bool (decide (numOK v))]) ∧ Below w.heap.size w w' := by
  have HB := Lib.hid (Below.refl w.heap.size w)
  by_cases h0 : v < 0
  · have HE := Lib.hid (show numL v = [] ∧ decide (numOK v) = false by
      have : ¬ numOK v := fun h => by have := h.1; omega
      exact ⟨if_neg this, decide_eq_false this⟩)
    go_enter Tryd.func32, Tryd.ntmps32
    go_wp2_with fail
    go_ret2
    exact ⟨by rw [HE.out.1, HE.out.2] <;> rfl, HB.out⟩
  by_cases h1 : 9999999999 < v
  · have HE := Lib.hid (show numL v = [] ∧ decide (numOK v) = false by
      have : ¬ numOK v := fun h => by have := h.2; omega
      exact ⟨if_neg this, decide_eq_false this⟩)
    go_enter Tryd.func32, Tryd.ntmps32
    go_wp2_with fail
    go_ret2
    exact ⟨by rw [HE.out.1, HE.out.2] <;> rfl, HB.out⟩
  obtain ⟨n, rfl⟩ : ∃ n : Nat, v = n := ⟨v.toNat, by omega⟩
  have hlen := decDigits_len 10 n (by decide) (by omega)
  have HE := Lib.hid (show numL (n : Int) = Lib.decDigits n ∧ decide (numOK (n : Int)) = true by
    have : numOK (n : Int) := ⟨by omega, by omega⟩
    exact ⟨if_pos this, decide_eq_true this⟩)
  have HL := Lib.hid hlen
  clear hlen
  go_enter Tryd.func32, Tryd.ntmps32
  go_wp2_with fail
  go_loopw [0, 4] (fun sv ss wr => ∃ (m : Nat) (l : List UInt8), sv = .int .i64 m ∧ ss = .string ⟨l.toArray⟩ ∧ Lib.decDigits m ++ l = Lib.decDigits n ∧ m ≤ 9999999999 ∧ l.length ≤ 20 ∧ Below w.heap.size w wr) (fun sv _ _ => (intOf sv).toNat)
  case atStart => exact ⟨n, [], rfl, rfl, List.append_nil _, by omega, Nat.zero_le _, HB.out⟩
  case round =>
    obtain ⟨m, l, rfl, rfl, hd, hm, hl, hbr⟩ := hrel
    have HD := Lib.hid hd
    have HBP := Lib.hid (hbr.alloc hbr.size (.cells #[.int .u8 (digC m).toNat] 5))
    obtain ⟨g, cap, e, hconv⟩ := own_str (bytes_one wr (digC m)) rfl (by decide)
    injection e with e1 e2 e3
    injection e1 with e1
    injection e1 with e1
    subst e1 e3
    have hT : Int.tmod (m : Int) 10 = (m : Int) % 10 := Int.tmod_eq_emod_of_nonneg (by omega)
    have hQ : Int.tdiv (m : Int) 10 = ((m / 10 : Nat) : Int) := by rw [Int.tdiv_eq_ediv_of_nonneg (by omega)]; rfl
    have hV : IntKind.u8.wrap (48 + (m : Int) % 10) = ((digC m).toNat : Int) := by
      rw [digC_val]
      rw [wrap8 _ (by omega) (by omega)]
      omega
    have hcat : ¬ (9223372036854775807 < (⟨#[digC m]⟩ : ByteArray).size + (⟨l.toArray⟩ : ByteArray).size) := by
      show ¬ (9223372036854775807 < 1 + l.length)
      omega
    clear hd hbr
    by_cases h10 : m < 10
    · have hm10 : (m : Int) < 10 := by omega
      have hV2 : IntKind.u8.wrap (48 + (m : Int)) = ((digC m).toNat : Int) := by
        rw [← hV, show (m : Int) % 10 = m by omega]
      have HR := Lib.hid (show Lib.decDigits n = digC m :: l by rw [← HD.out, decDigits_small h10]; rfl)
      clear hV hT hQ
      go_wp2_with fail
      go_ret2
      exact ⟨by rw [HE.out.1, HE.out.2, HR.out] <;> rfl, HBP.out⟩
    · have hm10 : ¬ ((m : Int) < 10) := by omega
      have HR := Lib.hid (show Lib.decDigits (m / 10) ++ (digC m :: l) = Lib.decDigits n by rw [← HD.out, decDigits_step h10, List.append_assoc]; rfl)
      have HLE := Lib.hid (show (digC m :: l).length ≤ 20 by
        have h1 := congrArg List.length HR.out
        have h2 := HL.out
        rw [List.length_append] at h1
        omega)
      go_wp2_with fail
      go_roundw
      case rel => exact ⟨m / 10, digC m :: l, by go_num, rfl, HR.out, by omega, HLE.out, HBP.out⟩
      case measure => simp [intOf]; omega
end Go.Proofs.YtdfkbahlngijcaaDoor
