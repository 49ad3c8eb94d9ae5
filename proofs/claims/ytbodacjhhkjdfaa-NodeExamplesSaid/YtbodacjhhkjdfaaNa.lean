/- What nodes are, and when they are valid: plain definitions. The contracts of the handles' checks and of bounds. -/
import Derived.Test.YtbodacjhhkjdfaaNm
import Derived.Laws.BitsAllLaws
namespace Go.Proofs.Ytbodacjhhkjdfaa
open Go.RowKit

abbrev Kid := Int × Trip

def hOK (h : Int) : Prop := h % 65536 < 16384 ∧ 1 ≤ h / 65536 ∧ h / 65536 ≤ 4294967295
instance (h : Int) : Decidable (hOK h) := by unfold hOK; infer_instance
def hErr (h : Int) : Int := if hOK h then 0 else 2
/-- the least and the greatest number of bytes of a child of a node of height n + 1 -/
def bnd : Nat → Int × Int
  | 0 => (8, 16)
  | n + 1 => ((bnd n).1 * 2, if 65536 < (bnd n).2 * 4 then 65536 else (bnd n).2 * 4)
def kidOK (n : Nat) (k : Kid) : Prop := hOK k.1 ∧ (bnd n).1 ≤ k.2.1 ∧ k.2.1 ≤ (bnd n).2 ∧ 0 ≤ k.2.2.1 ∧ k.2.2.1 ≤ k.2.1 ∧ 0 ≤ k.2.2.2 ∧ k.2.2.2 ≤ k.2.2.1
instance (n : Nat) (k : Kid) : Decidable (kidOK n k) := by unfold kidOK; infer_instance

structure Nd where
  h : Int
  text : ByteArray
  kids : List Kid

def formedP (x : Nd) : Prop := (x.h = 0 ∧ 1 ≤ x.text.size ∧ x.text.size ≤ 16 ∧ x.kids.length = 0) ∨ (1 ≤ x.h ∧ x.h ≤ 16 ∧ x.text.size = 0 ∧ 2 ≤ x.kids.length ∧ x.kids.length ≤ 4 ∧ ∀ k ∈ x.kids, kidOK (x.h - 1).toNat k)
instance (x : Nd) : Decidable (formedP x) := by unfold formedP; infer_instance

/-- the measure of a string -/
def ofT (s : ByteArray) : Trip := ((s.size : Int), ((cnt isB s : Nat) : Int), ((cnt isF s : Nat) : Int))
def sumN (x : Nd) : Trip := if x.h = 0 then ofT x.text else sumM (x.kids.map (·.2))
def checkN (x : Nd) : Int := if ¬ formedP x then 23 else if 65536 < (sumN x).1 then 5 else 0

theorem bnd_pos : ∀ n, n ≤ 16 → 8 ≤ (bnd n).1 ∧ (bnd n).1 ≤ 524288 ∧ 16 ≤ (bnd n).2 ∧ (bnd n).2 ≤ 65536 := by decide +kernel
/-! ### Handles -/
theorem and_mask (h : Int) (h0 : 0 ≤ h) (h1 : h ≤ 18446744073709551615) : bits .and .u64 h 65535 = h % 65536 := by
  obtain ⟨k, rfl⟩ := Int.eq_ofNat_of_zero_le h0
  have := u64_and_nat k 65535 (by omega) (by omega)
  rw [show ((65535 : Int)) = ((65535 : Nat) : Int) from rfl, this, show k &&& 65535 = k % 65536 from Nat.and_two_pow_sub_one_eq_mod k 16]
  rfl

set_option maxRecDepth 100000 in
set_option maxHeartbeats 400000 in
theorem parts_any (h : Int) (w : World) (h0 : 0 ≤ h) (h1 : h ≤ 18446744073709551615) :
    Calls Try.prog 67 #[.int .u64 h] w fun e w' => e = .returned (.tuple #[.int .i64 (h % 65536), .int .u64 (h / 65536)]) ∧ w = w' := by
  have hm := and_mask h h0 h1
  have HM := Lib.hid hm
  have hw : wrap64 (h % 65536) = h % 65536 := IntWalk.wrap64_in _ (by omega)
  have HW := Lib.hid hw
  clear hm hw
  go_enter Try.func67, Try.ntmps67
  go_wp2
  rw [HM.out, HW.out]
  go_ret2
  exact ⟨rfl, rfl⟩

set_option maxRecDepth 100000 in
set_option maxHeartbeats 400000 in
theorem hCheck_any (h : Int) (w : World) (h0 : 0 ≤ h) (h1 : h ≤ 18446744073709551615) :
    Calls Try.prog 34 #[.int .u64 h] w fun e w' => e = .returned (.int .i64 (hErr h)) ∧ w = w' := by
  by_cases c1 : 16384 ≤ h % 65536
  · have e : hErr h = 2 := if_neg (by unfold hOK; omega)
    rw [e]
    go_enter Try.func34, Try.ntmps34
    go_wp2_with fail
    refine (parts_any _ _ h0 h1).mono ?_; rintro e w1 ⟨rfl, rfl⟩
    go_wp2_with fail
    go_ret
    exact ⟨rfl, rfl⟩
  · by_cases c2 : h / 65536 < 1
    · have e : hErr h = 2 := if_neg (by unfold hOK; omega)
      rw [e]
      go_enter Try.func34, Try.ntmps34
      go_wp2_with fail
      refine (parts_any _ _ h0 h1).mono ?_; rintro e w1 ⟨rfl, rfl⟩
      go_wp2_with fail
      go_ret
      exact ⟨rfl, rfl⟩
    · by_cases c3 : 4294967295 < h / 65536
      · have e : hErr h = 2 := if_neg (by unfold hOK; omega)
        rw [e]
        go_enter Try.func34, Try.ntmps34
        go_wp2_with fail
        refine (parts_any _ _ h0 h1).mono ?_; rintro e w1 ⟨rfl, rfl⟩
        go_wp2_with fail
        go_ret
        exact ⟨rfl, rfl⟩
      · have e : hErr h = 0 := if_pos (by unfold hOK; omega)
        rw [e]
        go_enter Try.func34, Try.ntmps34
        go_wp2_with fail
        refine (parts_any _ _ h0 h1).mono ?_; rintro e w1 ⟨rfl, rfl⟩
        go_wp2_with fail
        go_ret
        exact ⟨rfl, rfl⟩

set_option maxRecDepth 100000 in
set_option maxHeartbeats 400000 in
theorem refHCheck_any (h : Int) (w : World) (h0 : 0 ≤ h) (h1 : h ≤ 18446744073709551615) :
    Calls Try.prog 74 #[.int .u64 h] w fun e w' => e = .returned (.int .i64 (hErr h)) ∧ w = w' := by
  by_cases c1 : 16384 ≤ h % 65536
  · have e : hErr h = 2 := if_neg (by unfold hOK; omega)
    rw [e]
    go_enter Try.func74, Try.ntmps74
    go_wp2_with fail
    go_ret
    exact ⟨rfl, rfl⟩
  · by_cases c2 : h / 65536 < 1
    · have e : hErr h = 2 := if_neg (by unfold hOK; omega)
      rw [e]
      go_enter Try.func74, Try.ntmps74
      go_wp2_with fail
      go_ret
      exact ⟨rfl, rfl⟩
    · by_cases c3 : 4294967295 < h / 65536
      · have e : hErr h = 2 := if_neg (by unfold hOK; omega)
        rw [e]
        go_enter Try.func74, Try.ntmps74
        go_wp2_with fail
        go_ret
        exact ⟨rfl, rfl⟩
      · have e : hErr h = 0 := if_pos (by unfold hOK; omega)
        rw [e]
        go_enter Try.func74, Try.ntmps74
        go_wp2_with fail
        go_ret
        exact ⟨rfl, rfl⟩

set_option maxRecDepth 100000 in
set_option maxHeartbeats 400000 in
theorem bounds_any (n : Nat) (w : World) (hn : n ≤ 15) :
    Calls Try.prog 70 #[.int .i64 n] w fun e w' => e = .returned (.tuple #[.int .i64 (bnd n).1, .int .i64 (bnd n).2]) ∧ w = w' := by
  go_enter Try.func70, Try.ntmps70
  go_wp2_with fail
  go_loop [2, 3, 5] (fun a b i => ∃ k : Nat, k ≤ n ∧ i = .int .i64 k ∧ a = .int .i64 (bnd k).1 ∧ b = .int .i64 (bnd k).2) (fun _ _ i => n - (intOf i).toNat)
  case atStart => exact ⟨0, Nat.zero_le _, rfl, rfl, rfl⟩
  case round =>
    obtain ⟨k, hk, rfl, rfl, rfl⟩ := hrel
    obtain ⟨b1, b2, b3, b4⟩ := bnd_pos k (by omega)
    by_cases hlt : k < n
    · go_wp2_with fail
      go_round
      case rel => exact ⟨k + 1, by omega, by go_num, rfl, rfl⟩
      case measure => simp [intOf]; omega
    · obtain rfl : k = n := by omega
      go_wp2_with fail
      go_ret2
      exact ⟨rfl, rfl⟩

end Go.Proofs.Ytbodacjhhkjdfaa
