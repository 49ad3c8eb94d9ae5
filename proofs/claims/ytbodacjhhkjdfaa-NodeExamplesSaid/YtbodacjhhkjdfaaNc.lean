/- The contracts of the reference's kid and formed. -/
import Derived.Test.YtbodacjhhkjdfaaNb
namespace Go.Proofs.Ytbodacjhhkjdfaa
open Go.RowKit

theorem refHCheck_ok (h : Int) (w : World) (h0 : 0 ≤ h) (h1 : h ≤ 18446744073709551615) (hk : hOK h) :
    Calls Try.prog 74 #[.int .u64 h] w fun e w' => e = .returned (.int .i64 0) ∧ w = w' := by
  have := refHCheck_any h w h0 h1
  rwa [show hErr h = 0 from if_pos hk] at this
theorem refHCheck_no (h : Int) (w : World) (h0 : 0 ≤ h) (h1 : h ≤ 18446744073709551615) (hk : ¬ hOK h) :
    Calls Try.prog 74 #[.int .u64 h] w fun e w' => e = .returned (.int .i64 2) ∧ w = w' := by
  have := refHCheck_any h w h0 h1
  rwa [show hErr h = 2 from if_neg hk] at this

set_option maxRecDepth 100000 in
set_option maxHeartbeats 2000000 in
theorem refKid_any (m : Nat) (x : Kid) (w : World) (hm : m ≤ 15) (u0 : 0 ≤ x.1) (u1 : x.1 ≤ 18446744073709551615) :
    Calls Try.prog 71 #[.int .i64 ((m + 1 : Nat) : Int), aggK x] w fun e w' => e = .returned (.bool (decide (kidOK m x))) ∧ Below w.heap.size w w' := by
  unfold aggK
  go_enter Try.func71, Try.ntmps71
  go_wp2_with fail
  go_loop [5, 6, 7] (fun a b i => ∃ k : Nat, k ≤ m ∧ i = .int .i64 ((k + 1 : Nat) : Int) ∧ a = .int .i64 (bnd k).1 ∧ b = .int .i64 (bnd k).2) (fun _ _ i => m + 1 - (intOf i).toNat)
  case atStart => exact ⟨0, Nat.zero_le _, rfl, rfl, rfl⟩
  case round =>
    obtain ⟨k, hk, rfl, rfl, rfl⟩ := hrel
    obtain ⟨b1, b2, b3, b4⟩ := bnd_pos k (by omega)
    by_cases hlt : k < m
    · go_wp2_with fail
      go_round
      case rel => exact ⟨k + 1, by omega, by go_num, rfl, rfl⟩
      case measure => simp [intOf]; omega
    · obtain rfl : m = k := by omega
      clear hlt b1 b2 b3 b4
      by_cases t1 : hOK x.1
      · by_cases t2 : ¬ (bnd m).1 ≤ x.2.1
        · have e : decide (kidOK m x) = false := decide_eq_false fun h => by unfold kidOK at h; omega
          have HE := Lib.hid e
          clear e
          go_wp2_with fail
          refine (refHCheck_ok _ _ u0 u1 t1).mono ?_; rintro e w1 ⟨rfl, rfl⟩
          go_wp2_with fail
          go_ret
          exact ⟨congrArg (fun b => Ending.returned (.bool b)) HE.out.symm, by go_grown⟩
        by_cases t3 : ¬ x.2.1 ≤ (bnd m).2
        · have e : decide (kidOK m x) = false := decide_eq_false fun h => by unfold kidOK at h; omega
          have HE := Lib.hid e
          clear e
          go_wp2_with fail
          refine (refHCheck_ok _ _ u0 u1 t1).mono ?_; rintro e w1 ⟨rfl, rfl⟩
          go_wp2_with fail
          go_ret
          exact ⟨congrArg (fun b => Ending.returned (.bool b)) HE.out.symm, by go_grown⟩
        by_cases t4 : ¬ 0 ≤ x.2.2.1
        · have e : decide (kidOK m x) = false := decide_eq_false fun h => by unfold kidOK at h; omega
          have HE := Lib.hid e
          clear e
          go_wp2_with fail
          refine (refHCheck_ok _ _ u0 u1 t1).mono ?_; rintro e w1 ⟨rfl, rfl⟩
          go_wp2_with fail
          go_ret
          exact ⟨congrArg (fun b => Ending.returned (.bool b)) HE.out.symm, by go_grown⟩
        by_cases t5 : ¬ x.2.2.1 ≤ x.2.1
        · have e : decide (kidOK m x) = false := decide_eq_false fun h => by unfold kidOK at h; omega
          have HE := Lib.hid e
          clear e
          go_wp2_with fail
          refine (refHCheck_ok _ _ u0 u1 t1).mono ?_; rintro e w1 ⟨rfl, rfl⟩
          go_wp2_with fail
          go_ret
          exact ⟨congrArg (fun b => Ending.returned (.bool b)) HE.out.symm, by go_grown⟩
        by_cases t6 : ¬ 0 ≤ x.2.2.2
        · have e : decide (kidOK m x) = false := decide_eq_false fun h => by unfold kidOK at h; omega
          have HE := Lib.hid e
          clear e
          go_wp2_with fail
          refine (refHCheck_ok _ _ u0 u1 t1).mono ?_; rintro e w1 ⟨rfl, rfl⟩
          go_wp2_with fail
          go_ret
          exact ⟨congrArg (fun b => Ending.returned (.bool b)) HE.out.symm, by go_grown⟩
        have e : decide (kidOK m x) = decide (x.2.2.2 ≤ x.2.2.1) := decide_eq_decide.2 ⟨fun h => h.2.2.2.2.2.2, fun t7 => ⟨t1, by omega, by omega, by omega, by omega, by omega, t7⟩⟩
        replace t2 := Decidable.of_not_not t2
        replace t3 := Decidable.of_not_not t3
        replace t4 := Decidable.of_not_not t4
        replace t5 := Decidable.of_not_not t5
        replace t6 := Decidable.of_not_not t6
        have HE := Lib.hid e
        clear e
        go_wp2_with fail
        refine (refHCheck_ok _ _ u0 u1 t1).mono ?_; rintro e w1 ⟨rfl, rfl⟩
        go_wp2_with fail
        go_ret
        exact ⟨congrArg (fun b => Ending.returned (.bool b)) HE.out.symm, by go_grown⟩
      · have e : decide (kidOK m x) = false := decide_eq_false fun h => t1 h.1
        have HE := Lib.hid e
        clear e
        go_wp2_with fail
        refine (refHCheck_no _ _ u0 u1 t1).mono ?_; rintro e w1 ⟨rfl, rfl⟩
        go_wp2_with fail
        go_ret
        exact ⟨congrArg (fun b => Ending.returned (.bool b)) HE.out.symm, by go_grown⟩
end Go.Proofs.Ytbodacjhhkjdfaa
