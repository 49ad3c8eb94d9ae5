/- The freelist: mod, has, handle.Next. -/
import Derived.Test.YtpcpjmgkdbgopaaDoorFs
namespace Go.Proofs.YtpcpjmgkdbgopaaDoor
open Go.RowKit

theorem mod_plain (n m : Int) : (n.tmod m + m) % m = n % m := by
  rw [Int.add_emod_right]
  have := Int.tmod_def n m
  rw [this, show n - m * n.tdiv m = n + m * (-(n.tdiv m)) by rw [Int.mul_neg]; omega, Int.add_mul_emod_self_left]

set_option maxRecDepth 100000 in
set_option maxHeartbeats 2000000 in
theorem mod_any (n m : Int) (w : World) (hm : 0 < m) (hm2 : m ≤ 4611686018427387904) :
    Calls Tryd.prog 11 #[.int .i64 n, .int .i64 m] w fun e w' => e = .returned (.int .i64 (n % m)) ∧ w = w' := by
  have HP := Lib.hid (mod_plain n m)
  have k1 := Int.tmod_lt_of_pos n hm
  have k2 : -m < n.tmod m := by
    have := Int.lt_tmod_of_pos n hm
    omega
  have k3 : m ≠ 0 := by omega
  go_enter Tryd.func11, Tryd.ntmps11
  go_wp2_with fail
  go_ret
  exact ⟨congrArg (fun i => Ending.returned (Value.int .i64 i)) HP.out, rfl⟩

theorem next_plain (s g : Nat) (h : mkOK s g) (h2 : g < 4294967295) : mkOK s (g + 1) := by unfold mkOK at *; omega
set_option maxRecDepth 100000 in
set_option maxHeartbeats 2000000 in
theorem next_ok (s g : Nat) (w : World) (h : mkOK s g) (h2 : g < 4294967295) :
    Calls Tryd.prog 31 #[.int .u64 (hMk s g)] w fun e w' => e = .returned (.tuple #[.int .u64 (hMk s (g + 1)), .int .i64 0]) ∧ w = w' := by
  have hmk := make_ok s (g + 1) w (next_plain s g h h2)
  rw [show ((g + 1 : Nat) : Int) = (g : Int) + 1 by omega] at hmk
  have HN := Lib.hid hmk
  clear hmk
  have HC := Lib.hid (hCheck_ok (hMk s g) w (hMk_le h).1 (hMk_le h).2 (hMk_ok h))
  have HM := Lib.hid (hMk_mod h)
  have HD := Lib.hid (hMk_div h)
  have hl := hMk_le h
  have HP := Lib.hid (parts_any (hMk s g) w hl.1 hl.2)
  have hw : IntKind.u64.wrap ((g : Int) + 1) = ((g + 1 : Nat) : Int) := by rw [IntWalk.u64_in _ (by omega)]; omega
  have HW := Lib.hid hw
  clear hw
  go_enter Tryd.func31, Tryd.ntmps31
  go_wp2_with fail
  refine HC.out.mono ?_; rintro e w1 ⟨rfl, rfl⟩
  go_wp2_with fail
  refine HP.out.mono ?_; rintro e w1 ⟨rfl, rfl⟩
  rw [HM.out, HD.out]
  go_wp2_with fail
  refine HN.out.mono ?_; rintro e w1 ⟨rfl, rfl⟩
  go_wp2_with fail
  go_ret2
  exact ⟨rfl, rfl⟩

/-- the first n handles hold h -/
def HasTo (n : Nat) (f : Nat → Int) (h : Int) : Prop := ∃ i, i < n ∧ f i = h
instance (n : Nat) (f : Nat → Int) (h : Int) : Decidable (HasTo n f h) := Nat.decidableExistsLT n

set_option maxRecDepth 100000 in
set_option maxHeartbeats 2000000 in
theorem has_any (w : World) (v : Value) (n : Nat) (f : Nat → Int) (h : Int) (hs : Sl w v n (fun i => .int .u64 (f i))) (hn : n ≤ 9223372036854775807) :
    Calls Tryd.prog 30 #[v, .int .u64 h] w fun e w' => e = .returned (.bool (decide (HasTo n f h))) ∧ w = w' := by
  obtain ⟨ao, c, rfl, hc⟩ := hs
  have HC := Lib.hid hc
  clear hc
  go_enter Tryd.func30, Tryd.ntmps30
  go_wp2_with fail
  go_loop [5] (fun i => ∃ k : Nat, k ≤ n ∧ i = .int .i64 k ∧ ¬ HasTo k f h) (fun i => n - (intOf i).toNat)
  case atStart => exact ⟨0, Nat.zero_le _, rfl, fun ⟨i, hi, _⟩ => absurd hi (Nat.not_lt_zero _)⟩
  case round =>
    obtain ⟨k, hk, rfl, hno⟩ := hrel
    have HNO := Lib.hid hno
    clear hno
    by_cases hlt : k < n
    · obtain ⟨b, o, rfl, hcell⟩ := HC.out (by omega)
      have q := hcell k hlt
      have hk1 : (k : Int) < (n : Int) := by omega
      clear hcell
      by_cases he : f k = h
      · have e : decide (HasTo n f h) = true := decide_eq_true ⟨k, hlt, he⟩
        have HE := Lib.hid e
        rw [he] at q
        clear e he
        go_wp2_with fail
        go_ret
        exact ⟨congrArg (fun b => Ending.returned (.bool b)) HE.out.symm, rfl⟩
      · have hne : (f k == h) = false := by simpa using he
        have hno2 : ¬ HasTo (k + 1) f h := fun ⟨i, hi, e⟩ => by
          by_cases e2 : i = k
          · rw [e2] at e; exact he e
          · exact HNO.out ⟨i, by omega, e⟩
        have HNO2 := Lib.hid hno2
        clear hno2 he
        go_wp2_with fail
        go_round
        case rel => exact ⟨k + 1, by omega, by go_num, HNO2.out⟩
        case measure => simp [intOf]; omega
    · obtain rfl : k = n := by omega
      have e : decide (HasTo k f h) = false := decide_eq_false HNO.out
      have HE := Lib.hid e
      clear e
      go_wp2_with fail
      go_ret
      exact ⟨congrArg (fun b => Ending.returned (.bool b)) HE.out.symm, rfl⟩
end Go.Proofs.YtpcpjmgkdbgopaaDoor
