/- The contracts of the handles (package handle and its reference), as far as the freelist wants them. -/
import Derived.Test.YtpcpjmgkdbgopaaDoorRegU
import Derived.Test.YtpcpjmgkdbgopaaDoorRow
import Derived.Laws.BitsAllLaws
namespace Go.Proofs.YtpcpjmgkdbgopaaDoor
open Go.RowKit

def hOK (h : Int) : Prop := h % 65536 < 16384 ∧ 1 ≤ h / 65536 ∧ h / 65536 ≤ 4294967295
instance (h : Int) : Decidable (hOK h) := by unfold hOK; infer_instance
def hErr (h : Int) : Int := if hOK h then 0 else 2
/-! ### Handles -/
theorem and_mask (h : Int) (h0 : 0 ≤ h) (h1 : h ≤ 18446744073709551615) : bits .and .u64 h 65535 = h % 65536 := by
  obtain ⟨k, rfl⟩ := Int.eq_ofNat_of_zero_le h0
  have := u64_and_nat k 65535 (by omega) (by omega)
  rw [show ((65535 : Int)) = ((65535 : Nat) : Int) from rfl, this, show k &&& 65535 = k % 65536 from Nat.and_two_pow_sub_one_eq_mod k 16]
  rfl

set_option maxRecDepth 100000 in
set_option maxHeartbeats 400000 in
theorem parts_any (h : Int) (w : World) (h0 : 0 ≤ h) (h1 : h ≤ 18446744073709551615) :
    Calls Tryd.prog 44 #[.int .u64 h] w fun e w' => e = .returned (.tuple #[.int .i64 (h % 65536), .int .u64 (h / 65536)]) ∧ w = w' := by
  have hm := and_mask h h0 h1
  have HM := Lib.hid hm
  have hw : wrap64 (h % 65536) = h % 65536 := IntWalk.wrap64_in _ (by omega)
  have HW := Lib.hid hw
  clear hm hw
  go_enter Tryd.func44, Tryd.ntmps44
  go_wp2
  rw [HM.out, HW.out]
  go_ret2
  exact ⟨rfl, rfl⟩

set_option maxRecDepth 100000 in
set_option maxHeartbeats 400000 in
theorem hCheck_any (h : Int) (w : World) (h0 : 0 ≤ h) (h1 : h ≤ 18446744073709551615) :
    Calls Tryd.prog 43 #[.int .u64 h] w fun e w' => e = .returned (.int .i64 (hErr h)) ∧ w = w' := by
  by_cases c1 : 16384 ≤ h % 65536
  · have e : hErr h = 2 := if_neg (by unfold hOK; omega)
    rw [e]
    go_enter Tryd.func43, Tryd.ntmps43
    go_wp2_with fail
    refine (parts_any _ _ h0 h1).mono ?_; rintro e w1 ⟨rfl, rfl⟩
    go_wp2_with fail
    go_ret
    exact ⟨rfl, rfl⟩
  · by_cases c2 : h / 65536 < 1
    · have e : hErr h = 2 := if_neg (by unfold hOK; omega)
      rw [e]
      go_enter Tryd.func43, Tryd.ntmps43
      go_wp2_with fail
      refine (parts_any _ _ h0 h1).mono ?_; rintro e w1 ⟨rfl, rfl⟩
      go_wp2_with fail
      go_ret
      exact ⟨rfl, rfl⟩
    · by_cases c3 : 4294967295 < h / 65536
      · have e : hErr h = 2 := if_neg (by unfold hOK; omega)
        rw [e]
        go_enter Tryd.func43, Tryd.ntmps43
        go_wp2_with fail
        refine (parts_any _ _ h0 h1).mono ?_; rintro e w1 ⟨rfl, rfl⟩
        go_wp2_with fail
        go_ret
        exact ⟨rfl, rfl⟩
      · have e : hErr h = 0 := if_pos (by unfold hOK; omega)
        rw [e]
        go_enter Tryd.func43, Tryd.ntmps43
        go_wp2_with fail
        refine (parts_any _ _ h0 h1).mono ?_; rintro e w1 ⟨rfl, rfl⟩
        go_wp2_with fail
        go_ret
        exact ⟨rfl, rfl⟩

set_option maxRecDepth 100000 in
set_option maxHeartbeats 400000 in
theorem refHCheck_any (h : Int) (w : World) (h0 : 0 ≤ h) (h1 : h ≤ 18446744073709551615) :
    Calls Tryd.prog 46 #[.int .u64 h] w fun e w' => e = .returned (.int .i64 (hErr h)) ∧ w = w' := by
  by_cases c1 : 16384 ≤ h % 65536
  · have e : hErr h = 2 := if_neg (by unfold hOK; omega)
    rw [e]
    go_enter Tryd.func46, Tryd.ntmps46
    go_wp2_with fail
    go_ret
    exact ⟨rfl, rfl⟩
  · by_cases c2 : h / 65536 < 1
    · have e : hErr h = 2 := if_neg (by unfold hOK; omega)
      rw [e]
      go_enter Tryd.func46, Tryd.ntmps46
      go_wp2_with fail
      go_ret
      exact ⟨rfl, rfl⟩
    · by_cases c3 : 4294967295 < h / 65536
      · have e : hErr h = 2 := if_neg (by unfold hOK; omega)
        rw [e]
        go_enter Tryd.func46, Tryd.ntmps46
        go_wp2_with fail
        go_ret
        exact ⟨rfl, rfl⟩
      · have e : hErr h = 0 := if_pos (by unfold hOK; omega)
        rw [e]
        go_enter Tryd.func46, Tryd.ntmps46
        go_wp2_with fail
        go_ret
        exact ⟨rfl, rfl⟩

/-- the handle of a slot and a generation -/
def hMk (s g : Nat) : Int := g * 65536 + s
def mkOK (s g : Nat) : Prop := s < 16384 ∧ 1 ≤ g ∧ g ≤ 4294967295
theorem hMk_mod {s g : Nat} (h : mkOK s g) : hMk s g % 65536 = s := by unfold hMk; unfold mkOK at h; omega
theorem hMk_div {s g : Nat} (h : mkOK s g) : hMk s g / 65536 = g := by unfold hMk; unfold mkOK at h; omega
theorem hMk_ok {s g : Nat} (h : mkOK s g) : hOK (hMk s g) := by
  have h1 := hMk_mod h
  have h2 := hMk_div h
  unfold hOK; rw [h1, h2]; unfold mkOK at h; omega
theorem hMk_le {s g : Nat} (h : mkOK s g) : 0 ≤ hMk s g ∧ hMk s g ≤ 18446744073709551615 := by unfold hMk; unfold mkOK at h; omega
theorem hMk_inj {s g s' g' : Nat} (h : mkOK s g) (h' : mkOK s' g') (e : hMk s g = hMk s' g') : s = s' ∧ g = g' := by
  unfold hMk at e; unfold mkOK at h h'; omega
theorem or_add (s g : Nat) (h : mkOK s g) : bits .or .u64 ((g : Int) * 65536) (s : Int) = hMk s g := by
  unfold mkOK at h
  have e1 : ((g : Int) * 65536) = ((g * 65536 : Nat) : Int) := by omega
  rw [e1, u64_or_nat _ _ (by omega) (by omega)]
  have e2 : g * 65536 ||| s = g * 65536 + s := by
    have := Nat.shiftLeft_add_eq_or_of_lt (show s < 2 ^ 16 by omega) g
    rw [Nat.shiftLeft_eq] at this
    exact this.symm
  rw [e2]; unfold hMk; omega

set_option maxRecDepth 100000 in
set_option maxHeartbeats 400000 in
theorem make_ok (s g : Nat) (w : World) (h : mkOK s g) :
    Calls Tryd.prog 32 #[.int .i64 s, .int .u64 g] w fun e w' => e = .returned (.tuple #[.int .u64 (hMk s g), .int .i64 0]) ∧ w = w' := by
  have ho := or_add s g h
  have HO := Lib.hid ho
  clear ho
  unfold mkOK at h
  obtain ⟨h1, h2, h3⟩ := h
  go_enter Tryd.func32, Tryd.ntmps32
  go_wp2_with fail
  rw [HO.out]
  go_ret2
  exact ⟨rfl, rfl⟩

set_option maxRecDepth 100000 in
set_option maxHeartbeats 400000 in
theorem refMake_ok (s g : Nat) (w : World) (h : mkOK s g) :
    Calls Tryd.prog 33 #[.int .i64 s, .int .u64 g] w fun e w' => e = .returned (.tuple #[.int .u64 (hMk s g), .int .i64 0]) ∧ w = w' := by
  unfold mkOK at h
  obtain ⟨h1, h2, h3⟩ := h
  go_enter Tryd.func33, Tryd.ntmps33
  go_wp2_with fail
  go_ret2
  exact ⟨rfl, rfl⟩

theorem hCheck_ok (h : Int) (w : World) (h0 : 0 ≤ h) (h1 : h ≤ 18446744073709551615) (hk : hOK h) :
    Calls Tryd.prog 43 #[.int .u64 h] w fun e w' => e = .returned (.int .i64 0) ∧ w = w' := by
  have := hCheck_any h w h0 h1
  rwa [show hErr h = 0 from if_pos hk] at this
theorem hCheck_no (h : Int) (w : World) (h0 : 0 ≤ h) (h1 : h ≤ 18446744073709551615) (hk : ¬ hOK h) :
    Calls Tryd.prog 43 #[.int .u64 h] w fun e w' => e = .returned (.int .i64 2) ∧ w = w' := by
  have := hCheck_any h w h0 h1
  rwa [show hErr h = 2 from if_neg hk] at this

theorem refHCheck_ok (h : Int) (w : World) (h0 : 0 ≤ h) (h1 : h ≤ 18446744073709551615) (hk : hOK h) :
    Calls Tryd.prog 46 #[.int .u64 h] w fun e w' => e = .returned (.int .i64 0) ∧ w = w' := by
  have := refHCheck_any h w h0 h1
  rwa [show hErr h = 0 from if_pos hk] at this
theorem refHCheck_no (h : Int) (w : World) (h0 : 0 ≤ h) (h1 : h ≤ 18446744073709551615) (hk : ¬ hOK h) :
    Calls Tryd.prog 46 #[.int .u64 h] w fun e w' => e = .returned (.int .i64 2) ∧ w = w' := by
  have := refHCheck_any h w h0 h1
  rwa [show hErr h = 2 from if_neg hk] at this


set_option maxRecDepth 100000 in
set_option maxHeartbeats 400000 in
theorem hSlot_ok (h : Int) (w : World) (h0 : 0 ≤ h) (h1 : h ≤ 18446744073709551615) (hk : hOK h) :
    Calls Tryd.prog 28 #[.int .u64 h] w fun e w' => e = .returned (.tuple #[.int .i64 (h % 65536), .int .i64 0]) ∧ w = w' := by
  go_enter Tryd.func28, Tryd.ntmps28
  go_wp2_with fail
  refine (hCheck_ok _ _ h0 h1 hk).mono ?_; rintro e w1 ⟨rfl, rfl⟩
  go_wp2_with fail
  refine (parts_any _ _ h0 h1).mono ?_; rintro e w1 ⟨rfl, rfl⟩
  go_wp2_with fail
  go_ret2
  exact ⟨rfl, rfl⟩

set_option maxRecDepth 100000 in
set_option maxHeartbeats 400000 in
theorem hSlot_no (h : Int) (w : World) (h0 : 0 ≤ h) (h1 : h ≤ 18446744073709551615) (hk : ¬ hOK h) :
    Calls Tryd.prog 28 #[.int .u64 h] w fun e w' => e = .returned (.tuple #[.int .i64 0, .int .i64 2]) ∧ w = w' := by
  go_enter Tryd.func28, Tryd.ntmps28
  go_wp2_with fail
  refine (hCheck_no _ _ h0 h1 hk).mono ?_; rintro e w1 ⟨rfl, rfl⟩
  go_wp2_with fail
  go_ret2
  exact ⟨rfl, rfl⟩


set_option maxRecDepth 100000 in
set_option maxHeartbeats 400000 in
theorem hGen_ok (h : Int) (w : World) (h0 : 0 ≤ h) (h1 : h ≤ 18446744073709551615) (hk : hOK h) :
    Calls Tryd.prog 29 #[.int .u64 h] w fun e w' => e = .returned (.tuple #[.int .u64 (h / 65536), .int .i64 0]) ∧ w = w' := by
  go_enter Tryd.func29, Tryd.ntmps29
  go_wp2_with fail
  refine (hCheck_ok _ _ h0 h1 hk).mono ?_; rintro e w1 ⟨rfl, rfl⟩
  go_wp2_with fail
  refine (parts_any _ _ h0 h1).mono ?_; rintro e w1 ⟨rfl, rfl⟩
  go_wp2_with fail
  go_ret2
  exact ⟨rfl, rfl⟩

set_option maxRecDepth 100000 in
set_option maxHeartbeats 400000 in
theorem hGen_no (h : Int) (w : World) (h0 : 0 ≤ h) (h1 : h ≤ 18446744073709551615) (hk : ¬ hOK h) :
    Calls Tryd.prog 29 #[.int .u64 h] w fun e w' => e = .returned (.tuple #[.int .u64 0, .int .i64 2]) ∧ w = w' := by
  go_enter Tryd.func29, Tryd.ntmps29
  go_wp2_with fail
  refine (hCheck_no _ _ h0 h1 hk).mono ?_; rintro e w1 ⟨rfl, rfl⟩
  go_wp2_with fail
  go_ret2
  exact ⟨rfl, rfl⟩


set_option maxRecDepth 100000 in
set_option maxHeartbeats 400000 in
theorem refSlot_ok (h : Int) (w : World) (h0 : 0 ≤ h) (h1 : h ≤ 18446744073709551615) (hk : hOK h) :
    Calls Tryd.prog 36 #[.int .u64 h] w fun e w' => e = .returned (.tuple #[.int .i64 (h % 65536), .int .i64 0]) ∧ w = w' := by
  go_enter Tryd.func36, Tryd.ntmps36
  go_wp2_with fail
  refine (refHCheck_ok _ _ h0 h1 hk).mono ?_; rintro e w1 ⟨rfl, rfl⟩
  go_wp2_with fail
  go_ret2
  exact ⟨rfl, rfl⟩

set_option maxRecDepth 100000 in
set_option maxHeartbeats 400000 in
theorem refSlot_no (h : Int) (w : World) (h0 : 0 ≤ h) (h1 : h ≤ 18446744073709551615) (hk : ¬ hOK h) :
    Calls Tryd.prog 36 #[.int .u64 h] w fun e w' => e = .returned (.tuple #[.int .i64 0, .int .i64 2]) ∧ w = w' := by
  go_enter Tryd.func36, Tryd.ntmps36
  go_wp2_with fail
  refine (refHCheck_no _ _ h0 h1 hk).mono ?_; rintro e w1 ⟨rfl, rfl⟩
  go_wp2_with fail
  go_ret2
  exact ⟨rfl, rfl⟩


set_option maxRecDepth 100000 in
set_option maxHeartbeats 400000 in
theorem refGen_ok (h : Int) (w : World) (h0 : 0 ≤ h) (h1 : h ≤ 18446744073709551615) (hk : hOK h) :
    Calls Tryd.prog 45 #[.int .u64 h] w fun e w' => e = .returned (.tuple #[.int .u64 (h / 65536), .int .i64 0]) ∧ w = w' := by
  go_enter Tryd.func45, Tryd.ntmps45
  go_wp2_with fail
  refine (refHCheck_ok _ _ h0 h1 hk).mono ?_; rintro e w1 ⟨rfl, rfl⟩
  go_wp2_with fail
  go_ret2
  exact ⟨rfl, rfl⟩

set_option maxRecDepth 100000 in
set_option maxHeartbeats 400000 in
theorem refGen_no (h : Int) (w : World) (h0 : 0 ≤ h) (h1 : h ≤ 18446744073709551615) (hk : ¬ hOK h) :
    Calls Tryd.prog 45 #[.int .u64 h] w fun e w' => e = .returned (.tuple #[.int .u64 0, .int .i64 2]) ∧ w = w' := by
  go_enter Tryd.func45, Tryd.ntmps45
  go_wp2_with fail
  refine (refHCheck_no _ _ h0 h1 hk).mono ?_; rintro e w1 ⟨rfl, rfl⟩
  go_wp2_with fail
  go_ret2
  exact ⟨rfl, rfl⟩

end Go.Proofs.YtpcpjmgkdbgopaaDoor
