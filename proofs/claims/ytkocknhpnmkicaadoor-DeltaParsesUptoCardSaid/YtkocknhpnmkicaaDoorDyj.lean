/- Deltas: the reference's half: its walk. -/
import Derived.Test.YtkocknhpnmkicaaDoorDz
namespace Go.Proofs.YtkocknhpnmkicaaDoor
open Go.RowKit
set_option linter.unusedVariables false

/-- half a byte, or 16 -/
def halfR (c : UInt8) : Nat := if 48 ≤ c.toNat ∧ c.toNat ≤ 57 then c.toNat - 48 else if 97 ≤ c.toNat ∧ c.toNat ≤ 102 then c.toNat - 87 else 16
theorem halfR_P : ∀ c : UInt8, halfP c = if halfR c < 16 then some (halfR c) else none := by
  intro c
  unfold halfP halfR
  simp only [UInt8.le_iff_toNat_le]
  have h1 : (48 : UInt8).toNat = 48 := rfl
  have h2 : (57 : UInt8).toNat = 57 := rfl
  have h3 : (97 : UInt8).toNat = 97 := rfl
  have h4 : (102 : UInt8).toNat = 102 := rfl
  rw [h1, h2, h3, h4]
  split
  · rw [if_pos (by omega)]
  · split
    · rw [if_pos (by omega)]
    · rfl
set_option maxRecDepth 100000 in
set_option maxHeartbeats 2000000 in
theorem half_any (c : UInt8) (w : World) : Calls Tryd.prog 63 #[.int .u8 c.toNat] w fun e w' => e = .returned (.int .u8 (halfR c)) ∧ w = w' := by
  have hb := u8lt c
  obtain ⟨n, hn⟩ : ∃ n, n = c.toNat := ⟨_, rfl⟩
  have HE := Lib.hid (show halfR c = if 48 ≤ n ∧ n ≤ 57 then n - 48 else if 97 ≤ n ∧ n ≤ 102 then n - 87 else 16 by rw [hn]; rfl)
  rw [← hn] at hb ⊢
  clear hn
  by_cases h1 : 48 ≤ n ∧ n ≤ 57
  · have HV := Lib.hid (show (halfR c : Int) = (n : Int) - 48 by rw [HE.out, if_pos h1]; omega)
    have hW : IntKind.u8.wrap ((n : Int) - 48) = (n : Int) - 48 := wrap8 _ (by omega) (by omega)
    have g1 : (48 : Int) ≤ (n : Int) := by omega
    have g2 : (n : Int) ≤ 57 := by omega
    clear h1
    go_enter Tryd.func63, Tryd.ntmps63
    go_wp2_with fail
    go_ret
    exact ⟨by rw [HV.out] <;> rfl, rfl⟩
  · by_cases h2 : 97 ≤ n ∧ n ≤ 102
    · have HV := Lib.hid (show (halfR c : Int) = (n : Int) - 97 + 10 by rw [HE.out, if_neg h1, if_pos h2]; omega)
      have hW : IntKind.u8.wrap ((n : Int) - 97) = (n : Int) - 97 := wrap8 _ (by omega) (by omega)
      have hW2 : IntKind.u8.wrap ((n : Int) - 97 + 10) = (n : Int) - 97 + 10 := wrap8 _ (by omega) (by omega)
      have g1 : (48 : Int) ≤ (n : Int) := by omega
      have g2 : ¬ ((n : Int) ≤ 57) := by omega
      have g3 : (97 : Int) ≤ (n : Int) := by omega
      have g4 : (n : Int) ≤ 102 := by omega
      clear h1 h2
      go_enter Tryd.func63, Tryd.ntmps63
      go_wp2_with fail
      go_ret
      exact ⟨by rw [HV.out] <;> rfl, rfl⟩
    · have HV := Lib.hid (show (halfR c : Int) = 16 by rw [HE.out, if_neg h1, if_neg h2]; rfl)
      by_cases g1 : (48 : Int) ≤ (n : Int)
      · have g2 : ¬ ((n : Int) ≤ 57) := by omega
        by_cases g3 : (97 : Int) ≤ (n : Int)
        · have g4 : ¬ ((n : Int) ≤ 102) := by omega
          clear h1 h2
          go_enter Tryd.func63, Tryd.ntmps63
          go_wp2_with fail
          go_ret
          exact ⟨by rw [HV.out] <;> rfl, rfl⟩
        · clear h1 h2
          go_enter Tryd.func63, Tryd.ntmps63
          go_wp2_with fail
          go_ret
          exact ⟨by rw [HV.out] <;> rfl, rfl⟩
      · have g3 : ¬ ((97 : Int) ≤ (n : Int)) := by omega
        clear h1 h2
        go_enter Tryd.func63, Tryd.ntmps63
        go_wp2_with fail
        go_ret
        exact ⟨by rw [HV.out] <;> rfl, rfl⟩

end Go.Proofs.YtkocknhpnmkicaaDoor
