/- Diff: the program's announced, length, Decode, Valid: their walks. -/
import Derived.Test.YtdfkbahlngijcaaDoorSw
namespace Go.Proofs.YtdfkbahlngijcaaDoor
open Go.RowKit
set_option linter.unusedVariables false

def annN (c : UInt8) : Nat := if 244 < c.toNat then 0 else if 240 ≤ c.toNat then 4 else if 224 ≤ c.toNat then 3 else if 194 ≤ c.toNat then 2 else if c.toNat < 128 then 1 else 0
set_option maxRecDepth 100000 in
set_option maxHeartbeats 2000000 in
theorem announced_any (c : UInt8) (w : World) : Calls Tryd.prog 128 #[.int .u8 c.toNat] w fun e w' => e = .returned (.int .i64 (annN c)) ∧ w = w' := by
  obtain ⟨n, hn⟩ : ∃ n, n = annN c := ⟨_, rfl⟩
  have HN := Lib.hid hn
  unfold annN at hn
  generalize c.toNat = z at *
  rw [← HN.out]
  by_cases h1 : 244 < z
  · rw [if_pos h1] at hn
    subst hn
    have g1 : (244 : Int) < (z : Int) := by omega
    clear h1
    go_enter Tryd.func128, Tryd.ntmps128
    go_wp2_with fail
    go_ret
    exact ⟨rfl, rfl⟩
  · rw [if_neg h1] at hn
    have g1 : ¬ ((244 : Int) < (z : Int)) := by omega
    by_cases h2 : 240 ≤ z
    · rw [if_pos h2] at hn
      subst hn
      have g2 : (240 : Int) ≤ (z : Int) := by omega
      clear h1 h2
      go_enter Tryd.func128, Tryd.ntmps128
      go_wp2_with fail
      go_ret
      exact ⟨rfl, rfl⟩
    · rw [if_neg h2] at hn
      have g2 : ¬ ((240 : Int) ≤ (z : Int)) := by omega
      by_cases h3 : 224 ≤ z
      · rw [if_pos h3] at hn
        subst hn
        have g3 : (224 : Int) ≤ (z : Int) := by omega
        clear h1 h2 h3
        go_enter Tryd.func128, Tryd.ntmps128
        go_wp2_with fail
        go_ret
        exact ⟨rfl, rfl⟩
      · rw [if_neg h3] at hn
        have g3 : ¬ ((224 : Int) ≤ (z : Int)) := by omega
        by_cases h4 : 194 ≤ z
        · rw [if_pos h4] at hn
          subst hn
          have g4 : (194 : Int) ≤ (z : Int) := by omega
          clear h1 h2 h3 h4
          go_enter Tryd.func128, Tryd.ntmps128
          go_wp2_with fail
          go_ret
          exact ⟨rfl, rfl⟩
        · rw [if_neg h4] at hn
          have g4 : ¬ ((194 : Int) ≤ (z : Int)) := by omega
          by_cases h5 : z < 128
          · rw [if_pos h5] at hn
            subst hn
            have g5 : (z : Int) < (128 : Int) := by omega
            clear h1 h2 h3 h4 h5
            go_enter Tryd.func128, Tryd.ntmps128
            go_wp2_with fail
            go_ret
            exact ⟨rfl, rfl⟩
          · rw [if_neg h5] at hn
            subst hn
            have g5 : ¬ ((z : Int) < (128 : Int)) := by omega
            clear h1 h2 h3 h4 h5
            go_enter Tryd.func128, Tryd.ntmps128
            go_wp2_with fail
            go_ret
            exact ⟨rfl, rfl⟩
def lenR (r : Int) : Int := if r < 0 ∨ 1114111 < r ∨ (55296 ≤ r ∧ r ≤ 57343) then 0 else if r < 128 then 1 else if r < 2048 then 2 else if r < 65536 then 3 else 4
set_option maxRecDepth 100000 in
set_option maxHeartbeats 2000000 in
theorem length_any (r : Int) (w : World) : Calls Tryd.prog 130 #[.int .i64 r] w fun e w' => e = .returned (.int .i64 (lenR r)) ∧ w = w' := by
  obtain ⟨n, hn⟩ : ∃ n, n = lenR r := ⟨_, rfl⟩
  have HN := Lib.hid hn
  unfold lenR at hn
  rw [← HN.out]
  by_cases h1 : r < 0 ∨ 1114111 < r ∨ (55296 ≤ r ∧ r ≤ 57343)
  · rw [if_pos h1] at hn
    subst hn
    by_cases g1 : r < 0
    · clear h1
      go_enter Tryd.func130, Tryd.ntmps130
      go_wp2_with fail
      go_ret
      exact ⟨rfl, rfl⟩
    · by_cases g2 : 1114111 < r
      · clear h1
        go_enter Tryd.func130, Tryd.ntmps130
        go_wp2_with fail
        go_ret
        exact ⟨rfl, rfl⟩
      · have g3 : 55296 ≤ r := by omega
        have g4 : r ≤ 57343 := by omega
        clear h1
        go_enter Tryd.func130, Tryd.ntmps130
        go_wp2_with fail
        go_ret
        exact ⟨rfl, rfl⟩
  · rw [if_neg h1] at hn
    have g1 : ¬ (r < 0) := by omega
    have g2 : ¬ (1114111 < r) := by omega
    have HG : (¬ (55296 ≤ r)) ∨ (55296 ≤ r ∧ ¬ (r ≤ 57343)) := by omega
    by_cases h2 : r < 128
    · rw [if_pos h2] at hn
      subst hn
      have g3 : ¬ (55296 ≤ r) := by omega
      clear h1 HG
      go_enter Tryd.func130, Tryd.ntmps130
      go_wp2_with fail
      go_ret
      exact ⟨rfl, rfl⟩
    · rw [if_neg h2] at hn
      by_cases h3 : r < 2048
      · rw [if_pos h3] at hn
        subst hn
        have g3 : ¬ (55296 ≤ r) := by omega
        clear h1 HG
        go_enter Tryd.func130, Tryd.ntmps130
        go_wp2_with fail
        go_ret
        exact ⟨rfl, rfl⟩
      · rw [if_neg h3] at hn
        by_cases h4 : r < 65536
        · rw [if_pos h4] at hn
          subst hn
          rcases HG with g3 | ⟨g3, g4⟩
          · clear h1
            go_enter Tryd.func130, Tryd.ntmps130
            go_wp2_with fail
            go_ret
            exact ⟨rfl, rfl⟩
          · clear h1
            go_enter Tryd.func130, Tryd.ntmps130
            go_wp2_with fail
            go_ret
            exact ⟨rfl, rfl⟩
        · rw [if_neg h4] at hn
          subst hn
          have g3 : 55296 ≤ r := by omega
          have g4 : ¬ (r ≤ 57343) := by omega
          clear h1 HG
          go_enter Tryd.func130, Tryd.ntmps130
          go_wp2_with fail
          go_ret
          exact ⟨rfl, rfl⟩
end Go.Proofs.YtdfkbahlngijcaaDoor
