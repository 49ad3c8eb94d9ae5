/- The contracts of the reference's Rune, RunesBefore, Line, LineOf. -/
import Derived.Test.YtalkafjccpijiaaMeasD
namespace Go.Proofs.Ytalkafjccpijiaa
open Go.RowKit

set_option maxRecDepth 100000 in
set_option maxHeartbeats 400000 in
theorem refRune_any (s : ByteArray) (n : Int) (w : World) (hs : s.size ≤ maxLen) (w1 : (Lit.int .i64 n).wf = true) :
    Calls Try.prog 15 #[.string s, .int .i64 n] w fun e w' => e = .returned (.tuple #[.int .i64 (runeR s n).1, .int .i64 (runeR s n).2]) ∧ w = w' := by
  have hb := wf64 w1
  clear w1
  have hs' : s.size ≤ 9223372036854775807 := hs
  by_cases h1 : n < 0
  · have hf : runeR s n = (0, 3) := by unfold runeR; rw [if_pos (Or.inl h1)]
    rw [hf]; clear hf
    go_enter Try.func15, Try.ntmps15
    go_wp2
    go_ret2
    exact ⟨rfl, rfl⟩
  · by_cases h2 : ((cnt isB s : Nat) : Int) < n
    · have hf : runeR s n = (0, 3) := by unfold runeR; rw [if_pos (Or.inr h2)]
      rw [hf]; clear hf
      go_enter Try.func15, Try.ntmps15
      go_wp2_with (go_at_call 31; refine (refCount_any _ _ hs).mono ?_; rintro e w' ⟨rfl, rfl⟩)
      go_ret2
      exact ⟨rfl, rfl⟩
    · have hf : runeR s n = (((nthPos isB s n.toNat : Nat) : Int), 0) := by unfold runeR; rw [if_neg (by omega)]
      rw [hf]; clear hf
      rcases nth_or isB s n.toNat with h3 | ⟨q, h3⟩
      · have hp := nthPos_end isB s n.toNat h3
        rw [hp]; clear hp
        have h4 : ((cnt isB s : Nat) : Int) ≤ n := by omega
        clear h3
        go_enter Try.func15, Try.ntmps15
        go_wp2_with (go_at_call 31; refine (refCount_any _ _ hs).mono ?_; rintro e w' ⟨rfl, rfl⟩)
        go_loop [1, 6] (fun m i => ∃ k : Nat, k ≤ s.size ∧ i = .int .i64 k ∧ m = .int .i64 (n - ((cntTo isB s k : Nat) : Int))) (fun _ i => s.size - (intOf i).toNat)
        case atStart => exact ⟨0, Nat.zero_le _, rfl, by rw [cntTo_zero]; simp⟩
        case round =>
          obtain ⟨k, hk, rfl, rfl⟩ := hrel
          have hl := cntTo_le isB s k
          by_cases hlt : k < s.size
          · rcases hp : isB s[k] with _ | _
            · have HC := Lib.hid (cntTo_no isB s k hlt hp)
              go_wp2_with (go_at_call 33; refine (cont_any _ _).mono ?_; rintro e w' ⟨rfl, rfl⟩)
              all_goals
                go_round
                case rel => exact ⟨k + 1, by omega, by go_num, by rw [HC.out]⟩
                case measure => simp [intOf]; omega
            · have HC := Lib.hid (cntTo_yes isB s k hlt hp)
              have h5 : ((cntTo isB s k : Nat) : Int) < (cnt isB s : Int) := by have := cntTo_lt_cnt isB s hlt hp; omega
              have h0 : (n - ((cntTo isB s k : Nat) : Int) == 0) = false := by simp; omega
              go_wp2_with (go_at_call 33; refine (cont_any _ _).mono ?_; rintro e w' ⟨rfl, rfl⟩)
              all_goals
                go_round
                case rel => exact ⟨k + 1, by omega, by go_num, by rw [HC.out]; go_num⟩
                case measure => simp [intOf]; omega
          · go_wp2
            go_ret2
            exact ⟨rfl, rfl⟩
      · have hp := h3.pos
        rw [hp]; clear hp
        obtain ⟨hq, hpq, hnq⟩ := h3
        have hnq' : ((cntTo isB s q : Nat) : Int) = n := by omega
        have HN := Lib.hid hnq'
        have HPQ := Lib.hid hpq
        clear hnq hnq' hpq
        go_enter Try.func15, Try.ntmps15
        go_wp2_with (go_at_call 31; refine (refCount_any _ _ hs).mono ?_; rintro e w' ⟨rfl, rfl⟩)
        go_loop [1, 6] (fun m i => ∃ k : Nat, k ≤ q ∧ i = .int .i64 k ∧ m = .int .i64 (n - ((cntTo isB s k : Nat) : Int))) (fun _ i => s.size - (intOf i).toNat)
        case atStart => exact ⟨0, Nat.zero_le _, rfl, by rw [cntTo_zero]; simp⟩
        case round =>
          obtain ⟨k, hk, rfl, rfl⟩ := hrel
          have hl := cntTo_le isB s k
          have hlt : k < s.size := by omega
          by_cases he : k = q
          · subst he
            have hp := HPQ.out
            have h0 : (n - ((cntTo isB s k : Nat) : Int) == 0) = true := by simp; have := HN.out; omega
            go_wp2_with (go_at_call 33; refine (cont_any _ _).mono ?_; rintro e w' ⟨rfl, rfl⟩)
            go_ret2
            exact ⟨rfl, rfl⟩
          · rcases hp : isB s[k] with _ | _
            · have HC := Lib.hid (cntTo_no isB s k hlt hp)
              go_wp2_with (go_at_call 33; refine (cont_any _ _).mono ?_; rintro e w' ⟨rfl, rfl⟩)
              all_goals
                go_round
                case rel => exact ⟨k + 1, by omega, by go_num, by rw [HC.out]⟩
                case measure => simp [intOf]; omega
            · have HC := Lib.hid (cntTo_yes isB s k hlt hp)
              have h5 : ((cntTo isB s k : Nat) : Int) < n := by have := cntTo_lt isB s (show k < q by omega) hlt hp; have := HN.out; omega
              have h0 : (n - ((cntTo isB s k : Nat) : Int) == 0) = false := by simp; omega
              go_wp2_with (go_at_call 33; refine (cont_any _ _).mono ?_; rintro e w' ⟨rfl, rfl⟩)
              all_goals
                go_round
                case rel => exact ⟨k + 1, by omega, by go_num, by rw [HC.out]; go_num⟩
                case measure => simp [intOf]; omega

theorem run_field_lines (a b c : Int) (w : World) : (Instr.field 23 (.agg #[.int .i64 a, .int .i64 b, .int .i64 c]) 2).run Try.prog w = .ok (.int .i64 c) w := by kernel_rfl

set_option maxHeartbeats 400000 in
theorem refRunesBefore_any (s : ByteArray) (n : Int) (w : World) (hs : s.size ≤ maxLen) (w1 : (Lit.int .i64 n).wf = true) :
    Calls Try.prog 17 #[.string s, .int .i64 n] w fun e w' => e = .returned (.tuple #[.int .i64 (befR isB s n).1, .int .i64 (befR isB s n).2]) ∧ w = w' := by
  by_cases h1 : n < 0
  · have hf : befR isB s n = (0, 3) := by unfold befR; rw [if_pos (Or.inl h1)]
    rw [hf]; clear hf
    go_enter Try.func17, Try.ntmps17
    go_wp2
    go_ret2
    exact ⟨rfl, rfl⟩
  · by_cases h2 : (s.size : Int) < n
    · have hf : befR isB s n = (0, 3) := by unfold befR; rw [if_pos (Or.inr h2)]
      rw [hf]; clear hf
      go_enter Try.func17, Try.ntmps17
      go_wp2
      go_ret2
      exact ⟨rfl, rfl⟩
    · obtain ⟨k, rfl⟩ := Int.eq_ofNat_of_zero_le (show 0 ≤ n by omega)
      have hf : befR isB s k = (((cntTo isB s k : Nat) : Int), 0) := by unfold befR; rw [if_neg (by omega)]; rfl
      rw [hf]; clear hf
      rw [← cnt_extract]
      have hk : k ≤ s.size := by omega
      have he : (s.extract 0 k).size ≤ maxLen := by simp; omega
      have HE := Lib.hid he
      clear he
      unfold maxLen at hs
      go_enter Try.func17, Try.ntmps17
      go_wp2_with (go_at_call 31; refine (refCount_any _ _ HE.out).mono ?_; rintro e w' ⟨rfl, rfl⟩)
      go_ret2
      exact ⟨rfl, rfl⟩

set_option maxHeartbeats 400000 in
theorem refLineOf_any (s : ByteArray) (n : Int) (w : World) (hs : s.size ≤ maxLen) (w1 : (Lit.int .i64 n).wf = true) :
    Calls Try.prog 21 #[.string s, .int .i64 n] w fun e w' => e = .returned (.tuple #[.int .i64 (befR isF s n).1, .int .i64 (befR isF s n).2]) ∧ Below w.heap.size w w' := by
  by_cases h1 : n < 0
  · have hf : befR isF s n = (0, 3) := by unfold befR; rw [if_pos (Or.inl h1)]
    rw [hf]; clear hf
    go_enter Try.func21, Try.ntmps21
    go_wp2
    go_ret2
    exact ⟨rfl, Below.refl _ _⟩
  · by_cases h2 : (s.size : Int) < n
    · have hf : befR isF s n = (0, 3) := by unfold befR; rw [if_pos (Or.inr h2)]
      rw [hf]; clear hf
      go_enter Try.func21, Try.ntmps21
      go_wp2
      go_ret2
      exact ⟨rfl, Below.refl _ _⟩
    · obtain ⟨k, rfl⟩ := Int.eq_ofNat_of_zero_le (show 0 ≤ n by omega)
      have hf : befR isF s k = (((cntTo isF s k : Nat) : Int), 0) := by unfold befR; rw [if_neg (by omega)]; rfl
      rw [hf]; clear hf
      rw [← cnt_extract]
      have hk : k ≤ s.size := by omega
      have he : (s.extract 0 k).size ≤ maxLen := by simp; omega
      have HE := Lib.hid he
      clear he
      unfold maxLen at hs
      have hfl := run_field_lines
      go_enter Try.func21, Try.ntmps21
      go_wp2_with (go_at_call 12; refine (refOf_any _ _ HE.out).mono ?_; rintro e w' ⟨rfl, hbel⟩)
      go_ret2
      exact ⟨rfl, hbel⟩

set_option maxHeartbeats 400000 in
theorem refLine_any (s : ByteArray) (n : Int) (w : World) (hs : s.size ≤ maxLen) (w1 : (Lit.int .i64 n).wf = true) :
    Calls Try.prog 19 #[.string s, .int .i64 n] w fun e w' => e = .returned (.tuple #[.int .i64 (lineR s n).1, .int .i64 (lineR s n).2]) ∧ Below w.heap.size w w' := by
  have hb := wf64 w1
  clear w1
  have hs' : s.size ≤ 9223372036854775807 := hs
  have hfl := run_field_lines
  by_cases h1 : n < 0
  · have hf : lineR s n = (0, 3) := by unfold lineR; rw [if_pos (Or.inl h1)]
    rw [hf]; clear hf
    go_enter Try.func19, Try.ntmps19
    go_wp2
    go_ret2
    exact ⟨rfl, Below.refl _ _⟩
  · by_cases h2 : ((cnt isF s : Nat) : Int) < n
    · have hf : lineR s n = (0, 3) := by unfold lineR; rw [if_pos (Or.inr h2)]
      rw [hf]; clear hf
      go_enter Try.func19, Try.ntmps19
      go_wp2_with (go_at_call 12; refine (refOf_any _ _ hs).mono ?_; rintro e w' ⟨rfl, hbel⟩)
      go_ret2
      exact ⟨rfl, hbel⟩
    · by_cases h0 : n = 0
      · subst h0
        have hf : lineR s 0 = (0, 0) := by unfold lineR; rw [if_neg (by omega), if_pos rfl]
        rw [hf]; clear hf
        go_enter Try.func19, Try.ntmps19
        go_wp2_with (go_at_call 12; refine (refOf_any _ _ hs).mono ?_; rintro e w' ⟨rfl, hbel⟩)
        refine wp_loop_rounds 1 ?_
        rw [rounds_succ]
        go_wp2
        go_ret2
        exact ⟨rfl, hbel⟩
      · rcases nth_or isF s (n - 1).toNat with h3 | ⟨q, h3⟩
        · exfalso; omega
        · have hf : lineR s n = ((q : Int) + 1, 0) := by
            unfold lineR; rw [if_neg (by omega), if_neg h0, h3.pos]
          rw [hf]; clear hf
          obtain ⟨hq, hpq, hnq⟩ := h3
          have hnq' : ((cntTo isF s q : Nat) : Int) + 1 = n := by omega
          have hnq2 : ((cntTo isF s (q + 1) : Nat) : Int) = n := by rw [cntTo_yes isF s q hq hpq]; omega
          have HN := Lib.hid hnq'
          have HN2 := Lib.hid hnq2
          clear hnq hnq' hnq2
          go_enter Try.func19, Try.ntmps19
          go_wp2_with (go_at_call 12; refine (refOf_any _ _ hs).mono ?_; rintro e w' ⟨rfl, hbel⟩)
          go_loop [1, 6] (fun m i => ∃ k : Nat, k ≤ q + 1 ∧ i = .int .i64 k ∧ m = .int .i64 (n - ((cntTo isF s k : Nat) : Int))) (fun _ i => s.size - (intOf i).toNat)
          case atStart => exact ⟨0, Nat.zero_le _, rfl, by rw [cntTo_zero]; simp⟩
          case round =>
            obtain ⟨k, hk, rfl, rfl⟩ := hrel
            have hl := cntTo_le isF s k
            by_cases he : k = q + 1
            · subst he
              have h5 : n - ((cntTo isF s (q + 1) : Nat) : Int) ≤ 0 := by have := HN2.out; omega
              go_wp2
              go_ret2
              exact ⟨rfl, hbel⟩
            · have hlt : k < s.size := by omega
              have h5 : ((cntTo isF s k : Nat) : Int) < n := by have := cntTo_mono isF s (show k ≤ q by omega); have := HN.out; omega
              rcases hp : isF s[k] with _ | _
              · have HC := Lib.hid (cntTo_no isF s k hlt hp)
                unfold isF at hp
                go_wp2
                all_goals
                  go_round
                  case rel => exact ⟨k + 1, by omega, by go_num, by rw [HC.out]⟩
                  case measure => simp [intOf]; omega
              · have HC := Lib.hid (cntTo_yes isF s k hlt hp)
                unfold isF at hp
                go_wp2
                all_goals
                  go_round
                  case rel => exact ⟨k + 1, by omega, by go_num, by rw [HC.out]; go_num⟩
                  case measure => simp [intOf]; omega

end Go.Proofs.Ytalkafjccpijiaa
