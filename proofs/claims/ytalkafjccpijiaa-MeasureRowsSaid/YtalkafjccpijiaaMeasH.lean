/- The walks of the laws MeasureInverse and MeasureRows. -/
import Derived.Test.YtalkafjccpijiaaMeasF
namespace Go.Proofs.Ytalkafjccpijiaa
open Go.RowKit

/-! ### The plain law -/
theorem between (p : UInt8 → Bool) (s : ByteArray) (a b : Nat) (h : cntTo p s b ≤ cntTo p s a) (i : Nat) (h1 : a ≤ i) (h2 : i < b) (hi : i < s.size) : p s[i] = false := by
  rcases hp : p s[i] with _ | _
  · rfl
  · have e := cntTo_yes p s i hi hp
    have m1 := cntTo_mono p s h1
    have m2 := cntTo_mono p s (show i + 1 ≤ b from h2)
    omega

theorem runeR_nth (s : ByteArray) (n q : Nat) (h : IsNth isB s n q) : runeR s n = ((q : Int), 0) := by
  have := h.lt
  unfold runeR
  rw [if_neg (by omega), show ((n : Int)).toNat = n from by omega, h.pos]
theorem befR_in (p : UInt8 → Bool) (s : ByteArray) (a : Nat) (h : a ≤ s.size) : befR p s a = (((cntTo p s a : Nat) : Int), 0) := by
  unfold befR
  rw [if_neg (by omega), show ((a : Int)).toNat = a from by omega]

theorem inv_facts (s : ByteArray) (a : Nat) (ha : a ≤ s.size) : ∃ b : Nat, runeR s ((cntTo isB s a : Nat) : Int) = ((b : Int), 0) ∧ a ≤ b ∧ b ≤ s.size ∧
    (∀ i, a ≤ i → i < b → ∀ h : i < s.size, isB s[i] = false) ∧ (b = s.size ∨ ∃ h : b < s.size, isB s[b] = true) := by
  rcases nth_or isB s (cntTo isB s a) with h | ⟨q, h⟩
  · refine ⟨s.size, ?_, ha, Nat.le_refl _, ?_, Or.inl rfl⟩
    · have := cntTo_cnt isB s a
      unfold runeR
      rw [if_neg (by omega), show (((cntTo isB s a : Nat) : Int)).toNat = cntTo isB s a from by omega, nthPos_end isB s _ h]
    · intro i h1 h2 h3
      exact between isB s a s.size (by rw [cntTo_end isB s s.size (by omega)]; exact h) i h1 h2 h3
  · refine ⟨q, runeR_nth s _ q h, ?_, by have := h.size; omega, ?_, ?_⟩
    · obtain ⟨h1, h2, h3⟩ := h
      rcases Nat.lt_or_ge q a with hlt | hge
      · have := cntTo_lt isB s hlt h1 h2; omega
      · exact hge
    · intro i h1 h2 h3
      exact between isB s a q (by have := h.2.2; omega) i h1 h2 h3
    · obtain ⟨h1, h2, h3⟩ := h
      exact Or.inr ⟨h1, h2⟩

theorem isB_false {b : UInt8} (h : isB b = false) : (128 : Int) ≤ (b.toNat : Int) ∧ (b.toNat : Int) ≤ 191 := by
  unfold isB at h
  simp only [Bool.or_eq_false_iff, decide_eq_false_iff_not] at h
  omega
theorem isB_true {b : UInt8} (h : isB b = true) : (b.toNat : Int) < 128 ∨ (191 : Int) < (b.toNat : Int) := by
  unfold isB at h
  simpa only [Bool.or_eq_true, decide_eq_true_eq] using h

theorem run_field_runes (a b c : Int) (w : World) : (Instr.field 23 (.agg #[.int .i64 a, .int .i64 b, .int .i64 c]) 1).run Try.prog w = .ok (.int .i64 b) w := by kernel_rfl

theorem wfNat {k : Nat} (h : k ≤ 9223372036854775807) : (Lit.int .i64 (k : Int)).wf = true := by
  simp [Lit.wf, IntKind.min, IntKind.max, IntKind.signed, IntKind.bits]; omega

set_option maxRecDepth 100000 in
set_option maxHeartbeats 2000000 in
theorem walk_inverse (s : ByteArray) (w : World) (hs : s.size ≤ maxLen) :
    Calls Try.prog 6 #[.string s] w fun e w' => e = .returned (.bool true) ∧ Below w.heap.size w w' := by
  have hs' : s.size ≤ 9223372036854775807 := hs
  by_cases hbig : (1000 : Int) < (s.size : Int)
  · go_enter Try.func6, Try.ntmps6
    go_wp2_with fail
    refine (known_any _).mono ?_; rintro e w1 ⟨rfl, hb1⟩
    go_wp2_with fail
    go_ret
    exact ⟨rfl, hb1⟩
  · have hfl := run_field_runes
    go_enter Try.func6, Try.ntmps6
    go_wp2_with fail
    refine (known_any _).mono ?_; rintro e w1 ⟨rfl, hb1⟩
    go_wp2_with fail
    go_loopw [3] (fun i wr => ∃ k : Nat, k ≤ cnt isB s ∧ i = .int .i64 k ∧ Below w.heap.size w wr) (fun i _ => cnt isB s - (intOf i).toNat)
    case atStart => exact ⟨0, Nat.zero_le _, rfl, hb1⟩
    case round =>
      obtain ⟨k, hk, rfl, hbr⟩ := hrel
      have hcs := cnt_le isB s
      by_cases hlt : k < cnt isB s
      · rcases nth_or isB s k with hn | ⟨q, hn⟩
        · exfalso; omega
        · have hq := hn.size
          have hr : runeR s (k : Int) = ((q : Int), 0) := runeR_nth s k q hn
          have hbq : befR isB s (q : Int) = ((k : Int), 0) := by rw [befR_in isB s q (by omega), hn.2.2]
          have HR := Lib.hid hr
          have HQ := Lib.hid hbq
          clear hr hbq hn
          have c1 := fun w => rune_any s (k : Int) w hs (wfNat (by omega))
          have c2 := fun w => runesBefore_any s (q : Int) w hs (wfNat (by omega))
          rw [HR.out] at c1
          rw [HQ.out] at c2
          have C1 := Lib.hid c1
          have C2 := Lib.hid c2
          clear c1 c2
          go_wp2_with fail
          refine (of_any _ _ hs).mono ?_; rintro e wa ⟨rfl, ha⟩
          go_wp2_with fail
          refine (C1.out _).mono ?_; rintro e wb ⟨rfl, rfl⟩
          go_wp2_with fail
          refine (C2.out _).mono ?_; rintro e wb ⟨rfl, rfl⟩
          go_wp2_with fail
          go_roundw
          case rel => exact ⟨k + 1, by omega, by go_num, hbr.trans (ha.mono hbr.size)⟩
          case measure => simp [intOf]; omega
      · go_wp2_with fail
        refine (of_any _ _ hs).mono ?_; rintro e wa ⟨rfl, ha⟩
        have hba := hbr.trans (ha.mono hbr.size)
        clear hbr ha hb1
        go_wp2_with fail
        go_loop [8] (fun i => ∃ a : Nat, a ≤ s.size + 1 ∧ i = .int .i64 a) (fun i => s.size + 1 - (intOf i).toNat)
        case atStart => exact ⟨0, Nat.zero_le _, rfl⟩
        case round =>
          obtain ⟨a, ha, rfl⟩ := hrel
          by_cases hal : a ≤ s.size
          · obtain ⟨b, hr, hab, hbs, hin, hend⟩ := inv_facts s a hal
            have hca := cntTo_le isB s a
            have c1 := fun w => runesBefore_any s (a : Int) w hs (wfNat (by omega))
            rw [befR_in isB s a hal] at c1
            have c2 := fun w => rune_any s ((cntTo isB s a : Nat) : Int) w hs (wfNat (by omega))
            rw [hr] at c2
            have C1 := Lib.hid c1
            have C2 := Lib.hid c2
            have HI := Lib.hid hin
            clear c1 c2 hin hr
            go_wp2_with fail
            refine (C1.out _).mono ?_; rintro e wb ⟨rfl, rfl⟩
            go_wp2_with fail
            refine (C2.out _).mono ?_; rintro e wb ⟨rfl, rfl⟩
            go_wp2_with fail
            go_loop [13] (fun i => ∃ j : Nat, a ≤ j ∧ j ≤ b ∧ i = .int .i64 j) (fun i => b - (intOf i).toNat)
            case atStart => exact ⟨a, Nat.le_refl _, hab, rfl⟩
            case round =>
              obtain ⟨j, hj1, hj2, rfl⟩ := hrel
              by_cases hjb : j < b
              · have hjs : j < s.size := by omega
                obtain ⟨h128, h191⟩ := isB_false (HI.out j hj1 hjb hjs)
                go_wp2_with fail
                go_round
                case rel => exact ⟨j + 1, by omega, by omega, by go_num⟩
                case measure => simp [intOf]; omega
              · rcases hend with rfl | ⟨hbl, hbt⟩
                · go_wp2_with fail
                  go_round
                  case rel => exact ⟨a + 1, by omega, by go_num⟩
                  case measure => simp [intOf]; omega
                · rcases isB_true hbt with ht | ht
                  · clear hbt
                    go_wp2_with fail
                    go_round
                    case rel => exact ⟨a + 1, by omega, by go_num⟩
                    case measure => simp [intOf]; omega
                  · clear hbt
                    go_wp2_with fail
                    go_round
                    case rel => exact ⟨a + 1, by omega, by go_num⟩
                    case measure => simp [intOf]; omega
          · go_wp2_with fail
            go_ret
            exact ⟨rfl, hba⟩

/-! ### Lines -/
theorem line_facts (s : ByteArray) (k : Nat) (hk : k ≤ cnt isF s) : (k = 0 ∧ lineR s (k : Int) = (0, 0)) ∨
    ∃ a : Nat, lineR s (k : Int) = ((a : Int) + 1, 0) ∧ cntTo isF s (a + 1) = k ∧ cntTo isF s a + 1 = k ∧ ∃ h : a < s.size, isF s[a] = true := by
  by_cases h0 : k = 0
  · left
    subst h0
    exact ⟨rfl, by unfold lineR; rw [if_neg (by omega), if_pos (by omega)]⟩
  · right
    rcases nth_or isF s (k - 1) with h | ⟨q, h⟩
    · exfalso; omega
    · refine ⟨q, ?_, ?_, ?_, h.1, h.2.1⟩
      · unfold lineR
        rw [if_neg (by omega), if_neg (by omega), show ((k : Int) - 1).toNat = k - 1 from by omega, h.pos]
      · obtain ⟨h1, h2, h3⟩ := h
        rw [cntTo_yes isF s q h1 h2]; omega
      · obtain ⟨h1, h2, h3⟩ := h
        omega

theorem seg_facts (s : ByteArray) (a : Nat) : ∃ b : Nat, lineR s ((cntTo isF s a : Nat) : Int) = ((b : Int), 0) ∧ b ≤ a ∧ ∀ i, b ≤ i → i < a → ∀ h : i < s.size, isF s[i] = false := by
  rcases line_facts s (cntTo isF s a) (cntTo_cnt isF s a) with ⟨h0, h⟩ | ⟨b, h, h1, h2, h3, h4⟩
  · exact ⟨0, by rw [h]; rfl, Nat.zero_le _, fun i g1 g2 g3 => between isF s 0 a (by rw [h0]; exact Nat.zero_le _) i g1 g2 g3⟩
  · refine ⟨b + 1, by rw [h]; rfl, ?_, fun i g1 g2 g3 => between isF s (b + 1) a (by rw [h1]; exact Nat.le_refl _) i g1 g2 g3⟩
    rcases Nat.lt_or_ge b a with g | g
    · exact g
    · have := cntTo_mono isF s g; omega

/-- the beginning of the line before line k; -1 if there is none -/
def lst (s : ByteArray) (k : Nat) : Int := if k = 0 then -1 else (lineR s (((k - 1 : Nat)) : Int)).1

theorem lst_succ (s : ByteArray) (k : Nat) : lst s (k + 1) = (lineR s (k : Int)).1 := by
  unfold lst
  rw [if_neg (by omega)]
  rfl
theorem lst_lt (s : ByteArray) (k : Nat) (hk : k ≤ cnt isF s) : lst s k < (lineR s (k : Int)).1 ∧ -1 ≤ lst s k := by
  rcases Nat.eq_zero_or_pos k with h | h
  · subst h
    have : lineR s ((0 : Nat) : Int) = (0, 0) := by unfold lineR; rw [if_neg (by omega), if_pos (by omega)]
    rw [this]
    show (-1 : Int) < 0 ∧ (-1 : Int) ≤ -1
    exact ⟨by decide, by decide⟩
  · obtain ⟨j, rfl⟩ : ∃ j, k = j + 1 := ⟨k - 1, by omega⟩
    rw [lst_succ]
    rcases line_facts s (j + 1) hk with ⟨h0, _⟩ | ⟨b, hb, h1, h2, h3⟩
    · omega
    · rw [hb]
      rcases line_facts s j (by omega) with ⟨h0, g⟩ | ⟨c, g, g1, g2, g3⟩
      · rw [g]; constructor <;> simp <;> omega
      · rw [g]
        have : c < b := by
          rcases Nat.lt_or_ge c b with e | e
          · exact e
          · have := cntTo_mono isF s e; omega
        constructor <;> simp <;> omega

theorem run_field_lines' (a b c : Int) (w : World) : (Instr.field 23 (.agg #[.int .i64 a, .int .i64 b, .int .i64 c]) 2).run Try.prog w = .ok (.int .i64 c) w := by kernel_rfl

set_option maxRecDepth 100000 in
set_option maxHeartbeats 2000000 in
theorem walk_rows (s : ByteArray) (w : World) (hs : s.size ≤ maxLen) :
    Calls Try.prog 7 #[.string s] w fun e w' => e = .returned (.bool true) ∧ Below w.heap.size w w' := by
  have hs' : s.size ≤ 9223372036854775807 := hs
  by_cases hbig : (1000 : Int) < (s.size : Int)
  · go_enter Try.func7, Try.ntmps7
    go_wp2_with fail
    refine (known_any _).mono ?_; rintro e w1 ⟨rfl, hb1⟩
    go_wp2_with fail
    go_ret
    exact ⟨rfl, hb1⟩
  · have hfl := run_field_lines'
    go_enter Try.func7, Try.ntmps7
    go_wp2_with fail
    refine (known_any _).mono ?_; rintro e w1 ⟨rfl, hb1⟩
    go_wp2_with fail
    go_loopw [3, 4] (fun l i wr => ∃ k : Nat, k ≤ cnt isF s + 1 ∧ i = .int .i64 k ∧ l = .int .i64 (lst s k) ∧ Below w.heap.size w wr) (fun _ i _ => cnt isF s + 1 - (intOf i).toNat)
    case atStart => exact ⟨0, Nat.zero_le _, rfl, rfl, hb1⟩
    case round =>
      obtain ⟨k, hk, rfl, rfl, hbr⟩ := hrel
      have hcs := cnt_le isF s
      by_cases hlt : k ≤ cnt isF s
      · have hll := lst_lt s k hlt
        rcases line_facts s k hlt with ⟨rfl, hr⟩ | ⟨a, hr, ha1, ha2, ha3, ha4⟩
        · have hz : lst s 0 = -1 := rfl
          have hsu : lst s (0 + 1) = 0 := by rw [lst_succ, hr]
          have c1 := fun w => line_any s ((0 : Nat) : Int) w hs (wfNat (by omega))
          rw [hr] at c1
          have c2 := fun w => lineOf_any s ((0 : Nat) : Int) w hs (wfNat (by omega))
          rw [befR_in isF s 0 (by omega), cntTo_zero] at c2
          have C1 := Lib.hid c1
          have C2 := Lib.hid c2
          have HSU := Lib.hid hsu
          clear c1 c2 hr hsu hll
          go_wp2_with fail
          refine (of_any _ _ hs).mono ?_; rintro e wa ⟨rfl, ha⟩
          go_wp2_with fail
          refine (C1.out _).mono ?_; rintro e wb ⟨rfl, rfl⟩
          go_wp2_with fail
          refine (C2.out _).mono ?_; rintro e wb ⟨rfl, rfl⟩
          go_wp2_with fail
          go_roundw
          case rel => exact ⟨0 + 1, by omega, by go_num, by rw [HSU.out], hbr.trans (ha.mono hbr.size)⟩
          case measure => simp [intOf]
        · have hsu : lst s (k + 1) = (a : Int) + 1 := by rw [lst_succ, hr]
          rw [hr] at hll
          have hl1 : lst s k < (a : Int) + 1 := hll.1
          have hl2 : -1 ≤ lst s k := hll.2
          have c1 := fun w => line_any s (k : Int) w hs (wfNat (by omega))
          rw [hr] at c1
          have c2 := fun w => lineOf_any s ((a : Int) + 1) w hs (wfNat (k := a + 1) (by omega))
          rw [show ((a : Int) + 1) = ((a + 1 : Nat) : Int) from rfl, befR_in isF s (a + 1) (by omega), ha1, show ((a + 1 : Nat) : Int) = (a : Int) + 1 from rfl] at c2
          unfold isF at ha4
          have hne : ((s[a].toNat : Int) != 10) = false := by rw [bne_eq_false_iff_eq]; simpa using ha4
          have hk0 : (0 : Int) < (k : Int) := by omega
          have C1 := Lib.hid c1
          have C2 := Lib.hid c2
          have HSU := Lib.hid hsu
          clear c1 c2 hr hsu hll ha1 ha2 ha4
          go_wp2_with fail
          refine (of_any _ _ hs).mono ?_; rintro e wa ⟨rfl, ha⟩
          go_wp2_with fail
          refine (C1.out _).mono ?_; rintro e wb ⟨rfl, rfl⟩
          go_wp2_with fail
          refine (C2.out _).mono ?_; rintro e wb ⟨rfl, rfl⟩
          go_wp2_with fail
          go_roundw
          case rel => exact ⟨k + 1, by omega, by go_num, by rw [HSU.out], hbr.trans (ha.mono hbr.size)⟩
          case measure => simp [intOf]; omega
      · go_wp2_with fail
        refine (of_any _ _ hs).mono ?_; rintro e wa ⟨rfl, ha⟩
        have hba := hbr.trans (ha.mono hbr.size)
        clear hbr ha hb1
        go_wp2_with fail
        go_loop [9, 10] (fun v i => ∃ a u : Nat, a ≤ s.size + 1 ∧ u ≤ cntTo isF s a ∧ i = .int .i64 a ∧ v = .int .i64 u) (fun _ i => s.size + 1 - (intOf i).toNat)
        case atStart => exact ⟨0, 0, Nat.zero_le _, Nat.zero_le _, rfl, rfl⟩
        case round =>
          obtain ⟨a, u, ha, hu, rfl, rfl⟩ := hrel
          by_cases hal : a ≤ s.size
          · obtain ⟨b, hr, hab, hin⟩ := seg_facts s a
            have hca := cntTo_le isF s a
            have hmo := cntTo_mono isF s (show a ≤ a + 1 by omega)
            have c1 := fun w => lineOf_any s (a : Int) w hs (wfNat (by omega))
            rw [befR_in isF s a hal] at c1
            have c2 := fun w => line_any s ((cntTo isF s a : Nat) : Int) w hs (wfNat (by omega))
            rw [hr] at c2
            have C1 := Lib.hid c1
            have C2 := Lib.hid c2
            have HI := Lib.hid hin
            clear c1 c2 hin hr
            go_wp2_with fail
            refine (C1.out _).mono ?_; rintro e wb ⟨rfl, rfl⟩
            go_wp2_with fail
            refine (C2.out _).mono ?_; rintro e wb ⟨rfl, rfl⟩
            go_wp2_with fail
            go_loop [15] (fun i => ∃ j : Nat, b ≤ j ∧ j ≤ a ∧ i = .int .i64 j) (fun i => a - (intOf i).toNat)
            case atStart => exact ⟨b, Nat.le_refl _, hab, rfl⟩
            case round =>
              obtain ⟨j, hj1, hj2, rfl⟩ := hrel
              by_cases hjb : j < a
              · have hjs : j < s.size := by omega
                have hp := HI.out j hj1 hjb hjs
                unfold isF at hp
                go_wp2_with fail
                go_round
                case rel => exact ⟨j + 1, by omega, by omega, by go_num⟩
                case measure => simp [intOf]; omega
              · go_wp2_with fail
                go_round
                case rel => exact ⟨a + 1, cntTo isF s a, by omega, by omega, by go_num, rfl⟩
                case measure => simp [intOf]; omega
          · go_wp2_with fail
            go_ret
            exact ⟨rfl, hba⟩

end Go.Proofs.Ytalkafjccpijiaa
