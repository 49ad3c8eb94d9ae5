/- The walk of the law MeasureJoins. -/
import Derived.Test.YtalkafjccpijiaaMeasF
namespace Go.Proofs.Ytalkafjccpijiaa
open Go.RowKit

/-! ### The plain law -/
theorem toList_append (a b : ByteArray) : (a ++ b).data.toList = a.data.toList ++ b.data.toList := by
  simp [ByteArray.data_append]
theorem cnt_append (p : UInt8 → Bool) (a b : ByteArray) : cnt p (a ++ b) = cnt p a + cnt p b := by
  unfold cnt
  rw [toList_append, List.countP_append]
theorem nthL_append (p : UInt8 → Bool) : ∀ (l m : List UInt8) (n : Nat), nthL p (l ++ m) n = if n < l.countP p then nthL p l n else l.length + nthL p m (n - l.countP p) := by
  intro l
  induction l with
  | nil => intro m n; simp
  | cons b l ih =>
    intro m n
    by_cases hb : p b = true
    · by_cases hn : n = 0
      · subst hn
        simp [nthL, hb]
      · simp only [List.cons_append, nthL, hb, if_true, hn, if_false, ih, List.countP_cons, List.length_cons]
        by_cases h : n - 1 < l.countP p
        · rw [if_pos h, if_pos (by omega)]
        · rw [if_neg h, if_neg (by omega), show n - 1 - l.countP p = n - (l.countP p + 1) from by omega]; omega
    · simp only [List.cons_append, nthL, hb, ih, List.countP_cons, List.length_cons]
      simp only [Bool.false_eq_true, if_false, Nat.add_zero]
      by_cases h : n < l.countP p
      · rw [if_pos h, if_pos h]
      · rw [if_neg h, if_neg h]; omega
theorem nthPos_append (p : UInt8 → Bool) (a b : ByteArray) (n : Nat) : nthPos p (a ++ b) n = if n < cnt p a then nthPos p a n else a.size + nthPos p b (n - cnt p a) := by
  unfold nthPos cnt
  rw [toList_append, nthL_append]
  simp
theorem nthPos_le (p : UInt8 → Bool) (s : ByteArray) (n : Nat) : nthPos p s n ≤ s.size := by
  rcases nth_or p s n with h | ⟨q, h⟩
  · rw [nthPos_end p s n h]; exact Nat.le_refl _
  · rw [h.pos]; exact Nat.le_of_lt h.size
theorem runeR_bd (s : ByteArray) (n : Int) : 0 ≤ (runeR s n).1 ∧ (runeR s n).1 ≤ s.size := by
  unfold runeR
  split
  · exact ⟨Int.le_refl _, by omega⟩
  · have := nthPos_le isB s n.toNat
    constructor <;> simp <;> omega

theorem rune_in (a b : ByteArray) (n : Int) (h0 : 0 ≤ n) (h : n < cnt isB a) : runeR (a ++ b) n = runeR a n := by
  have e1 : ¬ (n < 0 ∨ ((cnt isB (a ++ b) : Nat) : Int) < n) := by rw [cnt_append]; omega
  have e2 : ¬ (n < 0 ∨ ((cnt isB a : Nat) : Int) < n) := by omega
  unfold runeR
  rw [if_neg e1, if_neg e2, nthPos_append, if_pos (by omega)]
theorem rune_out (a b : ByteArray) (n : Int) (h : (cnt isB a : Int) ≤ n) :
    (runeR (a ++ b) n).2 = (runeR b (n - cnt isB a)).2 ∧ ((runeR (a ++ b) n).2 = 0 → (runeR (a ++ b) n).1 = (runeR b (n - cnt isB a)).1 + a.size) := by
  unfold runeR
  rw [cnt_append, nthPos_append, if_neg (show ¬ n.toNat < cnt isB a by omega), show (n - (cnt isB a : Int)).toNat = n.toNat - cnt isB a from by omega]
  by_cases h1 : n < 0 ∨ (((cnt isB a + cnt isB b : Nat)) : Int) < n
  · rw [if_pos h1, if_pos (by omega)]
    exact ⟨rfl, fun h => absurd h (by decide)⟩
  · rw [if_neg h1, if_neg (by omega)]
    exact ⟨rfl, fun _ => by simp; omega⟩
theorem line_in (a b : ByteArray) (n : Int) (h0 : 0 ≤ n) (h : n ≤ cnt isF a) : lineR (a ++ b) n = lineR a n := by
  have e1 : ¬ (n < 0 ∨ ((cnt isF (a ++ b) : Nat) : Int) < n) := by rw [cnt_append]; omega
  have e2 : ¬ (n < 0 ∨ ((cnt isF a : Nat) : Int) < n) := by omega
  unfold lineR
  rw [if_neg e1, if_neg e2]
  by_cases hn : n = 0
  · rw [if_pos hn, if_pos hn]
  · rw [if_neg hn, if_neg hn, nthPos_append, if_pos (by omega)]
theorem line_out (a b : ByteArray) (n : Int) (h : (cnt isF a : Int) < n) :
    (lineR (a ++ b) n).2 = (lineR b (n - cnt isF a)).2 ∧ ((lineR (a ++ b) n).2 = 0 → (lineR (a ++ b) n).1 = (lineR b (n - cnt isF a)).1 + a.size) := by
  unfold lineR
  rw [cnt_append, if_neg (show ¬ n = 0 by omega), if_neg (show ¬ n - (cnt isF a : Int) = 0 by omega), nthPos_append, if_neg (show ¬ (n - 1).toNat < cnt isF a by omega),
    show (n - (cnt isF a : Int) - 1).toNat = (n - 1).toNat - cnt isF a from by omega]
  by_cases h1 : n < 0 ∨ (((cnt isF a + cnt isF b : Nat)) : Int) < n
  · rw [if_pos h1, if_pos (by omega)]
    exact ⟨rfl, fun h => absurd h (by decide)⟩
  · rw [if_neg h1, if_neg (by omega)]
    exact ⟨rfl, fun _ => by simp; omega⟩
theorem lineR_bd (s : ByteArray) (n : Int) : 0 ≤ (lineR s n).1 ∧ (lineR s n).1 ≤ s.size := by
  unfold lineR
  split
  · exact ⟨Int.le_refl _, by omega⟩
  · split
    · exact ⟨Int.le_refl _, by omega⟩
    · rename_i h1 h2
      rcases nth_or isF s (n - 1).toNat with h | ⟨q, h⟩
      · exfalso; omega
      · rw [h.pos]
        have := h.size
        constructor <;> simp <;> omega
theorem runeR_err (s : ByteArray) (n : Int) : (runeR s n).2 = 0 ∨ (runeR s n).2 = 3 := by
  unfold runeR; split <;> simp
theorem lineR_err (s : ByteArray) (n : Int) : (lineR s n).2 = 0 ∨ (lineR s n).2 = 3 := by
  unfold lineR; split
  · simp
  · split <;> simp

theorem of_size (w : World) : ∃ u : World, u = w := ⟨w, rfl⟩

set_option maxRecDepth 100000 in
set_option maxHeartbeats 4000000 in
theorem joins_neg (a b : ByteArray) (n : Int) (w : World) (ha : a.size ≤ 140737488351232) (hb : b.size ≤ 140737488351232) (w1 : (Lit.int .i64 n).wf = true) (h0 : n < 0) :
    Calls Try.prog 8 #[.string a, .string b, .int .i64 n] w fun e w' => e = .returned (.bool true) ∧ Below w.heap.size w w' := by
  have hn := wf64 w1
  have hca := cnt_le isB a
  have hcf := cnt_le isF a
  have hsum : a.size + b.size ≤ 9223372036854775807 := by omega
  have hadd := fun w => run_string_add_sum (P := Try.prog) w a b hsum
  have hab : (a ++ b).size ≤ maxLen := by rw [ByteArray.size_append]; exact hsum
  have ham : a.size ≤ maxLen := by unfold maxLen; omega
  have hbm : b.size ≤ maxLen := by unfold maxLen; omega
  have c1 := fun w => rune_any (a ++ b) n w hab w1
  have c4 := fun w => line_any (a ++ b) n w hab w1
  have e1 : runeR (a ++ b) n = (0, 3) := by unfold runeR; rw [if_pos (Or.inl h0)]
  have e2 : runeR a n = (0, 3) := by unfold runeR; rw [if_pos (Or.inl h0)]
  have e4 : lineR (a ++ b) n = (0, 3) := by unfold lineR; rw [if_pos (Or.inl h0)]
  have e5 : lineR a n = (0, 3) := by unfold lineR; rw [if_pos (Or.inl h0)]
  have c2 := fun w => rune_any a n w ham w1
  have c5 := fun w => line_any a n w ham w1
  rw [e1] at c1; rw [e2] at c2; rw [e4] at c4; rw [e5] at c5
  clear e1 e2 e4 e5
  have C1 := Lib.hid c1; have C2 := Lib.hid c2; have C4 := Lib.hid c4; have C5 := Lib.hid c5
  clear c1 c2 c4 c5 w1
  go_enter Try.func8, Try.ntmps8
  go_wp2_with fail
  refine (of_any _ _ ham).mono ?_; rintro e0 wa ⟨rfl, hba⟩
  go_wp2_with fail
  refine (C1.out _).mono ?_; rintro e0 w0 ⟨rfl, rfl⟩
  go_wp2_with fail
  refine (C2.out _).mono ?_; rintro e0 w0 ⟨rfl, rfl⟩
  go_wp2_with fail
  refine (C4.out _).mono ?_; rintro e0 w0 ⟨rfl, rfl⟩
  go_wp2_with fail
  refine (C5.out _).mono ?_; rintro e0 w0 ⟨rfl, rfl⟩
  go_wp2_with fail
  refine (known_any _).mono ?_; rintro e0 wb ⟨rfl, hbb⟩
  go_wp2_with fail
  go_ret
  exact ⟨rfl, below_step (hba.alloc hba.size _) hbb⟩

set_option maxRecDepth 100000 in
set_option maxHeartbeats 4000000 in
theorem joins_in_in (a b : ByteArray) (n : Int) (w : World) (ha : a.size ≤ 140737488351232) (hb : b.size ≤ 140737488351232) (w1 : (Lit.int .i64 n).wf = true) (h0 : 0 ≤ n) (h1 : n < cnt isB a) (h2 : n ≤ cnt isF a) :
    Calls Try.prog 8 #[.string a, .string b, .int .i64 n] w fun e w' => e = .returned (.bool true) ∧ Below w.heap.size w w' := by
  have hn := wf64 w1
  have hca := cnt_le isB a
  have hcf := cnt_le isF a
  have hsum : a.size + b.size ≤ 9223372036854775807 := by omega
  have hadd := fun w => run_string_add_sum (P := Try.prog) w a b hsum
  have hab : (a ++ b).size ≤ maxLen := by rw [ByteArray.size_append]; exact hsum
  have ham : a.size ≤ maxLen := by unfold maxLen; omega
  have hbm : b.size ≤ maxLen := by unfold maxLen; omega
  have c1 := fun w => rune_any (a ++ b) n w hab w1
  have c4 := fun w => line_any (a ++ b) n w hab w1
  have c2 := fun w => rune_any a n w ham w1
  have c5 := fun w => line_any a n w ham w1
  have e1 := rune_in a b n h0 h1
  rw [e1] at c1
  have er := runeR_err a n
  generalize runeR a n = ra at c1 c2 er
  obtain ⟨x, e⟩ := ra
  dsimp only at er
  clear e1
  have f1 := line_in a b n h0 h2
  rw [f1] at c4
  have el := lineR_err a n
  generalize lineR a n = la at c4 c5 el
  obtain ⟨u, f⟩ := la
  dsimp only at el
  clear f1
  rcases er with rfl | rfl <;> rcases el with rfl | rfl
  all_goals
    have C1 := Lib.hid c1
    have C2 := Lib.hid c2
    have C4 := Lib.hid c4
    have C5 := Lib.hid c5
    clear c1 c2 c4 c5 w1
    go_enter Try.func8, Try.ntmps8
    go_wp2_with fail
    refine (of_any _ _ ham).mono ?_; rintro e0 wa ⟨rfl, hba⟩
    go_wp2_with fail
    refine (C1.out _).mono ?_; rintro e0 w0 ⟨rfl, rfl⟩
    go_wp2_with fail
    refine (C2.out _).mono ?_; rintro e0 w0 ⟨rfl, rfl⟩
    go_wp2_with fail
    refine (C4.out _).mono ?_; rintro e0 w0 ⟨rfl, rfl⟩
    go_wp2_with fail
    refine (C5.out _).mono ?_; rintro e0 w0 ⟨rfl, rfl⟩
    go_wp2_with fail
    refine (known_any _).mono ?_; rintro e0 wb ⟨rfl, hbb⟩
    go_wp2_with fail
    go_ret
    exact ⟨rfl, below_step (hba.alloc hba.size _) hbb⟩

set_option maxRecDepth 100000 in
set_option maxHeartbeats 4000000 in
theorem joins_in_out (a b : ByteArray) (n : Int) (w : World) (ha : a.size ≤ 140737488351232) (hb : b.size ≤ 140737488351232) (w1 : (Lit.int .i64 n).wf = true) (h0 : 0 ≤ n) (h1 : n < cnt isB a) (h2 : (cnt isF a : Int) < n) :
    Calls Try.prog 8 #[.string a, .string b, .int .i64 n] w fun e w' => e = .returned (.bool true) ∧ Below w.heap.size w w' := by
  have hn := wf64 w1
  have hca := cnt_le isB a
  have hcf := cnt_le isF a
  have hsum : a.size + b.size ≤ 9223372036854775807 := by omega
  have hadd := fun w => run_string_add_sum (P := Try.prog) w a b hsum
  have hab : (a ++ b).size ≤ maxLen := by rw [ByteArray.size_append]; exact hsum
  have ham : a.size ≤ maxLen := by unfold maxLen; omega
  have hbm : b.size ≤ maxLen := by unfold maxLen; omega
  have c1 := fun w => rune_any (a ++ b) n w hab w1
  have c4 := fun w => line_any (a ++ b) n w hab w1
  have c2 := fun w => rune_any a n w ham w1
  have c5 := fun w => line_any a n w ham w1
  have e1 := rune_in a b n h0 h1
  rw [e1] at c1
  have er := runeR_err a n
  generalize runeR a n = ra at c1 c2 er
  obtain ⟨x, e⟩ := ra
  dsimp only at er
  clear e1
  obtain ⟨f1, f1'⟩ := line_out a b n h2
  have el := lineR_err b (n - cnt isF a)
  have c6 := fun w => line_any b (n - cnt isF a) w hbm (by simp [Lit.wf, IntKind.min, IntKind.max, IntKind.signed, IntKind.bits]; omega)
  have bl := lineR_bd b (n - cnt isF a)
  generalize lineR b (n - cnt isF a) = lb at c6 el f1 f1' bl
  generalize lineR (a ++ b) n = lc at c4 f1 f1'
  generalize lineR a n = ld at c5
  obtain ⟨v, f⟩ := lb
  obtain ⟨u, f'⟩ := lc
  obtain ⟨t, f''⟩ := ld
  dsimp only at el f1 f1' bl
  subst f1
  rcases er with rfl | rfl <;> rcases el with rfl | rfl
  all_goals
    try (obtain rfl := f1' rfl)
    try clear f1'
    have C1 := Lib.hid c1
    have C2 := Lib.hid c2
    have C4 := Lib.hid c4
    have C5 := Lib.hid c5
    have C6 := Lib.hid c6
    clear c1 c2 c4 c5 c6 w1
    go_enter Try.func8, Try.ntmps8
    go_wp2_with fail
    refine (of_any _ _ ham).mono ?_; rintro e0 wa ⟨rfl, hba⟩
    go_wp2_with fail
    refine (C1.out _).mono ?_; rintro e0 w0 ⟨rfl, rfl⟩
    go_wp2_with fail
    refine (C2.out _).mono ?_; rintro e0 w0 ⟨rfl, rfl⟩
    go_wp2_with fail
    refine (C4.out _).mono ?_; rintro e0 w0 ⟨rfl, rfl⟩
    go_wp2_with fail
    refine (C5.out _).mono ?_; rintro e0 w0 ⟨rfl, rfl⟩
    go_wp2_with fail
    refine (C6.out _).mono ?_; rintro e0 w0 ⟨rfl, rfl⟩
    go_wp2_with fail
    refine (known_any _).mono ?_; rintro e0 wb ⟨rfl, hbb⟩
    go_wp2_with fail
    go_ret
    exact ⟨rfl, below_step (hba.alloc hba.size _) hbb⟩

set_option maxRecDepth 100000 in
set_option maxHeartbeats 4000000 in
theorem joins_out_in (a b : ByteArray) (n : Int) (w : World) (ha : a.size ≤ 140737488351232) (hb : b.size ≤ 140737488351232) (w1 : (Lit.int .i64 n).wf = true) (h0 : 0 ≤ n) (h1 : (cnt isB a : Int) ≤ n) (h2 : n ≤ cnt isF a) :
    Calls Try.prog 8 #[.string a, .string b, .int .i64 n] w fun e w' => e = .returned (.bool true) ∧ Below w.heap.size w w' := by
  have hn := wf64 w1
  have hca := cnt_le isB a
  have hcf := cnt_le isF a
  have hsum : a.size + b.size ≤ 9223372036854775807 := by omega
  have hadd := fun w => run_string_add_sum (P := Try.prog) w a b hsum
  have hab : (a ++ b).size ≤ maxLen := by rw [ByteArray.size_append]; exact hsum
  have ham : a.size ≤ maxLen := by unfold maxLen; omega
  have hbm : b.size ≤ maxLen := by unfold maxLen; omega
  have c1 := fun w => rune_any (a ++ b) n w hab w1
  have c4 := fun w => line_any (a ++ b) n w hab w1
  have c2 := fun w => rune_any a n w ham w1
  have c5 := fun w => line_any a n w ham w1
  obtain ⟨e1, e1'⟩ := rune_out a b n h1
  have er := runeR_err b (n - cnt isB a)
  have c3 := fun w => rune_any b (n - cnt isB a) w hbm (by simp [Lit.wf, IntKind.min, IntKind.max, IntKind.signed, IntKind.bits]; omega)
  have bd := runeR_bd b (n - cnt isB a)
  generalize runeR b (n - cnt isB a) = rb at c3 er e1 e1' bd
  generalize runeR (a ++ b) n = rc at c1 e1 e1'
  generalize runeR a n = rd at c2
  obtain ⟨y, e⟩ := rb
  obtain ⟨x, e'⟩ := rc
  obtain ⟨z, e''⟩ := rd
  dsimp only at er e1 e1' bd
  subst e1
  have f1 := line_in a b n h0 h2
  rw [f1] at c4
  have el := lineR_err a n
  generalize lineR a n = la at c4 c5 el
  obtain ⟨u, f⟩ := la
  dsimp only at el
  clear f1
  rcases er with rfl | rfl <;> rcases el with rfl | rfl
  all_goals
    try (obtain rfl := e1' rfl)
    try clear e1'
    have C1 := Lib.hid c1
    have C2 := Lib.hid c2
    have C4 := Lib.hid c4
    have C5 := Lib.hid c5
    have C3 := Lib.hid c3
    clear c1 c2 c4 c5 c3 w1
    go_enter Try.func8, Try.ntmps8
    go_wp2_with fail
    refine (of_any _ _ ham).mono ?_; rintro e0 wa ⟨rfl, hba⟩
    go_wp2_with fail
    refine (C1.out _).mono ?_; rintro e0 w0 ⟨rfl, rfl⟩
    go_wp2_with fail
    refine (C2.out _).mono ?_; rintro e0 w0 ⟨rfl, rfl⟩
    go_wp2_with fail
    refine (C3.out _).mono ?_; rintro e0 w0 ⟨rfl, rfl⟩
    go_wp2_with fail
    refine (C4.out _).mono ?_; rintro e0 w0 ⟨rfl, rfl⟩
    go_wp2_with fail
    refine (C5.out _).mono ?_; rintro e0 w0 ⟨rfl, rfl⟩
    go_wp2_with fail
    refine (known_any _).mono ?_; rintro e0 wb ⟨rfl, hbb⟩
    go_wp2_with fail
    go_ret
    exact ⟨rfl, below_step (hba.alloc hba.size _) hbb⟩

set_option maxRecDepth 100000 in
set_option maxHeartbeats 4000000 in
theorem joins_out_out (a b : ByteArray) (n : Int) (w : World) (ha : a.size ≤ 140737488351232) (hb : b.size ≤ 140737488351232) (w1 : (Lit.int .i64 n).wf = true) (h0 : 0 ≤ n) (h1 : (cnt isB a : Int) ≤ n) (h2 : (cnt isF a : Int) < n) :
    Calls Try.prog 8 #[.string a, .string b, .int .i64 n] w fun e w' => e = .returned (.bool true) ∧ Below w.heap.size w w' := by
  have hn := wf64 w1
  have hca := cnt_le isB a
  have hcf := cnt_le isF a
  have hsum : a.size + b.size ≤ 9223372036854775807 := by omega
  have hadd := fun w => run_string_add_sum (P := Try.prog) w a b hsum
  have hab : (a ++ b).size ≤ maxLen := by rw [ByteArray.size_append]; exact hsum
  have ham : a.size ≤ maxLen := by unfold maxLen; omega
  have hbm : b.size ≤ maxLen := by unfold maxLen; omega
  have c1 := fun w => rune_any (a ++ b) n w hab w1
  have c4 := fun w => line_any (a ++ b) n w hab w1
  have c2 := fun w => rune_any a n w ham w1
  have c5 := fun w => line_any a n w ham w1
  obtain ⟨e1, e1'⟩ := rune_out a b n h1
  have er := runeR_err b (n - cnt isB a)
  have c3 := fun w => rune_any b (n - cnt isB a) w hbm (by simp [Lit.wf, IntKind.min, IntKind.max, IntKind.signed, IntKind.bits]; omega)
  have bd := runeR_bd b (n - cnt isB a)
  generalize runeR b (n - cnt isB a) = rb at c3 er e1 e1' bd
  generalize runeR (a ++ b) n = rc at c1 e1 e1'
  generalize runeR a n = rd at c2
  obtain ⟨y, e⟩ := rb
  obtain ⟨x, e'⟩ := rc
  obtain ⟨z, e''⟩ := rd
  dsimp only at er e1 e1' bd
  subst e1
  obtain ⟨f1, f1'⟩ := line_out a b n h2
  have el := lineR_err b (n - cnt isF a)
  have c6 := fun w => line_any b (n - cnt isF a) w hbm (by simp [Lit.wf, IntKind.min, IntKind.max, IntKind.signed, IntKind.bits]; omega)
  have bl := lineR_bd b (n - cnt isF a)
  generalize lineR b (n - cnt isF a) = lb at c6 el f1 f1' bl
  generalize lineR (a ++ b) n = lc at c4 f1 f1'
  generalize lineR a n = ld at c5
  obtain ⟨v, f⟩ := lb
  obtain ⟨u, f'⟩ := lc
  obtain ⟨t, f''⟩ := ld
  dsimp only at el f1 f1' bl
  subst f1
  rcases er with rfl | rfl <;> rcases el with rfl | rfl
  all_goals
    try (obtain rfl := e1' rfl)
    try clear e1'
    try (obtain rfl := f1' rfl)
    try clear f1'
    have C1 := Lib.hid c1
    have C2 := Lib.hid c2
    have C4 := Lib.hid c4
    have C5 := Lib.hid c5
    have C3 := Lib.hid c3
    have C6 := Lib.hid c6
    clear c1 c2 c4 c5 c3 c6 w1
    go_enter Try.func8, Try.ntmps8
    go_wp2_with fail
    refine (of_any _ _ ham).mono ?_; rintro e0 wa ⟨rfl, hba⟩
    go_wp2_with fail
    refine (C1.out _).mono ?_; rintro e0 w0 ⟨rfl, rfl⟩
    go_wp2_with fail
    refine (C2.out _).mono ?_; rintro e0 w0 ⟨rfl, rfl⟩
    go_wp2_with fail
    refine (C3.out _).mono ?_; rintro e0 w0 ⟨rfl, rfl⟩
    go_wp2_with fail
    refine (C4.out _).mono ?_; rintro e0 w0 ⟨rfl, rfl⟩
    go_wp2_with fail
    refine (C5.out _).mono ?_; rintro e0 w0 ⟨rfl, rfl⟩
    go_wp2_with fail
    refine (C6.out _).mono ?_; rintro e0 w0 ⟨rfl, rfl⟩
    go_wp2_with fail
    refine (known_any _).mono ?_; rintro e0 wb ⟨rfl, hbb⟩
    go_wp2_with fail
    go_ret
    exact ⟨rfl, below_step (hba.alloc hba.size _) hbb⟩

theorem walk_joins (a b : ByteArray) (n : Int) (w : World) (ha : a.size ≤ 140737488351232) (hb : b.size ≤ 140737488351232) (w1 : (Lit.int .i64 n).wf = true) :
    Calls Try.prog 8 #[.string a, .string b, .int .i64 n] w fun e w' => e = .returned (.bool true) ∧ Below w.heap.size w w' := by
  by_cases h0 : n < 0
  · exact joins_neg a b n w ha hb w1 h0
  · by_cases h1 : n < cnt isB a <;> by_cases h2 : n ≤ cnt isF a
    · exact joins_in_in a b n w ha hb w1 (by omega) h1 h2
    · exact joins_in_out a b n w ha hb w1 (by omega) h1 (by omega)
    · exact joins_out_in a b n w ha hb w1 (by omega) (by omega) h2
    · exact joins_out_out a b n w ha hb w1 (by omega) (by omega) (by omega)

end Go.Proofs.Ytalkafjccpijiaa
