/- The contracts of before, measured, Of, Rune, RunesBefore, Line, LineOf of quarto/measure, by walks. -/
import Derived.Test.YtalkafjccpijiaaMeasB
namespace Go.Proofs.Ytalkafjccpijiaa
open Go.RowKit

/-- the offset of the byte that counts with the index n; the length if there is none -/
def nthL (p : UInt8 → Bool) : List UInt8 → Nat → Nat
  | [], _ => 0
  | b :: l, n => if p b then (if n = 0 then 0 else nthL p l (n - 1) + 1) else nthL p l n + 1
def nthPos (p : UInt8 → Bool) (s : ByteArray) (n : Nat) : Nat := nthL p s.data.toList n

theorem nthL_spec (p : UInt8 → Bool) : ∀ (l : List UInt8) (n k : Nat) (h : k < l.length), p l[k] = true → (l.take k).countP p = n → nthL p l n = k := by
  intro l
  induction l with
  | nil => intro n k h; simp at h
  | cons b l ih =>
    intro n k h hp hc
    cases k with
    | zero =>
      simp at hp hc
      subst hc
      simp [nthL, hp]
    | succ k =>
      simp at h hp
      simp only [List.take_succ_cons, List.countP_cons] at hc
      unfold nthL
      by_cases hb : p b = true
      · simp [hb] at hc
        rw [if_pos hb, if_neg (by omega), ih (n - 1) k h hp (by omega)]
      · simp [hb] at hc
        rw [if_neg hb, ih n k h hp hc]
theorem nthL_end (p : UInt8 → Bool) : ∀ (l : List UInt8) (n : Nat), l.countP p ≤ n → nthL p l n = l.length := by
  intro l
  induction l with
  | nil => intro n _; rfl
  | cons b l ih =>
    intro n hc
    simp only [List.countP_cons] at hc
    unfold nthL
    by_cases hb : p b = true
    · simp [hb] at hc
      rw [if_pos hb, if_neg (by omega), ih (n - 1) (by omega)]; rfl
    · simp [hb] at hc
      rw [if_neg hb, ih n hc]; rfl
theorem IsNth.pos {p : UInt8 → Bool} {s : ByteArray} {n k : Nat} (h : IsNth p s n k) : nthPos p s n = k := by
  obtain ⟨h1, h2, h3⟩ := h
  exact nthL_spec p _ n k (by simpa using h1) h2 h3
theorem nthPos_end (p : UInt8 → Bool) (s : ByteArray) (n : Nat) (h : cnt p s ≤ n) : nthPos p s n = s.size := by
  have := nthL_end p s.data.toList n h
  simpa [nthPos] using this

theorem cnt_extract (p : UInt8 → Bool) (s : ByteArray) (k : Nat) : cnt p (s.extract 0 k) = cntTo p s k := by
  unfold cnt cntTo
  congr 1
  simp [ByteArray.data_extract]

def befR (p : UInt8 → Bool) (s : ByteArray) (a : Int) : Int × Int := if a < 0 ∨ (s.size : Int) < a then (0, 3) else (((cntTo p s a.toNat : Nat) : Int), 0)
def runeR (s : ByteArray) (n : Int) : Int × Int := if n < 0 ∨ ((cnt isB s : Nat) : Int) < n then (0, 3) else (((nthPos isB s n.toNat : Nat) : Int), 0)
def lineR (s : ByteArray) (n : Int) : Int × Int := if n < 0 ∨ ((cnt isF s : Nat) : Int) < n then (0, 3) else if n = 0 then (0, 0) else (((nthPos isF s (n - 1).toNat : Nat) : Int) + 1, 0)

set_option maxHeartbeats 400000 in
theorem beforeB_any (s : ByteArray) (n : Int) (w : World) (hs : s.size ≤ maxLen) (w1 : (Lit.int .i64 n).wf = true) :
    Calls Try.prog 34 #[.string s, .int .i64 n, .func (.func 27) #[] #[]] w fun e w' => e = .returned (.tuple #[.int .i64 (befR isB s n).1, .int .i64 (befR isB s n).2]) ∧ w = w' := by
  by_cases h1 : n < 0
  · have hf : befR isB s n = (0, 3) := by unfold befR; rw [if_pos (Or.inl h1)]
    rw [hf]; clear hf
    go_enter Try.func34, Try.ntmps34
    go_wp2
    go_ret2
    exact ⟨rfl, rfl⟩
  · by_cases h2 : (s.size : Int) < n
    · have hf : befR isB s n = (0, 3) := by unfold befR; rw [if_pos (Or.inr h2)]
      rw [hf]; clear hf
      go_enter Try.func34, Try.ntmps34
      go_wp2
      go_ret2
      exact ⟨rfl, rfl⟩
    · obtain ⟨k, rfl⟩ := Int.eq_ofNat_of_zero_le (show 0 ≤ n by omega)
      have hf : befR isB s k = (((cntTo isB s k : Nat) : Int), 0) := by unfold befR; rw [if_neg (by omega)]; rfl
      rw [hf]; clear hf
      rw [← cnt_extract]
      have hk : k ≤ s.size := by omega
      have he : (s.extract 0 k).size ≤ maxLen := by simp; omega
      have HE := Lib.hid he
      clear he
      unfold maxLen at hs
      go_enter Try.func34, Try.ntmps34
      go_wp2_with (go_at_call 29; refine (countB_any _ _ HE.out).mono ?_; rintro e w' ⟨rfl, rfl⟩)
      go_ret2
      exact ⟨rfl, rfl⟩

set_option maxHeartbeats 400000 in
theorem beforeF_any (s : ByteArray) (n : Int) (w : World) (hs : s.size ≤ maxLen) (w1 : (Lit.int .i64 n).wf = true) :
    Calls Try.prog 34 #[.string s, .int .i64 n, .func (.func 28) #[] #[]] w fun e w' => e = .returned (.tuple #[.int .i64 (befR isF s n).1, .int .i64 (befR isF s n).2]) ∧ w = w' := by
  by_cases h1 : n < 0
  · have hf : befR isF s n = (0, 3) := by unfold befR; rw [if_pos (Or.inl h1)]
    rw [hf]; clear hf
    go_enter Try.func34, Try.ntmps34
    go_wp2
    go_ret2
    exact ⟨rfl, rfl⟩
  · by_cases h2 : (s.size : Int) < n
    · have hf : befR isF s n = (0, 3) := by unfold befR; rw [if_pos (Or.inr h2)]
      rw [hf]; clear hf
      go_enter Try.func34, Try.ntmps34
      go_wp2
      go_ret2
      exact ⟨rfl, rfl⟩
    · obtain ⟨k, rfl⟩ := Int.eq_ofNat_of_zero_le (show 0 ≤ n by omega)
      have hf : befR isF s k = (((cntTo isF s k : Nat) : Int), 0) := by unfold befR; rw [if_neg (by omega)]; rfl
      rw [hf]; clear hf
      rw [← cnt_extract]
      have hk : k ≤ s.size := by omega
      have he : (s.extract 0 k).size ≤ maxLen := by simp; omega
      have HE := Lib.hid he
      clear he
      unfold maxLen at hs
      go_enter Try.func34, Try.ntmps34
      go_wp2_with (go_at_call 29; refine (countF_any _ _ HE.out).mono ?_; rintro e w' ⟨rfl, rfl⟩)
      go_ret2
      exact ⟨rfl, rfl⟩

set_option maxHeartbeats 400000 in
theorem runesBefore_any (s : ByteArray) (n : Int) (w : World) (hs : s.size ≤ maxLen) (w1 : (Lit.int .i64 n).wf = true) :
    Calls Try.prog 16 #[.string s, .int .i64 n] w fun e w' => e = .returned (.tuple #[.int .i64 (befR isB s n).1, .int .i64 (befR isB s n).2]) ∧ w = w' := by
  go_enter Try.func16, Try.ntmps16
  go_wp2_with (go_at_call 34; refine (beforeB_any _ _ _ hs w1).mono ?_; rintro e w' ⟨rfl, rfl⟩)
  go_ret2
  exact ⟨rfl, rfl⟩
set_option maxHeartbeats 400000 in
theorem lineOf_any (s : ByteArray) (n : Int) (w : World) (hs : s.size ≤ maxLen) (w1 : (Lit.int .i64 n).wf = true) :
    Calls Try.prog 20 #[.string s, .int .i64 n] w fun e w' => e = .returned (.tuple #[.int .i64 (befR isF s n).1, .int .i64 (befR isF s n).2]) ∧ w = w' := by
  go_enter Try.func20, Try.ntmps20
  go_wp2_with (go_at_call 34; refine (beforeF_any _ _ _ hs w1).mono ?_; rintro e w' ⟨rfl, rfl⟩)
  go_ret2
  exact ⟨rfl, rfl⟩

set_option maxHeartbeats 400000 in
theorem rune_any (s : ByteArray) (n : Int) (w : World) (hs : s.size ≤ maxLen) (w1 : (Lit.int .i64 n).wf = true) :
    Calls Try.prog 14 #[.string s, .int .i64 n] w fun e w' => e = .returned (.tuple #[.int .i64 (runeR s n).1, .int .i64 (runeR s n).2]) ∧ w = w' := by
  have hb := wf64 w1
  clear w1
  by_cases h1 : n < 0
  · have hf : runeR s n = (0, 3) := by unfold runeR; rw [if_pos (Or.inl h1)]
    rw [hf]; clear hf
    go_enter Try.func14, Try.ntmps14
    go_wp2
    go_ret2
    exact ⟨rfl, rfl⟩
  · rcases nth_or isB s n.toNat with h2 | ⟨q, h2⟩
    · have h3 : ((cnt isB s : Nat) : Int) ≤ n := by omega
      by_cases h4 : n = ((cnt isB s : Nat) : Int)
      · have hf : runeR s n = ((s.size : Int), 0) := by
          unfold runeR; rw [if_neg (by omega), nthPos_end _ _ _ h2]
        rw [hf]; clear hf
        have h5 : (n == ((cnt isB s : Nat) : Int)) = true := by simp [h4]
        have H4 := Lib.hid h4
        clear h4
        go_enter Try.func14, Try.ntmps14
        go_wp2_with (first
          | (go_at_call 32; refine (findB_no _ _ _ hs hb.2 h3).mono ?_; rintro e w' ⟨rfl, rfl⟩)
          | (go_at_call 29; refine (countB_any _ _ hs).mono ?_; rintro e w' ⟨rfl, rfl⟩))
        go_ret2
        exact ⟨rfl, rfl⟩
      · have hf : runeR s n = (0, 3) := by
          unfold runeR; rw [if_pos (by omega)]
        rw [hf]; clear hf
        have h5 : (n == ((cnt isB s : Nat) : Int)) = false := by simp [h4]
        go_enter Try.func14, Try.ntmps14
        go_wp2_with (first
          | (go_at_call 32; refine (findB_no _ _ _ hs hb.2 h3).mono ?_; rintro e w' ⟨rfl, rfl⟩)
          | (go_at_call 29; refine (countB_any _ _ hs).mono ?_; rintro e w' ⟨rfl, rfl⟩))
        go_ret2
        exact ⟨rfl, rfl⟩
    · have hf : runeR s n = ((q : Int), 0) := by
        have := h2.lt
        unfold runeR; rw [if_neg (by omega), h2.pos]
      rw [hf]; clear hf
      go_enter Try.func14, Try.ntmps14
      go_wp2_with (go_at_call 32; refine (findB_yes _ _ q _ hs hb.2 (by omega) h2).mono ?_; rintro e w' ⟨rfl, rfl⟩)
      go_ret2
      exact ⟨rfl, rfl⟩

set_option maxHeartbeats 400000 in
theorem line_any (s : ByteArray) (n : Int) (w : World) (hs : s.size ≤ maxLen) (w1 : (Lit.int .i64 n).wf = true) :
    Calls Try.prog 18 #[.string s, .int .i64 n] w fun e w' => e = .returned (.tuple #[.int .i64 (lineR s n).1, .int .i64 (lineR s n).2]) ∧ w = w' := by
  have hb := wf64 w1
  clear w1
  have hs' : s.size ≤ 9223372036854775807 := hs
  by_cases h1 : n < 0
  · have hf : lineR s n = (0, 3) := by unfold lineR; rw [if_pos (Or.inl h1)]
    rw [hf]; clear hf
    have h5 : (n == 0) = false := by simp; omega
    go_enter Try.func18, Try.ntmps18
    go_wp2
    go_ret2
    exact ⟨rfl, rfl⟩
  · by_cases h0 : n = 0
    · subst h0
      have hf : lineR s 0 = (0, 0) := by unfold lineR; rw [if_neg (by omega), if_pos rfl]
      rw [hf]; clear hf
      go_enter Try.func18, Try.ntmps18
      go_wp2
      go_ret2
      exact ⟨rfl, rfl⟩
    · have h5 : (n == 0) = false := by simp [h0]
      rcases nth_or isF s (n - 1).toNat with h2 | ⟨q, h2⟩
      · have h3 : ((cnt isF s : Nat) : Int) ≤ n - 1 := by omega
        have hf : lineR s n = (0, 3) := by
          unfold lineR; rw [if_pos (by omega)]
        rw [hf]; clear hf
        go_enter Try.func18, Try.ntmps18
        go_wp2_with (go_at_call 32; refine (findF_no _ _ _ hs (by omega) h3).mono ?_; rintro e w' ⟨rfl, rfl⟩)
        go_ret2
        exact ⟨rfl, rfl⟩
      · have hf : lineR s n = ((q : Int) + 1, 0) := by
          have := h2.lt
          unfold lineR; rw [if_neg (by omega), if_neg h0, h2.pos]
        rw [hf]; clear hf
        have hq := h2.size
        go_enter Try.func18, Try.ntmps18
        go_wp2_with (go_at_call 32; refine (findF_yes _ _ q _ hs (by omega) (by omega) h2).mono ?_; rintro e w' ⟨rfl, rfl⟩)
        go_ret2
        exact ⟨rfl, rfl⟩

set_option maxHeartbeats 400000 in
theorem measured_any (a b c : Int) (w : World) :
    Calls Try.prog 30 #[.agg #[.int .i64 a, .int .i64 b, .int .i64 c]] w fun e w' => e = .returned (.agg #[.int .i64 a, .int .i64 b, .int .i64 c]) ∧ Below w.heap.size w w' := by
  have heq := fun w => run_equalIn_arr3 (P := Try.prog) w 9998 (k := .i64) a b c 0 0 0 Try.underlying40 Try.underlying3 (Try.sizeOf3 w) (Try.isAgg3 w)
  by_cases h : a = 0 ∧ b = 0 ∧ c = 0
  · obtain ⟨rfl, rfl, rfl⟩ := h
    go_enter Try.func30, Try.ntmps30
    go_wp2
    exact bodyPost_ret (v := .agg #[.int .i64 0, .int .i64 0, .int .i64 0]) (by simp [results, Try.results30, go_sem]) rfl ⟨rfl, by go_grown⟩
  · have hb : (a == 0 && b == 0 && c == 0) = false := by
      rw [Bool.eq_false_iff]; simp; intro h1 h2 h3; exact h ⟨h1, h2, h3⟩
    clear h
    go_enter Try.func30, Try.ntmps30
    go_wp2
    exact bodyPost_ret (v := .agg #[.int .i64 a, .int .i64 b, .int .i64 c]) (by simp [results, Try.results30, go_sem]) rfl ⟨rfl, by go_grown⟩

end Go.Proofs.Ytalkafjccpijiaa
