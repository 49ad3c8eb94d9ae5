/- Diff: common beginnings: plain model; boundaries of the program and of the reference. -/
import Derived.Test.YtdfkbahlngijcaaDoorTr
namespace Go.Proofs.YtdfkbahlngijcaaDoor
open Go.RowKit
set_option linter.unusedVariables false

/-- a continuation byte -/
def isC (c : UInt8) : Bool := decide (128 ≤ c.toNat) && decide (c.toNat ≤ 191)
/-- a boundary -/
def bnd (s : ByteArray) (i : Nat) : Bool := if h : i < s.size then !isC s[i] else decide (i = s.size)
/-- how long the common beginning is -/
def pre : List UInt8 → List UInt8 → Nat
  | x :: a, y :: b => if x = y then pre a b + 1 else 0
  | [], _ => 0
  | _ :: _, [] => 0
theorem pre_cons (x y : UInt8) (a b : List UInt8) : pre (x :: a) (y :: b) = if x = y then pre a b + 1 else 0 := rfl
theorem pre_le : ∀ a b : List UInt8, pre a b ≤ a.length ∧ pre a b ≤ b.length
  | [], _ => ⟨Nat.le_refl _, Nat.zero_le _⟩
  | _ :: _, [] => ⟨Nat.zero_le _, Nat.le_refl _⟩
  | x :: a, y :: b => by
    have ih := pre_le a b
    rw [pre_cons]
    by_cases h : x = y
    · rw [if_pos h, List.length_cons, List.length_cons]; omega
    · rw [if_neg h]; omega
/-- how far one is: the first j bytes are the same -/
theorem pre_at : ∀ (a b : List UInt8) (j : Nat), j ≤ a.length → j ≤ b.length → a.take j = b.take j → pre a b = j + pre (a.drop j) (b.drop j)
  | a, b, 0, _, _, _ => by simp
  | [], _, j + 1, h, _, _ => by simp at h
  | _ :: _, [], j + 1, _, h, _ => by simp at h
  | x :: a, y :: b, j + 1, h1, h2, h => by
    have h3 : x = y ∧ a.take j = b.take j := by simpa using h
    rw [pre_cons, if_pos h3.1, pre_at a b j (by simpa using h1) (by simpa using h2) h3.2]
    simp
    omega
theorem pre_stop {a b : List UInt8} {j : Nat} (h1 : j < a.length) (h2 : j < b.length) (h : a.take j = b.take j) (hne : a[j] ≠ b[j]) : pre a b = j := by
  rw [pre_at a b j (by omega) (by omega) h, List.drop_eq_getElem_cons h1, List.drop_eq_getElem_cons h2, pre_cons, if_neg hne]
  rfl
theorem pre_end {a b : List UInt8} {j : Nat} (h1 : j ≤ a.length) (h2 : j ≤ b.length) (h : a.take j = b.take j) (he : j = a.length ∨ j = b.length) : pre a b = j := by
  rw [pre_at a b j h1 h2 h]
  rcases he with e | e
  · have d : a.drop j = [] := List.drop_eq_nil_of_le (by omega)
    rw [d]
    cases b.drop j <;> rfl
  · have d : b.drop j = [] := List.drop_eq_nil_of_le (by omega)
    rw [d]
    cases a.drop j <;> rfl
theorem take_same {a b : List UInt8} {j : Nat} (h1 : j < a.length) (h2 : j < b.length) (h : a.take j = b.take j) (he : a[j] = b[j]) : a.take (j + 1) = b.take (j + 1) := by
  rw [List.take_succ_eq_append_getElem h1, List.take_succ_eq_append_getElem h2, h, he]
theorem pre_take : ∀ a b : List UInt8, a.take (pre a b) = b.take (pre a b)
  | [], b => by cases b <;> rfl
  | _ :: _, [] => rfl
  | x :: a, y :: b => by
    rw [pre_cons]
    by_cases h : x = y
    · rw [if_pos h, List.take_succ_cons, List.take_succ_cons, pre_take a b, h]
    · rw [if_neg h]; rfl
/-- the greatest number up to n that f holds of, or 0 -/
def down (f : Nat → Bool) : Nat → Nat
  | 0 => 0
  | n + 1 => if f (n + 1) = true then n + 1 else down f n
theorem down_succ (f : Nat → Bool) (n : Nat) : down f (n + 1) = if f (n + 1) = true then n + 1 else down f n := rfl
theorem down_le (f : Nat → Bool) : ∀ n, down f n ≤ n
  | 0 => Nat.le_refl _
  | n + 1 => by
    rw [down_succ]
    by_cases h : f (n + 1) = true
    · rw [if_pos h]; exact Nat.le_refl _
    · rw [if_neg h]; have := down_le f n; omega
theorem down_yes {f : Nat → Bool} {n : Nat} (h : f n = true) : down f n = n := by
  cases n with
  | zero => rfl
  | succ n => rw [down_succ, if_pos h]
theorem down_no {f : Nat → Bool} {n : Nat} (h : ¬ f (n + 1) = true) : down f (n + 1) = down f n := by rw [down_succ, if_neg h]
theorem down_holds {f : Nat → Bool} (h0 : f 0 = true) : ∀ n, f (down f n) = true
  | 0 => h0
  | n + 1 => by
    rw [down_succ]
    by_cases h : f (n + 1) = true
    · rw [if_pos h]; exact h
    · rw [if_neg h]; exact down_holds h0 n
def bnd2 (a b : ByteArray) (p : Nat) : Bool := bnd a p && bnd b p
def bndS (a b : ByteArray) (k : Nat) : Bool := bnd a (a.size - k) && bnd b (b.size - k)
def comP (a b : ByteArray) : Nat := down (bnd2 a b) (pre a.data.toList b.data.toList)
def comK (a b : ByteArray) : Nat := min (pre a.data.toList.reverse b.data.toList.reverse) (min a.size b.size - comP a b)
def comS (a b : ByteArray) : Nat := down (bndS a b) (comK a b)

set_option maxRecDepth 100000 in
set_option maxHeartbeats 2000000 in
theorem continues_any (c : UInt8) (w : World) : Calls Tryd.prog 129 #[.int .u8 c.toNat] w fun e w' => e = .returned (.bool (isC c)) ∧ w = w' := by
  have hb := u8lt c
  obtain ⟨n, hn⟩ : ∃ n, n = c.toNat := ⟨_, rfl⟩
  have HE := Lib.hid (show isC c = (decide (128 ≤ n) && decide (n ≤ 191)) by rw [hn]; rfl)
  rw [← hn] at hb ⊢
  clear hn
  by_cases h1 : 128 ≤ n
  · have h1' : (128 : Int) ≤ (n : Int) := by omega
    by_cases h2 : n ≤ 191
    · have h2' : (n : Int) ≤ 191 := by omega
      have HV := Lib.hid (show isC c = true by rw [HE.out]; simp [h1, h2])
      clear h1 h2
      go_enter Tryd.func129, Tryd.ntmps129
      go_wp2_with fail
      go_ret
      exact ⟨by rw [HV.out] <;> rfl, rfl⟩
    · have h2' : ¬ ((n : Int) ≤ 191) := by omega
      have h2d := decide_eq_false h2'
      have HV := Lib.hid (show isC c = false by rw [HE.out]; simp [h2])
      clear h1 h2
      go_enter Tryd.func129, Tryd.ntmps129
      go_wp2_with fail
      go_ret
      exact ⟨by rw [HV.out] <;> rfl, rfl⟩
  · have h1' : ¬ ((128 : Int) ≤ (n : Int)) := by omega
    have h1d := decide_eq_false h1'
    have HV := Lib.hid (show isC c = false by rw [HE.out]; simp [h1])
    clear h1
    go_enter Tryd.func129, Tryd.ntmps129
    go_wp2_with fail
    go_ret
    exact ⟨by rw [HV.out] <;> rfl, rfl⟩
set_option maxRecDepth 100000 in
set_option maxHeartbeats 2000000 in
theorem refCont_any (c : UInt8) (w : World) : Calls Tryd.prog 133 #[.int .u8 c.toNat] w fun e w' => e = .returned (.bool (isC c)) ∧ w = w' := by
  have hb := u8lt c
  obtain ⟨n, hn⟩ : ∃ n, n = c.toNat := ⟨_, rfl⟩
  have HE := Lib.hid (show isC c = (decide (128 ≤ n) && decide (n ≤ 191)) by rw [hn]; rfl)
  rw [← hn] at hb ⊢
  clear hn
  by_cases h1 : 128 ≤ n
  · have h1' : (128 : Int) ≤ (n : Int) := by omega
    by_cases h2 : n ≤ 191
    · have h2' : (n : Int) < 192 := by omega
      have HV := Lib.hid (show isC c = true by rw [HE.out]; simp [h1, h2])
      clear h1 h2
      go_enter Tryd.func133, Tryd.ntmps133
      go_wp2_with fail
      go_ret
      exact ⟨by rw [HV.out] <;> rfl, rfl⟩
    · have h2' : ¬ ((n : Int) < 192) := by omega
      have h2d := decide_eq_false h2'
      have HV := Lib.hid (show isC c = false by rw [HE.out]; simp [h2])
      clear h1 h2
      go_enter Tryd.func133, Tryd.ntmps133
      go_wp2_with fail
      go_ret
      exact ⟨by rw [HV.out] <;> rfl, rfl⟩
  · have h1' : ¬ ((128 : Int) ≤ (n : Int)) := by omega
    have h1d := decide_eq_false h1'
    have HV := Lib.hid (show isC c = false by rw [HE.out]; simp [h1])
    clear h1
    go_enter Tryd.func133, Tryd.ntmps133
    go_wp2_with fail
    go_ret
    exact ⟨by rw [HV.out] <;> rfl, rfl⟩

end Go.Proofs.YtdfkbahlngijcaaDoor
