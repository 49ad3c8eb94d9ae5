/- Diff: the lines of a string: plain law of SplitAfter; its walk; the program's lines. -/
import Derived.Test.YtfbjbgknfdekfaaDoorEi
import Derived.Test.YtfbjbgknfdekfaaDoorLsp
namespace Go.Proofs.YtfbjbgknfdekfaaDoor
open Go.RowKit
set_option linter.unusedVariables false

/-- the lines -/
def rowsL : List UInt8 → List (List UInt8)
  | [] => []
  | c :: l => if c = 10 then [10] :: rowsL l else match rowsL l with
    | [] => [[c]]
    | r :: rs => (c :: r) :: rs
/-- the pieces of SplitAfter -/
def saL : List UInt8 → List (List UInt8)
  | [] => [[]]
  | c :: l => if c = 10 then [10] :: saL l else match saL l with
    | [] => [[c]]
    | r :: rs => (c :: r) :: rs
theorem rowsL_cons (c : UInt8) (l : List UInt8) : rowsL (c :: l) = if c = 10 then [10] :: rowsL l else match rowsL l with
    | [] => [[c]]
    | r :: rs => (c :: r) :: rs := rfl
theorem saL_cons (c : UInt8) (l : List UInt8) : saL (c :: l) = if c = 10 then [10] :: saL l else match saL l with
    | [] => [[c]]
    | r :: rs => (c :: r) :: rs := rfl
theorem saL_ne : ∀ l, saL l ≠ []
  | [] => by simp [saL]
  | c :: l => by
    rw [saL_cons]
    by_cases h : c = 10
    · rw [if_pos h]; simp
    · rw [if_neg h]
      rcases hh : saL l with _ | ⟨r, rs⟩ <;> simp
theorem rowsL_ne : ∀ l, ∀ r ∈ rowsL l, r ≠ []
  | [], r, h => absurd h List.not_mem_nil
  | c :: l, r, h => by
    have ih := rowsL_ne l
    rw [rowsL_cons] at h
    by_cases h1 : c = 10
    · rw [if_pos h1] at h
      rcases List.mem_cons.1 h with rfl | h
      · simp
      · exact ih r h
    · rw [if_neg h1] at h
      rcases hh : rowsL l with _ | ⟨x, xs⟩
      · rw [hh] at h
        rw [List.mem_singleton] at h
        subst h; simp
      · rw [hh] at h ih
        rcases List.mem_cons.1 h with rfl | h
        · simp
        · exact ih r (List.mem_cons_of_mem _ h)
/-- the pieces are the lines, and an empty one behind them if the last line ends -/
theorem sa_rows : ∀ l, saL l = rowsL l ++ [[]] ∨ (saL l = rowsL l ∧ rowsL l ≠ [])
  | [] => .inl rfl
  | c :: l => by
    rw [saL_cons, rowsL_cons]
    by_cases h : c = 10
    · rw [if_pos h, if_pos h]
      rcases sa_rows l with e | ⟨e, e2⟩
      · exact .inl (by rw [e]; rfl)
      · exact .inr ⟨by rw [e], by simp⟩
    · rw [if_neg h, if_neg h]
      rcases sa_rows l with e | ⟨e, e2⟩
      · rcases hr : rowsL l with _ | ⟨r, rs⟩
        · rw [e, hr]
          exact .inr ⟨rfl, by simp⟩
        · rw [e, hr]
          exact .inl rfl
      · rw [e]
        rcases hr : rowsL l with _ | ⟨r, rs⟩
        · exact absurd hr e2
        · exact .inr ⟨rfl, by simp⟩
theorem rows_join : ∀ l, (rowsL l).flatten = l
  | [] => rfl
  | c :: l => by
    have ih := rows_join l
    rw [rowsL_cons]
    by_cases h : c = 10
    · rw [if_pos h, List.flatten_cons, ih, h]; rfl
    · rw [if_neg h]
      rcases hr : rowsL l with _ | ⟨r, rs⟩
      · rw [hr] at ih
        have : l = [] := ih.symm
        rw [this]; rfl
      · rw [hr] at ih
        show (c :: r) ++ rs.flatten = c :: l
        rw [← ih]; rfl
theorem splitK_cons {c : UInt8} (h : c ≠ 10) (k : Nat) (l : List UInt8) : Lib.splitK [10] 1 k (c :: l) = match Lib.splitK [10] 1 k l with
    | [] => [[c]]
    | r :: rs => (c :: r) :: rs := by
  cases k with
  | zero => rfl
  | succ k =>
    have hi : Lib.index (c :: l) [10] = if Lib.index l [10] == -1 then -1 else Lib.index l [10] + 1 := by
      show (if ([10] : List UInt8).isPrefixOf (c :: l) then (0 : Int) else if Lib.index l [10] == -1 then -1 else Lib.index l [10] + 1) = _
      rw [if_neg (by simp [List.isPrefixOf]; exact fun e => h e.symm)]
    have hg := Lib.index_ge l [10]
    unfold Lib.splitK
    rw [hi]
    by_cases hm : Lib.index l [10] = -1
    · rw [hm]; rfl
    · obtain ⟨i, hi2⟩ : ∃ i : Nat, Lib.index l [10] = i := ⟨(Lib.index l [10]).toNat, by omega⟩
      have e1 : (((i : Int)) == -1) = false := by rw [beq_eq_false_iff_ne]; omega
      have e2 : (((i : Int) + 1) == -1) = false := by rw [beq_eq_false_iff_ne]; omega
      have e3 : ((i : Int) + 1).toNat = i + 1 := by omega
      rw [hi2, e1]
      simp only [Bool.false_eq_true, if_false, e2, e3, Int.toNat_natCast]
      rfl
theorem splitK_sa : ∀ l : List UInt8, Lib.splitK [10] 1 (l.count 10) l = saL l
  | [] => rfl
  | c :: l => by
    have ih := splitK_sa l
    by_cases h : c = 10
    · subst h
      rw [List.count_cons_self, saL_cons, if_pos rfl, ← ih]
      have hi : Lib.index (10 :: l) [10] = 0 := by
        show (if ([10] : List UInt8).isPrefixOf (10 :: l) then (0 : Int) else _) = 0
        rw [if_pos (by simp [List.isPrefixOf])]
      conv => lhs; unfold Lib.splitK
      rw [hi]
      rfl
    · rw [List.count_cons_of_ne h, saL_cons, if_neg h, splitK_cons h, ih]
end Go.Proofs.YtfbjbgknfdekfaaDoor
