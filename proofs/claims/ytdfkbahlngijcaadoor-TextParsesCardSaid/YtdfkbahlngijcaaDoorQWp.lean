/- Text: Parse and Format: each inverts the other: plain. (printed by slim.py.) -/
import Derived.Test.YtdfkbahlngijcaaDoorQWc
namespace Go.Proofs.YtdfkbahlngijcaaDoor
open Go.RowKit
set_option linter.unusedVariables false

theorem segs_cons (c : UInt8) (l : List UInt8) : segs (c :: l) = if c = 10 then [10] :: segs l else match segs l with
    | [] => [[c]]
    | x :: r => (c :: x) :: r := rfl
/-- a line and what comes behind it -/
theorem segs_line : ∀ (l r : List UInt8), (∀ c ∈ l, c ≠ 10) → segs (l ++ 10 :: r) = (l ++ [10]) :: segs r
  | [], r, _ => by show segs (10 :: r) = _; rw [segs_cons, if_pos rfl]; rfl
  | c :: l, r, h => by
    show segs (c :: (l ++ 10 :: r)) = _
    rw [segs_cons, if_neg (h c (List.mem_cons_self ..)), segs_line l r fun d hd => h d (List.mem_cons_of_mem _ hd)]
    rfl
theorem segs_ne : ∀ l : List UInt8, segs l ≠ []
  | [] => by decide
  | c :: l => by
    rw [segs_cons]
    split
    · simp
    · split <;> simp
theorem segs_flat : ∀ l : List UInt8, (segs l).flatten = l
  | [] => rfl
  | c :: l => by
    have ih := segs_flat l
    rw [segs_cons]
    split
    · rename_i h; subst h
      rw [List.flatten_cons, ih]; rfl
    · rcases h : segs l with _ | ⟨x, r⟩
      · exact absurd h (segs_ne l)
      · rw [h] at ih
        show (c :: x) ++ r.flatten = c :: l
        rw [← ih]; rfl
theorem stepP_line (x : Rd) (n : Nat) (l : List UInt8) : stepP x n (l ++ [10]) = if n = 0 then (cfgP (splitW l)).map (fun c => { x with c := c }) else lineP x l := by
  unfold stepP
  rw [if_pos (by simp), List.dropLast_concat]
theorem fold_line (x : Rd) (n : Nat) (l r : List UInt8) (h : ∀ c ∈ l, c ≠ 10) : foldP x n (segs (l ++ 10 :: r)) = match (if n = 0 then (cfgP (splitW l)).map (fun c => { x with c := c }) else lineP x l) with
    | some y => foldP y (n + 1) (segs r)
    | none => (x, n + 1, false) := by
  rw [segs_line l r h]
  show (if l ++ [10] = [] then _ else match stepP x n (l ++ [10]) with | some y => foldP y (n + 1) (segs r) | none => (x, n + 1, false)) = _
  rw [if_neg (by simp), stepP_line]
theorem pl9 {α : Type} (l : List α) (h : l.length = 9) : ∃ a b c d e f g i j, l = [a, b, c, d, e, f, g, i, j] := by
  match l, h with
  | [a, b, c, d, e, f, g, i, j], _ => exact ⟨a, b, c, d, e, f, g, i, j, rfl⟩
theorem pl7 {α : Type} (l : List α) (h : l.length = 7) : ∃ a b c d e f g, l = [a, b, c, d, e, f, g] := by
  match l, h with
  | [a, b, c, d, e, f, g], _ => exact ⟨a, b, c, d, e, f, g, rfl⟩
theorem pl2 {α : Type} (l : List α) (h : l.length = 2) : ∃ a b, l = [a, b] := by
  match l, h with
  | [a, b], _ => exact ⟨a, b, rfl⟩
theorem pl3 {α : Type} (l : List α) (h : l.length = 3) : ∃ a b c, l = [a, b, c] := by
  match l, h with
  | [a, b, c], _ => exact ⟨a, b, c, rfl⟩
theorem cfgP_some {ws : List (List UInt8)} {c : Cf} (h : cfgP ws = some c) : ws = cfgW c := by
  unfold cfgP at h
  split at h
  · rename_i hc
    obtain ⟨w0, w1, w2, w3, w4, w5, w6, w7, w8, rfl⟩ := pl9 ws hc.1
    have h0 : w0 = cfgN := hc.2
    subst h0
    split at h
    · rename_i l hl
      have hll := numsW_words hl
      obtain ⟨a0, a1, a2, a3, a4, a5, a6, rfl⟩ := pl7 l (numsW_len hl)
      split at h
      · rename_i t ht
        injection h with h
        subst h
        have e1 : [numL a0, numL a1, numL a2, numL a3, numL a4, numL a5, numL a6] = [w1, w2, w3, w4, w5, w6, w7] := hll
        have e2 : quoteL ⟨t.toArray⟩ = w8 := unqL_some ht
        show [cfgN, w1, w2, w3, w4, w5, w6, w7, w8] = [cfgN] ++ [numL a0, numL a1, numL a2, numL a3, numL a4, numL a5, numL a6] ++ [quoteL ⟨t.toArray⟩]
        rw [e1, e2]
        rfl
      · cases h
    · cases h
  · cases h
theorem clientP_some {x y : Rd} {ws : List (List UInt8)} (h : clientP x ws = some y) : ws = clientW x.ss.length ∧ y = { x with ss := x.ss ++ [[]] } ∧ x.last < 0 := by
  unfold clientP at h
  split at h
  · rename_i hc
    obtain ⟨a, b, rfl⟩ := pl2 ws hc.1
    have h0 : a = clientN := hc.2.1
    subst h0
    split at h
    · rename_i n hn
      split at h
      · rename_i hnl
        injection h with h
        refine ⟨?_, h.symm, hc.2.2⟩
        have e : numL (n : Int) = b := numL_numW hn
        show [clientN, b] = [clientN, numL x.ss.length]
        rw [← e, hnl]
      · cases h
    · cases h
  · cases h
theorem addLast_snoc : ∀ (A : List (List Ov)) (m : List Ov) (o : Ov), addLast (A ++ [m]) o = A ++ [m ++ [o]]
  | [], m, o => rfl
  | [a], m, o => rfl
  | a :: b :: A, m, o => by
    show a :: addLast (b :: A ++ [m]) o = _
    rw [addLast_snoc (b :: A) m o]
    rfl
theorem pickP_some {x y : Rd} {ws : List (List UInt8)} (h : pickP x ws = some y) : ∃ q n, ws = pickW q n ∧ 1 ≤ n ∧ q ≠ x.last ∧ numOK q ∧ y = { x with ps := x.ps ++ List.replicate n q, last := q } := by
  unfold pickP at h
  split at h
  · rename_i hc
    obtain ⟨a, b, d, rfl⟩ := pl3 ws hc.1
    have h0 : a = pickN := hc.2
    subst h0
    split at h
    · rename_i l hl
      have hll := numsW_words hl
      have hok := numsW_ok hl
      obtain ⟨q, m, rfl⟩ := pl2 l (numsW_len hl)
      split at h
      · rename_i hcc
        injection h with h
        have h1 : 1 ≤ m := hcc.1
        have e1 : [numL q, numL m] = [b, d] := hll
        refine ⟨q, m.toNat, ?_, by omega, hcc.2.1, hok q (by simp), h.symm⟩
        show [pickN, b, d] = [pickN] ++ [numL q, numL ((m.toNat : Nat) : Int)]
        rw [show ((m.toNat : Nat) : Int) = m by omega, e1]
        rfl
      · cases h
    · cases h
  · cases h
end Go.Proofs.YtdfkbahlngijcaaDoor

