/- Diff: the program's table: its rows in memory. -/
import Derived.Test.YtfbjbgknfdekfaaDoorEl
import Derived.Test.YtfbjbgknfdekfaaDoorEk
namespace Go.Proofs.YtfbjbgknfdekfaaDoor
open Go.RowKit
set_option linter.unusedVariables false

/-- numbers in a block, by a function -/
def tabC (N : Nat) (M : Nat → Nat) : Array Value := ((List.range N).map fun p => Value.int .i64 (M p : Nat)).toArray
def updM (M : Nat → Nat) (p v : Nat) : Nat → Nat := fun q => if q = p then v else M q
theorem tabC_at {N : Nat} (M : Nat → Nat) {p : Nat} (h : p < N) : (tabC N M)[p]? = some (.int .i64 (M p : Nat)) := by
  unfold tabC
  rw [List.getElem?_toArray, List.getElem?_map, List.getElem?_range h]
  rfl
theorem tabC_set {N : Nat} (M : Nat → Nat) {p : Nat} (v : Nat) (h : p < N) : (tabC N M).setIfInBounds p (.int .i64 (v : Nat)) = tabC N (updM M p v) := by
  unfold tabC
  rw [List.setIfInBounds_toArray]
  congr 1
  apply List.ext_getElem?
  intro q
  rw [List.getElem?_set]
  by_cases hq : p = q
  · subst hq
    rw [if_pos rfl, if_pos (by simpa using h), List.getElem?_map, List.getElem?_range h]
    simp [updM]
  · rw [if_neg hq, List.getElem?_map, List.getElem?_map]
    rcases hr : (List.range N)[q]? with _ | z
    · rfl
    · have : z = q := by
        have h1 := List.getElem?_eq_some_iff.1 hr
        obtain ⟨h2, h3⟩ := h1
        rw [List.getElem_range] at h3
        exact h3.symm
      subst this
      simp [updM, Ne.symm hq]
theorem infoInt : (Tryd.prog.info? 3).map (fun i => (i.zero, i.size, i.bytes)) = some (some (.int .i64 0), 1, 8) := by kernel_rfl
theorem infoSl : (Tryd.prog.info? 55).map (fun i => (i.zero, i.size, i.bytes)) = some (some (.slice none 0 0), 1, 24) := by kernel_rfl
theorem made_int (n : Nat) : madeCells (Value.int .i64 0).cells (n * 1) = tabC n (fun _ => 0) := by
  have hv : (Value.int .i64 0).cells = #[Value.int .i64 0] := rfl
  rw [hv, Nat.mul_one]
  apply Array.ext
  · simp [madeCells, tabC]
  · intro i h1 h2
    simp [madeCells, tabC] at h1 ⊢
    rw [Nat.mod_one]
    rfl
theorem mk_ints (n : Nat) (hn : n ≤ 2000000) (w : World) :
    (Instr.makeSlice 55 (.int .i64 n) (.int .i64 n)).run Tryd.prog w = .ok (.slice (some ⟨w.heap.size, 0, none⟩) n n) (w.alloc (.cells (tabC n (fun _ => 0)) 3)) := by
  obtain ⟨i, hi, h1, h2, h3⟩ := info_parts infoInt
  have := run_make (P := Tryd.prog) w 55 3 i (.int .i64 0) Tryd.underlying55 hi h1 .i64 .i64 n n (by omega) (by omega) (by rw [h3]; omega) (by omega)
  rw [this, h2, Int.toNat_natCast, made_int]
/-- the slices of the rows -/
def slR (bA n m : Nat) : List Value := (List.range m).map fun i => Value.slice (some ⟨bA, i * n, none⟩) n n
theorem slR_succ (bA n m : Nat) : slR bA n (m + 1) = slR bA n m ++ [.slice (some ⟨bA, m * n, none⟩) n n] := by
  unfold slR
  rw [List.range_succ, List.map_append]
  rfl

/-- the table is right at the rows from p on, at row p - 1 from q on, and in the last column -/
def TabInv (xs ys : List Ln) (M : Nat → Nat) (p q : Nat) : Prop :=
  ∀ i k, i ≤ xs.length → k ≤ ys.length → (p ≤ i ∨ (i + 1 = p ∧ q ≤ k) ∨ k = ys.length) → M (i * (ys.length + 1) + k) = bst (xs.drop i) (ys.drop k)
theorem inv_start (xs ys : List Ln) : TabInv xs ys (fun _ => 0) xs.length ys.length := by
  intro i k hi hk h
  by_cases e : k = ys.length
  · rw [e, List.drop_length, bst_nil']
  · have : i = xs.length ∨ i + 1 = xs.length ∧ ys.length ≤ k := by omega
    rcases this with e2 | ⟨_, e2⟩
    · rw [e2, List.drop_length, bst_nil]
    · omega
theorem inv_row {xs ys : List Ln} {M : Nat → Nat} {p : Nat} (h : TabInv xs ys M (p + 1) 0) : TabInv xs ys M p ys.length := by
  intro i k hi hk hc
  refine h i k hi hk ?_
  omega
theorem pos_inj {n i k i' k' : Nat} (hk : k < n) (hk' : k' < n) (h : i * n + k = i' * n + k') : i = i' ∧ k = k' := by
  have h1 : (i * n + k) / n = i := by rw [Nat.mul_comm, Nat.mul_add_div (by omega), Nat.div_eq_of_lt hk]; omega
  have h2 : (i' * n + k') / n = i' := by rw [Nat.mul_comm, Nat.mul_add_div (by omega), Nat.div_eq_of_lt hk']; omega
  have e : i = i' := by rw [← h1, ← h2, h]
  subst e
  exact ⟨rfl, by omega⟩
theorem inv_step {xs ys : List Ln} {M M' : Nat → Nat} {i k : Nat} (h : TabInv xs ys M (i + 1) (k + 1)) (hi : i < xs.length) (hk : k < ys.length)
    (hv : M' (i * (ys.length + 1) + k) = bst (xs.drop i) (ys.drop k)) (ho : ∀ q, q ≠ i * (ys.length + 1) + k → M' q = M q) : TabInv xs ys M' (i + 1) k := by
  intro i' k' hi' hk' hc
  by_cases e : i' * (ys.length + 1) + k' = i * (ys.length + 1) + k
  · obtain ⟨e1, e2⟩ := pos_inj (by omega) (by omega) e
    subst e1 e2
    exact hv
  · rw [ho _ e]
    refine h i' k' hi' hk' ?_
    rcases hc with hc | ⟨hc1, hc2⟩ | hc
    · exact .inl hc
    · by_cases e2 : k' = k
      · have : i' = i := by omega
        subst this e2
        exact absurd rfl e
      · exact .inr (.inl ⟨hc1, by omega⟩)
    · exact .inr (.inr hc)
theorem bst_drop {xs ys : List Ln} {i k : Nat} (hi : i < xs.length) (hk : k < ys.length) : bst (xs.drop i) (ys.drop k) = if xs[i] = ys[k] then max (max (bst (xs.drop (i + 1)) (ys.drop k)) (bst (xs.drop i) (ys.drop (k + 1)))) (bst (xs.drop (i + 1)) (ys.drop (k + 1)) + xs[i].length) else max (bst (xs.drop (i + 1)) (ys.drop k)) (bst (xs.drop i) (ys.drop (k + 1))) := by
  have e1 := List.drop_eq_getElem_cons hi
  have e2 := List.drop_eq_getElem_cons hk
  rw [e1, e2, bst_cons]
/-- blocks of another type stay where a row of the call's own grows -/
theorem keep_app {w w1 w' : World} {B k n i : Nat} {t T : TypeId} {v : Value} {xs : List Value} {cs : Array Value} {fr : Nat × Nat} (h : w.ownsRow B t k v n xs) (hx : w.heap[i]? = some (.cells cs T fr)) (ht : t ≠ T) (hg : w1.grownBy w' v.ownBlock) (e : w1.heap[i]? = some (.cells cs T fr)) : w'.heap[i]? = some (.cells cs T fr) := by
  rw [hg.block i (block_lt e) (fun e' => by
    obtain ⟨-, c1, h1⟩ := own_typ1 h e'.symm
    rw [hx] at h1
    injection h1 with h1
    injection h1 with _ h2 _
    exact ht h2.symm)]
  exact e
end Go.Proofs.YtfbjbgknfdekfaaDoor
