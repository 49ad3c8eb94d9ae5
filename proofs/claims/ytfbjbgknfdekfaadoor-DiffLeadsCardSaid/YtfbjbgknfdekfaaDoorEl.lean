/- Diff: alignments of lines: plain laws: the most that is kept, the least cost; symmetric, triangle, from both ends. -/
import Derived.Test.YtfbjbgknfdekfaaDoorEj
namespace Go.Proofs.YtfbjbgknfdekfaaDoor
set_option linter.unusedVariables false

abbrev Ln := List UInt8
def tot (l : List Ln) : Nat := (l.map List.length).sum
theorem tot_cons (r : Ln) (l : List Ln) : tot (r :: l) = r.length + tot l := by simp [tot]
theorem tot_app (a b : List Ln) : tot (a ++ b) = tot a + tot b := by simp [tot]
theorem tot_flat (l : List Ln) : tot l = l.flatten.length := by simp [tot, List.length_flatten]
/-- a way from one list of lines to another, with its cost -/
inductive Al : List Ln → List Ln → Nat → Prop
  | nil : Al [] [] 0
  | del (r : Ln) {xs ys : List Ln} {c : Nat} : Al xs ys c → Al (r :: xs) ys (c + r.length)
  | ins (q : Ln) {xs ys : List Ln} {c : Nat} : Al xs ys c → Al xs (q :: ys) (c + q.length)
  | keep (r : Ln) {xs ys : List Ln} {c : Nat} : Al xs ys c → Al (r :: xs) (r :: ys) c
theorem Al.cast {xs ys : List Ln} {c d : Nat} (h : Al xs ys c) (e : c = d) : Al xs ys d := e ▸ h
theorem Al.symm {xs ys : List Ln} {c : Nat} (h : Al xs ys c) : Al ys xs c := by
  induction h with
  | nil => exact .nil
  | del r _ ih => exact .ins r ih
  | ins q _ ih => exact .del q ih
  | keep r _ ih => exact .keep r ih
theorem Al.all_del : ∀ xs : List Ln, Al xs [] (tot xs)
  | [] => .nil
  | r :: xs => (Al.del r (Al.all_del xs)).cast (by rw [tot_cons]; omega)
theorem Al.all_ins (ys : List Ln) : Al [] ys (tot ys) := (Al.all_del ys).symm
theorem Al.refl : ∀ xs : List Ln, Al xs xs 0
  | [] => .nil
  | r :: xs => .keep r (Al.refl xs)
/-- how much is kept at most -/
def bst : List Ln → List Ln → Nat
  | [], _ => 0
  | _ :: _, [] => 0
  | r :: xs, q :: ys => if r = q then max (max (bst xs (q :: ys)) (bst (r :: xs) ys)) (bst xs ys + r.length) else max (bst xs (q :: ys)) (bst (r :: xs) ys)
theorem bst_nil (ys : List Ln) : bst [] ys = 0 := by unfold bst; rfl
theorem bst_nil' (xs : List Ln) : bst xs [] = 0 := by cases xs <;> unfold bst <;> rfl
theorem bst_cons (r q : Ln) (xs ys : List Ln) : bst (r :: xs) (q :: ys) = if r = q then max (max (bst xs (q :: ys)) (bst (r :: xs) ys)) (bst xs ys + r.length) else max (bst xs (q :: ys)) (bst (r :: xs) ys) := by
  rw [bst]
theorem bst_del (r : Ln) (xs ys : List Ln) : bst xs ys ≤ bst (r :: xs) ys := by
  cases ys with
  | nil => rw [bst_nil', bst_nil']; exact Nat.le_refl _
  | cons q ys =>
    rw [bst_cons]
    split <;> omega
theorem bst_ins (q : Ln) (xs ys : List Ln) : bst xs ys ≤ bst xs (q :: ys) := by
  cases xs with
  | nil => rw [bst_nil, bst_nil]; exact Nat.le_refl _
  | cons r xs =>
    rw [bst_cons]
    split <;> omega
theorem bst_keep (r : Ln) (xs ys : List Ln) : bst xs ys + r.length ≤ bst (r :: xs) (r :: ys) := by
  rw [bst_cons, if_pos rfl]; omega
theorem al_bst {xs ys : List Ln} {c : Nat} (h : Al xs ys c) : tot xs + tot ys ≤ c + 2 * bst xs ys := by
  induction h with
  | nil => rw [bst_nil]; simp [tot]
  | @del r xs ys c _ ih =>
    have := bst_del r xs ys
    rw [tot_cons]; omega
  | @ins q xs ys c _ ih =>
    have := bst_ins q xs ys
    rw [tot_cons]; omega
  | @keep r xs ys c _ ih =>
    have := bst_keep r xs ys
    rw [tot_cons, tot_cons]; omega
theorem bst_al : ∀ xs ys : List Ln, ∃ c, Al xs ys c ∧ c + 2 * bst xs ys = tot xs + tot ys
  | [], ys => ⟨tot ys, Al.all_ins ys, by rw [bst_nil]; simp [tot]⟩
  | r :: xs, [] => ⟨tot (r :: xs), Al.all_del _, by rw [bst_nil']; simp [tot]⟩
  | r :: xs, q :: ys => by
    obtain ⟨c1, a1, e1⟩ := bst_al xs (q :: ys)
    obtain ⟨c2, a2, e2⟩ := bst_al (r :: xs) ys
    obtain ⟨c3, a3, e3⟩ := bst_al xs ys
    rw [bst_cons]
    rw [tot_cons] at e1 e2
    rw [tot_cons, tot_cons]
    by_cases h : r = q
    · subst h
      rw [if_pos rfl]
      by_cases h1 : bst xs ys + r.length ≥ max (bst xs (r :: ys)) (bst (r :: xs) ys)
      · exact ⟨c3, .keep r a3, by rw [Nat.max_eq_right h1]; omega⟩
      · rw [Nat.max_eq_left (by omega)]
        by_cases h2 : bst (r :: xs) ys ≤ bst xs (r :: ys)
        · exact ⟨_, .del r a1, by rw [Nat.max_eq_left h2]; omega⟩
        · exact ⟨_, .ins r a2, by rw [Nat.max_eq_right (by omega)]; omega⟩
    · rw [if_neg h]
      by_cases h2 : bst (r :: xs) ys ≤ bst xs (q :: ys)
      · exact ⟨_, .del r a1, by rw [Nat.max_eq_left h2]; omega⟩
      · exact ⟨_, .ins q a2, by rw [Nat.max_eq_right (by omega)]; omega⟩
termination_by xs ys => xs.length + ys.length
/-- the least cost -/
def lst (xs ys : List Ln) : Nat := tot xs + tot ys - 2 * bst xs ys
theorem lst_al (xs ys : List Ln) : Al xs ys (lst xs ys) := by
  obtain ⟨c, a, e⟩ := bst_al xs ys
  exact a.cast (by unfold lst; omega)
theorem lst_le {xs ys : List Ln} {c : Nat} (h : Al xs ys c) : lst xs ys ≤ c := by
  have := al_bst h
  unfold lst; omega
theorem bst_two (xs ys : List Ln) : 2 * bst xs ys ≤ tot xs + tot ys := by
  obtain ⟨c, a, e⟩ := bst_al xs ys
  omega
theorem lst_symm (xs ys : List Ln) : lst xs ys = lst ys xs := by
  have h1 := lst_le (lst_al xs ys).symm
  have h2 := lst_le (lst_al ys xs).symm
  omega
theorem lst_most (xs ys : List Ln) : lst xs ys ≤ tot xs + tot ys := by unfold lst; omega
theorem al_trans {xs ys : List Ln} {c1 : Nat} (h : Al xs ys c1) : ∀ {zs : List Ln} {c2 : Nat}, Al ys zs c2 → ∃ c, c ≤ c1 + c2 ∧ Al xs zs c := by
  induction h with
  | nil => exact fun {zs c2} k => ⟨c2, by omega, k⟩
  | @del r xs ys c _ ih =>
    intro zs c2 k
    obtain ⟨d, hd, a⟩ := ih k
    exact ⟨_, by omega, .del r a⟩
  | @ins q xs ys c a0 ih =>
    intro zs c2 k
    generalize hq : q :: ys = qs at k
    induction k with
    | nil => cases hq
    | @del r us vs d k2 _ =>
      injection hq with e1 e2
      subst e1 e2
      obtain ⟨d', hd, a⟩ := ih k2
      exact ⟨d', by omega, a⟩
    | @ins z us vs d k2 ih2 =>
      obtain ⟨d', hd, a⟩ := ih2 hq
      exact ⟨_, by omega, .ins z a⟩
    | @keep r us vs d k2 _ =>
      injection hq with e1 e2
      subst e1 e2
      obtain ⟨d', hd, a⟩ := ih k2
      exact ⟨_, by omega, .ins q a⟩
  | @keep r xs ys c a0 ih =>
    intro zs c2 k
    generalize hq : r :: ys = qs at k
    induction k with
    | nil => cases hq
    | @del r' us vs d k2 _ =>
      injection hq with e1 e2
      subst e1 e2
      obtain ⟨d', hd, a⟩ := ih k2
      exact ⟨_, by omega, .del r a⟩
    | @ins z us vs d k2 ih2 =>
      obtain ⟨d', hd, a⟩ := ih2 hq
      exact ⟨_, by omega, .ins z a⟩
    | @keep r' us vs d k2 _ =>
      injection hq with e1 e2
      subst e1 e2
      obtain ⟨d', hd, a⟩ := ih k2
      exact ⟨_, by omega, .keep r a⟩
theorem lst_trans (xs ys zs : List Ln) : lst xs zs ≤ lst xs ys + lst ys zs := by
  obtain ⟨c, hc, a⟩ := al_trans (lst_al xs ys) (lst_al ys zs)
  have := lst_le a
  omega
theorem al_zero {xs ys : List Ln} {c : Nat} (h : Al xs ys c) (hx : ∀ r ∈ xs, r ≠ []) (hy : ∀ r ∈ ys, r ≠ []) (hc : c = 0) : xs = ys := by
  induction h with
  | nil => rfl
  | @del r xs ys c _ _ =>
    have := List.length_pos_iff.2 (hx r (List.mem_cons_self ..))
    omega
  | @ins q xs ys c _ _ =>
    have := List.length_pos_iff.2 (hy q (List.mem_cons_self ..))
    omega
  | @keep r xs ys c _ ih =>
    rw [ih (fun s hs => hx s (List.mem_cons_of_mem _ hs)) (fun s hs => hy s (List.mem_cons_of_mem _ hs)) hc]
theorem lst_zero {xs ys : List Ln} (hx : ∀ r ∈ xs, r ≠ []) (hy : ∀ r ∈ ys, r ≠ []) : lst xs ys = 0 ↔ xs = ys := by
  constructor
  · exact fun h => al_zero (lst_al xs ys) hx hy h
  · rintro rfl
    have := lst_le (Al.refl xs)
    omega
/-- ways behind one another -/
theorem Al.app {xs ys us vs : List Ln} {c d : Nat} (h : Al xs ys c) (k : Al us vs d) : Al (xs ++ us) (ys ++ vs) (c + d) := by
  induction h with
  | nil => exact k.cast (by omega)
  | del r _ ih => exact (Al.del r ih).cast (by omega)
  | ins q _ ih => exact (Al.ins q ih).cast (by omega)
  | keep r _ ih => exact (Al.keep r ih).cast (by omega)
theorem Al.rev {xs ys : List Ln} {c : Nat} (h : Al xs ys c) : Al xs.reverse ys.reverse c := by
  induction h with
  | nil => exact .nil
  | del r _ ih =>
    rw [List.reverse_cons]
    have := ih.app (Al.del r .nil)
    rw [List.append_nil] at this
    exact this.cast (by omega)
  | ins q _ ih =>
    rw [List.reverse_cons]
    have := ih.app (Al.ins q .nil)
    rw [List.append_nil] at this
    exact this.cast (by omega)
  | keep r _ ih =>
    rw [List.reverse_cons, List.reverse_cons]
    exact (ih.app (Al.keep r .nil)).cast (by omega)
theorem lst_rev (xs ys : List Ln) : lst xs.reverse ys.reverse = lst xs ys := by
  have h1 := lst_le (lst_al xs ys).rev
  have h2 := (lst_al xs.reverse ys.reverse).rev
  rw [List.reverse_reverse, List.reverse_reverse] at h2
  have := lst_le h2
  omega
theorem lst_cons (r q : Ln) (xs ys : List Ln) : lst (r :: xs) (q :: ys) = if r = q then min (min (lst xs (q :: ys) + r.length) (lst (r :: xs) ys + q.length)) (lst xs ys) else min (lst xs (q :: ys) + r.length) (lst (r :: xs) ys + q.length) := by
  have b1 := bst_two xs (q :: ys)
  have b2 := bst_two (r :: xs) ys
  have b3 := bst_two xs ys
  unfold lst
  rw [bst_cons]
  rw [tot_cons] at b1 b2
  rw [tot_cons, tot_cons]
  by_cases h : r = q
  · subst h
    rw [if_pos rfl, if_pos rfl]
    omega
  · rw [if_neg h, if_neg h]
    omega
/-- the same from the end -/
theorem lst_snoc (r q : Ln) (xs ys : List Ln) : lst (xs ++ [r]) (ys ++ [q]) = if r = q then min (min (lst xs (ys ++ [q]) + r.length) (lst (xs ++ [r]) ys + q.length)) (lst xs ys) else min (lst xs (ys ++ [q]) + r.length) (lst (xs ++ [r]) ys + q.length) := by
  have h := lst_cons r q xs.reverse ys.reverse
  have e1 : r :: xs.reverse = (xs ++ [r]).reverse := by simp
  have e2 : q :: ys.reverse = (ys ++ [q]).reverse := by simp
  rw [e1, e2, lst_rev, lst_rev, lst_rev, lst_rev] at h
  exact h
theorem lst_nil (ys : List Ln) : lst [] ys = tot ys := by
  unfold lst
  rw [bst_nil]
  simp [tot]
theorem lst_nil' (xs : List Ln) : lst xs [] = tot xs := by rw [lst_symm, lst_nil]
end Go.Proofs.YtfbjbgknfdekfaaDoor
