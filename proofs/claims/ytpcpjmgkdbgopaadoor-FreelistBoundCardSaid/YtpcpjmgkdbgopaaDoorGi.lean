/- The freelist: plain facts for the partition: the slots of each state; marks. -/
import Derived.Test.YtpcpjmgkdbgopaaDoorGh
namespace Go.Proofs.YtpcpjmgkdbgopaaDoor
open Go.RowKit

theorem free_lt {x : FL} (hf : FInv x) {i : Nat} (h : i < x.m) : freeF x i < x.n ∧ x.st (freeF x i) = 0 := hf.lo _ (by omega)
theorem free_inj {x : FL} (hf : FInv x) {i j : Nat} (hi : i < x.m) (hj : j < x.m) (e : freeF x i = freeF x j) : i = j := by
  have := hf.inj _ _ (show x.m - 1 - i < x.m by omega) (show x.m - 1 - j < x.m by omega) e
  omega
theorem free_all {x : FL} (hf : FInv x) {s : Nat} (hs : s < x.n) (h0 : x.st s = 0) : ∃ i, i < x.m ∧ freeF x i = s := by
  obtain ⟨i, hi, e⟩ := hf.all s hs h0
  exact ⟨x.m - 1 - i, by omega, by unfold freeF; rw [show x.m - 1 - (x.m - 1 - i) = i by omega]; exact e⟩
/-- the slots with the state s, ascending -/
def goF (x : FL) (s i : Nat) : Nat := (slotsTo x s x.n).getD i 0
def goN (x : FL) (s : Nat) : Nat := (slotsTo x s x.n).length
theorem go_lt {x : FL} {s i : Nat} (h : i < goN x s) : goF x s i < x.n ∧ x.st (goF x s i) = s := slots_all h
theorem go_up {x : FL} {s i j : Nat} (hij : i < j) (hj : j < goN x s) : goF x s i < goF x s j := by
  have hp : (slotsTo x s x.n).Pairwise (· < ·) := List.pairwise_lt_range.filter _
  have := List.pairwise_iff_getElem.1 hp i j (by unfold goN at hj; omega) hj hij
  unfold goF
  unfold goN at hj
  rw [List.getD_eq_getElem?_getD, List.getD_eq_getElem?_getD, List.getElem?_eq_getElem hj, List.getElem?_eq_getElem (by omega)]
  exact this
theorem go_inj {x : FL} {s i j : Nat} (hi : i < goN x s) (hj : j < goN x s) (e : goF x s i = goF x s j) : i = j := by
  rcases Nat.lt_trichotomy i j with h | h | h
  · have := go_up h hj; omega
  · exact h
  · have := go_up h hi; omega
theorem go_all {x : FL} {s t : Nat} (ht : t < x.n) (h : x.st t = s) : ∃ i, i < goN x s ∧ goF x s i = t := by
  have hm : t ∈ slotsTo x s x.n := List.mem_filter.2 ⟨List.mem_range.2 ht, decide_eq_true h⟩
  obtain ⟨i, hi, e⟩ := List.getElem_of_mem hm
  refine ⟨i, hi, ?_⟩
  unfold goF
  rw [List.getD_eq_getElem?_getD, List.getElem?_eq_getElem hi]
  exact e

def mark (M : Nat → Bool) (s : Nat) : Nat → Bool := fun t => if t = s then true else M t
def seenV (M : Nat → Bool) (s : Nat) : Value := encI (if M s then 1 else 0)
theorem seen_no {M : Nat → Bool} {s : Nat} (h : M s = false) : seenV M s = .int .i64 0 := by unfold seenV; rw [h]; rfl
theorem seen_yes {M : Nat → Bool} {s : Nat} (h : M s = true) : seenV M s = .int .i64 1 := by unfold seenV; rw [h]; rfl
theorem arr_mark {w : World} {S N : Nat} {M : Nat → Bool} (h : Arr w S 3 N N (seenV M)) {s : Nat} (hs : s < N) : Arr (w.setCell ⟨S, s, none⟩ (.int .i64 1)) S 3 N N (seenV (mark M s)) := by
  refine (h.set hs (.int .i64 1)).congr fun i _ => ?_
  unfold seenV mark
  by_cases e : i = s
  · rw [if_pos e, if_pos e]; rfl
  · rw [if_neg e, if_neg e]
/-- the marks after the first k of a list of slots, A: those marked before -/
def Marks (N : Nat) (M : Nat → Bool) (A : Nat → Prop) (g : Nat → Nat) (k : Nat) : Prop := ∀ s, s < N → (M s = true ↔ A s ∨ ∃ i, i < k ∧ g i = s)
theorem Marks.start {N : Nat} {M : Nat → Bool} {A A' : Nat → Prop} {g g' : Nat → Nat} {k : Nat} (h : Marks N M A g k) (e : ∀ s, s < N → ((A s ∨ ∃ i, i < k ∧ g i = s) ↔ A' s)) : Marks N M A' g' 0 := fun s hs => by
  rw [h s hs, e s hs]
  exact ⟨.inl, fun h => h.elim id fun ⟨i, hi, _⟩ => absurd hi (Nat.not_lt_zero _)⟩
theorem Marks.new {N : Nat} {M : Nat → Bool} {A : Nat → Prop} {g : Nat → Nat} {k : Nat} (h : Marks N M A g k) (hk : g k < N) (ha : ¬ A (g k)) (hi : ∀ i, i < k → g i ≠ g k) : M (g k) = false := by
  cases e : M (g k) with
  | false => rfl
  | true =>
    rcases (h _ hk).1 e with h1 | ⟨i, h1, h2⟩
    · exact absurd h1 ha
    · exact absurd h2 (hi i h1)
theorem Marks.step {N : Nat} {M : Nat → Bool} {A : Nat → Prop} {g : Nat → Nat} {k : Nat} (h : Marks N M A g k) : Marks N (mark M (g k)) A g (k + 1) := fun s hs => by
  unfold mark
  by_cases e : s = g k
  · rw [if_pos e]
    exact ⟨fun _ => .inr ⟨k, Nat.lt_succ_self _, e.symm⟩, fun _ => rfl⟩
  · rw [if_neg e, h s hs]
    constructor
    · rintro (h1 | ⟨i, h1, h2⟩)
      · exact .inl h1
      · exact .inr ⟨i, by omega, h2⟩
    · rintro (h1 | ⟨i, h1, h2⟩)
      · exact .inl h1
      · refine .inr ⟨i, ?_, h2⟩
        have : i ≠ k := fun e2 => e (by rw [← h2, e2])
        omega

/-- only the block S is written -/
def Only (S : Nat) (w w' : World) : Prop := Below S w w' ∧ ∀ q, q < w.heap.size → q ≠ S → w'.heap[q]? = w.heap[q]?
theorem Only.refl (S : Nat) (w : World) : Only S w w := ⟨Below.refl _ _, fun _ _ _ => rfl⟩
theorem Only.set {S : Nat} {w w' : World} (h : Only S w w') (i : Nat) (v : Value) : Only S w (w'.setCell ⟨S, i, none⟩ v) :=
  ⟨h.1.setCell (Nat.le_refl _) v, fun q hq hne => (Below.heap_setCell _ _ _ _ (by show q ≠ S; exact hne)).trans (h.2 q hq hne)⟩
theorem Only.drewN {S : Nat} {w w' : World} (h : Only S w w') (n : Nat) : Only S w (w'.drewN n) := ⟨below_drewN h.1 n, h.2⟩
theorem Only.isL {S : Nat} {w w' : World} {b : LB} {x : FL} (h : IsL w b x) (k : Only S w w') (hb : b.p < S ∧ b.s < S ∧ b.t < S ∧ b.g < S) : IsL w' b x :=
  ⟨(k.2 _ (block_lt h.1) (by omega)).trans h.1, h.2.1.keep (k.2 _ h.2.1.lt (by omega)), h.2.2.1.keep (k.2 _ h.2.2.1.lt (by omega)), h.2.2.2.keep (k.2 _ h.2.2.2.lt (by omega))⟩
theorem Only.arr {S : Nat} {w w' : World} {q : Nat} {t : TypeId} {c m : Nat} {f : Nat → Value} (k : Only S w w') (h : Arr w q t c m f) (hq : S < q) : Arr w' q t c m f := h.keep (k.2 q h.lt (by omega))

theorem nodup_le : ∀ (l m : List Int), l.Nodup → l ⊆ m → l.length ≤ m.length
  | [], _, _, _ => Nat.zero_le _
  | a :: l, m, hn, hs => by
    have hn' := List.nodup_cons.1 hn
    have ha : a ∈ m := hs (List.mem_cons_self)
    have := nodup_le l (m.erase a) hn'.2 (fun y hy => (List.mem_erase_of_ne (fun e => hn'.1 (by rw [← e]; exact hy))).2 (hs (List.mem_cons_of_mem _ hy)))
    rw [List.length_erase_of_mem ha] at this
    have : 0 < m.length := List.length_pos_of_mem ha
    rw [List.length_cons]
    omega
/-- how many of the first j handles live -/
def liveN (x : FL) (hs : List Int) (j : Nat) : Nat := ((hs.take j).filter fun h => decide (liveL x h)).length
theorem liveN_yes {x : FL} {hs : List Int} {j : Nat} (hj : j < hs.length) (h : liveL x (hs.getD j 0)) : liveN x hs (j + 1) = liveN x hs j + 1 := by
  rw [List.getD_eq_getElem?_getD, List.getElem?_eq_getElem hj] at h
  unfold liveN
  rw [List.take_add_one, List.filter_append, List.length_append, List.getElem?_eq_getElem hj]
  simp at h
  simp [h]
theorem liveN_no {x : FL} {hs : List Int} {j : Nat} (hj : j < hs.length) (h : ¬ liveL x (hs.getD j 0)) : liveN x hs (j + 1) = liveN x hs j := by
  rw [List.getD_eq_getElem?_getD, List.getElem?_eq_getElem hj] at h
  unfold liveN
  rw [List.take_add_one, List.filter_append, List.length_append, List.getElem?_eq_getElem hj]
  simp at h
  simp [h]
theorem liveN_all {x : FL} {hs : List Int} (hf : FInv x) (hi : HInv x hs) : liveN x hs hs.length = goN x 1 := by
  unfold liveN goN
  rw [List.take_length]
  have hok : ∀ s, s ∈ slotsTo x 1 x.n → s < x.n ∧ x.st s = 1 := fun s h => ⟨List.mem_range.1 (List.mem_filter.1 h).1, of_decide_eq_true (List.mem_filter.1 h).2⟩
  have n1 : (hs.filter fun h => decide (liveL x h)).Nodup := hi.nd.filter _
  have n2 : ((slotsTo x 1 x.n).map fun s => hMk s (x.gn s)).Nodup := by
    rw [List.nodup_iff_pairwise_ne, List.pairwise_map]
    refine (List.nodup_iff_pairwise_ne.1 ((List.nodup_range (n := x.n)).filter fun i => decide (x.st i = 1))).imp_of_mem ?_
    intro s t hs ht hne e
    exact hne (hMk_inj (mkOK_of hf (hok s hs).1) (mkOK_of hf (hok t ht).1) e).1
  have s1 : (hs.filter fun h => decide (liveL x h)) ⊆ ((slotsTo x 1 x.n).map fun s => hMk s (x.gn s)) := by
    intro h hh
    obtain ⟨h1, h2⟩ := List.mem_filter.1 hh
    have h2 := of_decide_eq_true h2
    obtain ⟨s, g, hm, rfl⟩ := hOK_mk h2.1
    obtain ⟨k1, k2, k3⟩ := (liveL_mk hm).1 h2
    exact List.mem_map.2 ⟨s, List.mem_filter.2 ⟨List.mem_range.2 k1, decide_eq_true k2⟩, by rw [k3]⟩
  have s2 : ((slotsTo x 1 x.n).map fun s => hMk s (x.gn s)) ⊆ (hs.filter fun h => decide (liveL x h)) := by
    intro h hh
    obtain ⟨s, h1, rfl⟩ := List.mem_map.1 hh
    obtain ⟨k1, k2⟩ := hok s h1
    exact List.mem_filter.2 ⟨hi.cur s k1 k2, decide_eq_true ((liveL_mk (mkOK_of hf k1)).2 ⟨k1, k2, rfl⟩)⟩
  have l1 := nodup_le _ _ n1 s1
  have l2 := nodup_le _ _ n2 s2
  rw [List.length_map] at l1 l2
  omega
end Go.Proofs.YtpcpjmgkdbgopaaDoor
