/- Arguments opened: slices whose elements are rows of cells; structs; what the reach says of their parts. General. -/
import Derived.Test.YtfbjbgknfdekfaaDoorRow
import Derived.ProofKit
import Derived.OpenShut
import Derived.SizedLaws
import Derived.Deep.Slices
namespace Go.Proofs.YtfbjbgknfdekfaaDoor
open Go.ChangeShapes Go.WideShapes Go.ChangeAt Go.RowKit Go.Deep

theorem list_of {α : Type} : ∀ (n : Nat) (p : Nat → α → Prop), (∀ i, i < n → ∃ x, p i x) → ∃ l : List α, l.length = n ∧ ∀ i (h : i < l.length), p i l[i]
  | 0, _, _ => ⟨[], rfl, fun i h => by simp at h⟩
  | n + 1, p, h => by
    obtain ⟨l, h1, h2⟩ := list_of n p (fun i hi => h i (by omega))
    obtain ⟨x, hx⟩ := h n (by omega)
    refine ⟨l ++ [x], by simp [h1], fun i hi => ?_⟩
    by_cases e : i < l.length
    · rw [List.getElem_append_left e]; exact h2 i e
    · simp at hi
      have : i = l.length := by omega
      subst this
      simp
      rw [h1]; exact hx

section
variable {H : Type} {enc : TypeId × Value → H} {P : Program} {w : World} {base : Nat} {spare : Nat → Bool} {held : Bool}

/-- the weights of a datum are within the reach -/
def Light (P : Program) (t : TypeId) (d : DataW H) : Prop := ∀ n ∈ d.weights P t, n ≤ reachBytes

theorem light_of {ts : List TypeId} {ds : List (DataW H)} (h : (DataW.weightsEach P ts ds).all (· ≤ reachBytes) = true) {j : Nat} {t : TypeId} {d : DataW H} (ht : ts[j]? = some t) (hd : ds[j]? = some d) : Light P t d :=
  fun n hn => by simpa using List.all_eq_true.1 h n (DataW.weights_mem_each ht hd n hn)

theorem light_field {t : TypeId} {fs : Array Field} {parts : List (DataW H)} (hu : P.underlying t = some (.struct fs)) (h : Light P t (.agg parts)) {j : Nat} {f : Field} {d : DataW H} (hf : fs[j]? = some f) (hd : parts[j]? = some d) : Light P f.type d := by
  intro n hn
  refine h n ?_
  simp only [DataW.weights, hu]
  exact DataW.weights_mem_each (j := j) (by simp [hf]) hd n hn

theorem weightsAll_mem {e : TypeId} : ∀ {l : List (DataW H)} {d : DataW H}, d ∈ l → ∀ n ∈ d.weights P e, n ∈ DataW.weightsAll P e l
  | x :: l, d, h, n, hn => by
    rw [DataW.weightsAll]
    rcases List.mem_cons.1 h with e | e
    · subst e; exact List.mem_append_left _ hn
    · exact List.mem_append_right _ (weightsAll_mem e n hn)

theorem light_elem {t e : TypeId} {elems sp : List (DataW H)} (hu : P.underlying t = some (.slice e)) (h : Light P t (.slice elems sp)) {d : DataW H} (hd : d ∈ elems) : Light P e d := by
  intro n hn
  refine h n ?_
  simp only [DataW.weights, hu]
  exact List.mem_cons_of_mem _ (List.mem_append_left _ (weightsAll_mem hd n hn))

theorem light_len {t e : TypeId} {elems sp : List (DataW H)} (hu : P.underlying t = some (.slice e)) (h : Light P t (.slice elems sp)) : elems.length * P.bytesOf e ≤ reachBytes := by
  refine Nat.le_trans (Nat.mul_le_mul_right _ (Nat.le_add_right _ sp.length)) (h _ ?_)
  simp only [DataW.weights, hu]
  exact List.mem_cons_self

theorem light_string {t : TypeId} {bs : List UInt8} (h : Light P t (.lit (.string bs) : DataW H)) : bs.length ≤ reachBytes := by
  refine h _ ?_
  simp [DataW.weights]

/-- A slice whose elements are read by 'f': opened. -/
theorem open_rows {α : Type} {f : α → List Value} {φ : α → DataW H → Prop} {t e : TypeId} {s : Nat} (hu : P.underlying t = some (.slice e)) (hs : P.cellsOf e = s) (hpos : 0 < s) (hf : ∀ x, (f x).length = s)
    (hel : ∀ fuel cs x, DataW.trod enc P w base spare held fuel e cs = some x → ∃ a, cs = f a ∧ φ a x.1) {fuel : Nat} {v : Value} {x : DataW H × List MemPlace}
    (h : DataW.trod enc P w base spare held fuel t [v] = some x) :
    ∃ (ao : Option Addr) (len cap : Nat) (l : List α), v = .slice ao len cap ∧ IsR f w ao len l ∧ len ≤ cap ∧ cap ≤ maxLen ∧ (ao = none → cap = 0) ∧
      (∀ a ∈ l, ∃ y, φ a y ∧ (Light P t x.1 → Light P e y)) ∧ (Light P t x.1 → len * P.bytesOf e ≤ reachBytes) := by
  rcases open_slice hu h with ⟨hcs, rfl⟩ | ⟨a, len, cap, m, n, D, Pl, hcs, hb, hl, hm, hmm, rfl, hi⟩
  · simp at hcs
    subst hcs
    exact ⟨none, 0, 0, [], rfl, IsR.nil f w none, Nat.le_refl _, Nat.zero_le _, fun _ => rfl, by simp, fun _ => by simp⟩
  · simp at hcs
    subst hcs
    have hle : len ≤ m := by rw [hmm]; split <;> omega
    have key : ∀ i, i < len → ∃ q : α, (∀ j u, (f q)[j]? = some u → w.cell? (a.add (i * s + j)) = some u) ∧ φ q (D i) := by
      intro i hil
      obtain ⟨cs', hc, ht'⟩ := hi i (by omega)
      rw [hs] at hc
      obtain ⟨q, rfl, hφ⟩ := hel _ _ _ ht'
      obtain ⟨_, _, hat⟩ := World.cells?_some hc
      refine ⟨q, fun j u hj => ?_, hφ⟩
      have hj' : j < s := by
        have := (List.getElem?_eq_some_iff.1 hj).1
        rw [hf] at this; exact this
      have := hat j hj'
      rw [Go.Deep.add_add] at this
      rw [this, hj]
    obtain ⟨l, hll, hlc⟩ := list_of len _ key
    refine ⟨some a, len, cap, l, rfl, ⟨hll, fun hpos' => ?_⟩, hl, hm, (fun h => by cases h), fun q hq => ?_, fun hL => ?_⟩
    · obtain ⟨b, off, spot⟩ := a
      have hfirst : ∀ i (h : i < l.length), ∃ u, (f l[i])[0]? = some u := fun i h => ⟨_, List.getElem?_eq_getElem (by rw [hf]; exact hpos)⟩
      obtain ⟨u0, hu0⟩ := hfirst 0 (by omega)
      have hc0 := (hlc 0 (by omega)).1 0 u0 hu0
      have hspot : spot = none := by
        have := hc0
        simp [Addr.add] at this
        exact World.cell?_spot this
      subst hspot
      refine ⟨b, off, rfl, ?_, fun j u hj => ?_⟩
      · rcases Nat.lt_or_ge b w.heap.size with hb | hb
        · exact hb
        · simp [Addr.add, World.cell?, Array.getElem?_eq_none hb] at hc0
      · have hlen := (List.getElem?_eq_some_iff.1 hj).1
        rw [flatR_len hf] at hlen
        have hk : j / s < l.length := by rw [Nat.div_lt_iff_lt_mul hpos]; exact hlen
        have ej : j / s * s + j % s = j := by rw [Nat.mul_comm]; exact Nat.div_add_mod j s
        have hm' : j % s < s := Nat.mod_lt _ hpos
        have hj2 := flatR_at hf l (j / s) (j % s) hk hm'
        rw [ej, hj] at hj2
        have := (hlc (j / s) hk).1 (j % s) u hj2.symm
        rw [ej, add_to] at this
        exact this
    · obtain ⟨i, hi', rfl⟩ := List.getElem_of_mem hq
      refine ⟨D i, (hlc i hi').2, fun hL => light_elem hu hL ?_⟩
      exact List.mem_map.2 ⟨i, List.mem_range.2 (by omega), rfl⟩
    · have := light_len hu hL
      simpa using this
end

theorem IsR.mem {α : Type} {f : α → List Value} {w : World} {a : Option Addr} {n : Nat} {l : List α} (h : IsR f w a n l) : l.length = n := h.1
/-- element k of the row: its cells -/
theorem IsR.at {α : Type} {f : α → List Value} {s : Nat} (hf : ∀ x, (f x).length = s) {w : World} {l : List α} {b off : Nat} (h : ∀ j u, (flatR f l)[j]? = some u → w.cell? ⟨b, off + j, none⟩ = some u) (k : Nat) (hk : k < l.length) (i : Nat) (u : Value) (hi : (f l[k])[i]? = some u) : w.cell? ⟨b, off + k * s + i, none⟩ = some u := by
  have hi' : i < s := by
    have := (List.getElem?_eq_some_iff.1 hi).1
    rw [hf] at this; exact this
  have := h (k * s + i) u (by rw [flatR_at hf l k i hk hi']; exact hi)
  rw [← Nat.add_assoc] at this
  exact this
end Go.Proofs.YtfbjbgknfdekfaaDoor
