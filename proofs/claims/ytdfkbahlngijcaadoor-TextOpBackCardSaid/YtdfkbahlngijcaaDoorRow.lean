/- Slices whose elements lie in memory as rows of cells: general. -/
import Derived.Test.YtdfkbahlngijcaaDoorLibB
import Derived.Laws.AppendOwn
import Derived.Laws.AppendOwnNone
namespace Go.Proofs.YtdfkbahlngijcaaDoor
open Go.RowKit

theorem add_to (b off k : Nat) : (⟨b, off, none⟩ : Addr).add k = ⟨b, off + k, none⟩ := by
  simp [Addr.add]

/-- the cells of a row of elements -/
def flatR {α : Type} (f : α → List Value) (l : List α) : List Value := l.flatMap f
theorem flatR_len {α : Type} {f : α → List Value} {s : Nat} (hf : ∀ x, (f x).length = s) : ∀ l : List α, (flatR f l).length = l.length * s
  | [] => by simp [flatR]
  | x :: l => by
    have := flatR_len hf l
    unfold flatR at this ⊢
    rw [List.flatMap_cons, List.length_append, this, hf, List.length_cons, Nat.add_mul]
    omega
theorem flatR_at {α : Type} {f : α → List Value} {s : Nat} (hf : ∀ x, (f x).length = s) : ∀ (l : List α) (k i : Nat) (h : k < l.length), i < s → (flatR f l)[k * s + i]? = (f l[k])[i]?
  | [], k, i, h, _ => absurd h (Nat.not_lt_zero _)
  | x :: l, 0, i, _, hi => by
    unfold flatR
    rw [List.flatMap_cons, Nat.zero_mul, Nat.zero_add, List.getElem?_append_left (by rw [hf]; exact hi)]
    rfl
  | x :: l, k + 1, i, h, hi => by
    have := flatR_at hf l k i (by simpa using h) hi
    unfold flatR at this ⊢
    rw [List.flatMap_cons, List.getElem?_append_right (by rw [hf, Nat.add_mul]; omega), hf]
    rw [show (k + 1) * s + i - s = k * s + i by rw [Nat.add_mul]; omega, this]
    rfl
theorem flatR_app {α : Type} (f : α → List Value) (l m : List α) : flatR f (l ++ m) = flatR f l ++ flatR f m := by unfold flatR; exact List.flatMap_append
theorem flatR_one {α : Type} (f : α → List Value) (x : α) : flatR f [x] = f x := by simp [flatR]
theorem flatR_all {α : Type} {f : α → List Value} {p : Value → Prop} (hf : ∀ x, ∀ u ∈ f x, p u) (l : List α) : ∀ u ∈ flatR f l, p u := by
  intro u hu
  unfold flatR at hu
  rw [List.mem_flatMap] at hu
  obtain ⟨x, _, h⟩ := hu
  exact hf x u h

/-- the slice value (a, n) reads as the elements l -/
def IsR {α : Type} (f : α → List Value) (w : World) (a : Option Addr) (n : Nat) (l : List α) : Prop :=
  l.length = n ∧ (0 < n → ∃ b off, a = some ⟨b, off, none⟩ ∧ b < w.heap.size ∧ ∀ j u, (flatR f l)[j]? = some u → w.cell? ⟨b, off + j, none⟩ = some u)

theorem IsR.nil {α : Type} (f : α → List Value) (w : World) (a : Option Addr) : IsR f w a 0 [] := ⟨rfl, fun h => absurd h (Nat.lt_irrefl _)⟩
theorem IsR.later {α : Type} {f : α → List Value} {w w' : World} {a : Option Addr} {n : Nat} {l : List α} (h : IsR f w a n l) (hb : Below w.heap.size w w') : IsR f w' a n l := by
  obtain ⟨h1, h2⟩ := h
  refine ⟨h1, fun hn => ?_⟩
  obtain ⟨b, off, e, hlt, h3⟩ := h2 hn
  exact ⟨b, off, e, Nat.lt_of_lt_of_le hlt hb.size, fun j u hj => (hb.cell (p := ⟨b, off + j, none⟩) hlt).trans (h3 j u hj)⟩
theorem IsR.below {α : Type} {f : α → List Value} {B : Nat} {w w' : World} {a : Option Addr} {n : Nat} {l : List α} (h : IsR f w a n l) (hb : Below B w w') (hB : ∀ b o, a = some ⟨b, o, none⟩ → 0 < n → b < B) : IsR f w' a n l := by
  obtain ⟨h1, h2⟩ := h
  refine ⟨h1, fun hn => ?_⟩
  obtain ⟨b, off, e, hlt, h3⟩ := h2 hn
  exact ⟨b, off, e, Nat.lt_of_lt_of_le hlt hb.size, fun j u hj => (hb.cell (p := ⟨b, off + j, none⟩) (hB b off e hn)).trans (h3 j u hj)⟩
theorem IsR.news {α : Type} {f : α → List Value} {w : World} {ad : Addr} {n : Nat} {l : List α} (h : IsR f w (some ad) n l) (hn : 0 < n) : ∀ j u, (flatR f l)[j]? = some u → w.cell? (ad.add j) = some u := by
  intro j u hj
  obtain ⟨b, off, e, _, h3⟩ := h.2 hn
  cases e
  rw [add_to]
  exact h3 j u hj
/-- an owned row reads as its elements -/
theorem IsR.owned {α : Type} {f : α → List Value} {s : Nat} (hf : ∀ x, (f x).length = s) {w : World} {base : Nat} {e : TypeId} {v : Value} {n : Nat} {l : List α} (hl : l.length = n) (h : w.ownsRow base e s v n (flatR f l)) :
    ∃ ao cap, v = .slice ao n cap ∧ IsR f w ao n l ∧ (ao = none → n = 0 ∧ cap = 0) ∧ (0 < n → ∃ g, ao = some ⟨g, 0, none⟩ ∧ base ≤ g ∧ g < w.heap.size) := by
  obtain ⟨_, h⟩ := h
  rcases h with ⟨rfl, rfl⟩ | ⟨g, cap, cur, rfl, hb, hg, hc, hm, hsz, htk⟩
  · exact ⟨none, 0, rfl, ⟨hl, fun h => absurd h (by omega)⟩, fun _ => ⟨rfl, rfl⟩, fun h => absurd h (by omega)⟩
  · refine ⟨some ⟨g, 0, none⟩, cap, rfl, ⟨hl, fun _ => ⟨g, 0, rfl, block_lt hg, fun j u hj => ?_⟩⟩, fun h => by simp at h, fun _ => ⟨g, rfl, hb, block_lt hg⟩⟩
    have hlen := flatR_len hf l
    have hj' : j < n * s := by
      have := (List.getElem?_eq_some_iff.1 hj).1
      rw [hlen, hl] at this
      exact this
    have get : cur[j]? = (flatR f l)[j]? := by
      rw [← htk, List.getElem?_take_of_lt hj', Array.getElem?_toList]
    rw [block_cell hg, Nat.zero_add, get, hj]

end Go.Proofs.YtdfkbahlngijcaaDoor
