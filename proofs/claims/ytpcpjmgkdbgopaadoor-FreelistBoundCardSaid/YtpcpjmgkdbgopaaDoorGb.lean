/- The freelist: what the laws on calls share: deeds, the handles returned so far. -/
import Derived.Test.YtpcpjmgkdbgopaaDoorGa
namespace Go.Proofs.YtpcpjmgkdbgopaaDoor
open Go.RowKit

/-- a deed -/
structure Dd where
  k : Int
  j : Int
  h : Int
def ddF (d : Dd) : List Value := [.int .i64 d.k, .int .i64 d.j, .int .u64 d.h]
theorem ddF_len (d : Dd) : (ddF d).length = 3 := rfl
/-- element k of a row of elements: its cells -/
theorem row_at {α : Type} {f : α → List Value} {s : Nat} (hf : ∀ x, (f x).length = s) {w : World} {l : List α} {b off : Nat} (h : ∀ j u, (flatR f l)[j]? = some u → w.cell? ⟨b, off + j, none⟩ = some u) (k : Nat) (hk : k < l.length) (i : Nat) (u : Value) (hi : (f l[k])[i]? = some u) : w.cell? ⟨b, off + k * s + i, none⟩ = some u := by
  have hi' : i < s := by
    have := (List.getElem?_eq_some_iff.1 hi).1
    rw [hf] at this; exact this
  have := h (k * s + i) u (by rw [flatR_at hf l k i hk hi']; exact hi)
  rw [← Nat.add_assoc] at this
  exact this
theorem mod_nat (n : Int) (m : Nat) (hm : 0 < m) : ∃ a : Nat, a < m ∧ n % (m : Int) = a := by
  have h1 := Int.emod_nonneg n (show (m : Int) ≠ 0 by omega)
  have h2 := Int.emod_lt_of_pos n (show (0 : Int) < m by omega)
  exact ⟨(n % (m : Int)).toNat, by omega, by omega⟩
theorem mod_as (n : Int) (m a : Nat) (hm : 0 < m) (hm2 : m ≤ 4611686018427387904) (h : n % (m : Int) = a) (w : World) :
    Calls Tryd.prog 11 #[.int .i64 n, .int .i64 m] w fun e w' => e = .returned (.int .i64 a) ∧ w = w' := by
  have := mod_any n m w (by omega) (by omega)
  rwa [h] at this
theorem new_at (a c : Nat) (ha : a < 8) (hc : c < 4) (w : World) :
    Calls Tryd.prog 10 #[.int .i64 (1 + (a : Int)), .int .u64 (1 + (c : Int))] w fun e w' => NewL w (a + 1) (c + 1) e w' := by
  have := new_ok (a + 1) (c + 1) w (by omega) (by omega) (by omega) (by omega)
  rwa [show ((a + 1 : Nat) : Int) = 1 + (a : Int) by omega, show ((c + 1 : Nat) : Int) = 1 + (c : Int) by omega] at this
theorem refNew_at (a c : Nat) (ha : a < 8) (hc : c < 4) (w : World) :
    Calls Tryd.prog 12 #[.int .i64 (1 + (a : Int)), .int .u64 (1 + (c : Int))] w fun e w' => NewY w (a + 1) (c + 1) e w' := by
  have := refNew_ok (a + 1) (c + 1) w (by omega) (by omega) (by omega) (by omega)
  rwa [show ((a + 1 : Nat) : Int) = 1 + (a : Int) by omega, show ((c + 1 : Nat) : Int) = 1 + (c : Int) by omega] at this

/-- the handles l lie in the slice v of its own -/
def encHd (h : Int) : Value := .int .u64 h
def All (w : World) (B : Nat) (v : Value) (l : List Int) : Prop := w.ownsRow B 33 1 v l.length (l.map encHd)
def InU (l : List Int) : Prop := ∀ h ∈ l, 0 ≤ h ∧ h ≤ 18446744073709551615
theorem InU.snoc {l : List Int} {h : Int} (hl : InU l) (h0 : 0 ≤ h ∧ h ≤ 18446744073709551615) : InU (l ++ [h]) := by
  intro k hk
  rcases List.mem_append.1 hk with hk | hk
  · exact hl k hk
  · rw [List.mem_singleton.1 hk]; exact h0
theorem own_typ {w : World} {B : Nat} {t : TypeId} {v : Value} {n : Nat} {l : List Value} (h : w.ownsRow B t 1 v n l) {q : Nat} (hq : v.ownBlock = some q) : ∃ cur, w.heap[q]? = some (.cells cur t (0, 0)) := by
  obtain ⟨-, ⟨h, -⟩ | ⟨g, cap', cur, h1, hg, h2, -⟩⟩ := h
  · subst h; cases hq
  · subst h1; cases hq; exact ⟨cur, h2⟩
theorem All.ne {w : World} {B : Nat} {v : Value} {l : List Int} (h : All w B v l) {b : LB} {x : FL} (hl : IsL w b x) {q : Nat} (hq : v.ownBlock = some q) : q ≠ b.p ∧ q ≠ b.s ∧ q ≠ b.t ∧ q ≠ b.g := by
  obtain ⟨cur, hc⟩ := own_typ h hq
  obtain ⟨h0, ⟨c1, h1, _⟩, ⟨c2, h2, _⟩, ⟨c3, h3, _⟩⟩ := hl
  refine ⟨fun e => ?_, fun e => ?_, fun e => ?_, fun e => ?_⟩
  · rw [e, h0] at hc; injection hc with hc; injection hc with _ hc; revert hc; decide
  · rw [e, h1] at hc; injection hc with hc; injection hc with _ hc; revert hc; decide
  · rw [e, h2] at hc; injection hc with hc; injection hc with _ hc; revert hc; decide
  · rw [e, h3] at hc; injection hc with hc; injection hc with _ hc; revert hc; decide
theorem All.neY {w : World} {B : Nat} {v : Value} {l : List Int} (h : All w B v l) {b : YB} {x : FL} (hl : IsY w b x) {q : Nat} (hq : v.ownBlock = some q) : q ≠ b.p ∧ q ≠ b.s ∧ q ≠ b.t ∧ q ≠ b.g := by
  obtain ⟨cur, hc⟩ := own_typ h hq
  obtain ⟨h0, ⟨c1, h1, _⟩, ⟨c2, h2, _⟩, ⟨c3, h3, _⟩, -⟩ := hl
  refine ⟨fun e => ?_, fun e => ?_, fun e => ?_, fun e => ?_⟩
  · rw [e, h0] at hc; injection hc with hc; injection hc with _ hc; revert hc; decide
  · rw [e, h1] at hc; injection hc with hc; injection hc with _ hc; revert hc; decide
  · rw [e, h2] at hc; injection hc with hc; injection hc with _ hc; revert hc; decide
  · rw [e, h3] at hc; injection hc with hc; injection hc with _ hc; revert hc; decide
/-- Take and Give leave the handles -/
theorem All.keep {w w' : World} {B : Nat} {v : Value} {l : List Int} (h : All w B v l) {b : LB} {x : FL} (hl : IsL w b x) (k : KeepL b w w') : All w' B v l :=
  own_keep h fun q hq => by
    obtain ⟨a1, a2, a3, a4⟩ := h.ne hl hq
    exact k.2 q (own_lt h q hq).2 a1 a2 a3 a4
theorem All.keepY {w w' : World} {B : Nat} {v : Value} {l : List Int} (h : All w B v l) {b : YB} {x : FL} (hl : IsY w b x) (k : KeepL b.toLB w w') : All w' B v l :=
  own_keep h fun q hq => by
    obtain ⟨a1, a2, a3, a4⟩ := h.neY hl hq
    exact k.2 q (own_lt h q hq).2 a1 a2 a3 a4
theorem All.below {w w' : World} {B : Nat} {v : Value} {l : List Int} (h : All w B v l) (k : Below w.heap.size w w') : All w' B v l :=
  own_keep h fun q hq => k.block q (own_lt h q hq).2
theorem All.drewN {w : World} {B : Nat} {v : Value} {l : List Int} (h : All w B v l) (n : Nat) : All (w.drewN n) B v l := h
theorem All.nil (w : World) (B : Nat) : All w B (.slice none 0 0) [] := ⟨rfl, .inl ⟨rfl, rfl⟩⟩
theorem All.rs {w : World} {B : Nat} {v : Value} {l : List Int} (h : All w B v l) : Sl w v l.length (fun i => .int .u64 (l.getD i 0)) := by
  obtain ⟨-, ⟨h, h2⟩ | ⟨g, cap', cur, h1, hg, h2, h3, -, h4, h5⟩⟩ := h
  · exact ⟨none, 0, by rw [h, h2], fun hn => by omega⟩
  · subst h1
    refine ⟨_, _, rfl, fun _ => ⟨g, 0, rfl, fun i hi => ?_⟩⟩
    have := congrArg (fun l => l[i]?) h5
    simp only [List.getElem?_take, Array.getElem?_toList] at this
    rw [if_pos (by omega)] at this
    rw [Nat.zero_add, block_cell h2 i, this]
    simp [hi, encHd]
/-- the lists are kept when the handles grow -/
theorem IsL.grown {w w' : World} {b : LB} {x : FL} (h : IsL w b x) {B : Nat} {v : Value} {l : List Int} (ha : All w B v l) (hg : w.grownBy w' v.ownBlock) : IsL w' b x := by
  have k : ∀ q, q < w.heap.size → (q = b.p ∨ q = b.s ∨ q = b.t ∨ q = b.g) → w'.heap[q]? = w.heap[q]? := fun q hq hc => hg.block q hq fun e => by
    obtain ⟨a1, a2, a3, a4⟩ := ha.ne h e.symm
    rcases hc with h | h | h | h <;> contradiction
  exact ⟨(k _ (block_lt h.1) (.inl rfl)).trans h.1, h.2.1.keep (k _ h.2.1.lt (.inr (.inl rfl))), h.2.2.1.keep (k _ h.2.2.1.lt (.inr (.inr (.inl rfl)))), h.2.2.2.keep (k _ h.2.2.2.lt (.inr (.inr (.inr rfl))))⟩
theorem IsY.grown {w w' : World} {b : YB} {x : FL} (h : IsY w b x) {B : Nat} {v : Value} {l : List Int} (ha : All w B v l) (hg : w.grownBy w' v.ownBlock) : IsY w' b x := by
  have k : ∀ q, q < w.heap.size → (q = b.p ∨ q = b.s ∨ q = b.t ∨ q = b.g) → w'.heap[q]? = w.heap[q]? := fun q hq hc => hg.block q hq fun e => by
    obtain ⟨a1, a2, a3, a4⟩ := ha.neY h e.symm
    rcases hc with h | h | h | h <;> contradiction
  exact ⟨(k _ (block_lt h.1) (.inl rfl)).trans h.1, h.2.1.keep (k _ h.2.1.lt (.inr (.inl rfl))), h.2.2.1.keep (k _ h.2.2.1.lt (.inr (.inr (.inl rfl)))), h.2.2.2.1.keep (k _ h.2.2.2.1.lt (.inr (.inr (.inr rfl)))), h.2.2.2.2⟩
theorem grown_below {w0 w w' : World} {v : Value} {B : Nat} {l : List Int} (h : Below B w0 w) (hB : B ≤ w.heap.size) (ha : All w B v l) (hg : w.grownBy w' v.ownBlock) : Below B w0 w' :=
  h.grown hg hB fun q hq => (own_lt ha q hq).1
theorem Pair.grown {w0 w w' : World} {b : LB} {c : YB} {x : FL} (h : Pair w0 w b c x) {v : Value} {l : List Int} (ha : All w w0.heap.size v l) (hg : w.grownBy w' v.ownBlock) : Pair w0 w' b c x :=
  ⟨h.1.grown ha hg, h.2.1.grown ha hg, h.2.2.1, h.2.2.2.1, h.2.2.2.2.1, h.2.2.2.2.2.1, h.2.2.2.2.2.2.1, grown_below h.2.2.2.2.2.2.2 h.2.2.2.2.2.2.2.size ha hg⟩
theorem encHd_one (h : Int) : ∀ u ∈ [encHd h], u.oneCell' = true := by
  intro u hu
  rw [List.mem_singleton.1 hu]
  rfl
theorem KeepL.at {b : LB} {w w' : World} (k : KeepL b w w') {S : Nat} (hS : S < w.heap.size) (h : S ≠ b.p ∧ S ≠ b.s ∧ S ≠ b.t ∧ S ≠ b.g) : w'.heap[S]? = w.heap[S]? := k.2 S hS h.1 h.2.1 h.2.2.1 h.2.2.2
theorem IsL.new {w : World} {b : LB} {x : FL} (h : IsL w b x) : w.heap.size ≠ b.p ∧ w.heap.size ≠ b.s ∧ w.heap.size ≠ b.t ∧ w.heap.size ≠ b.g := by
  have h1 := block_lt h.1
  have h2 := h.2.1.lt
  have h3 := h.2.2.1.lt
  have h4 := h.2.2.2.lt
  omega
theorem IsY.new {w : World} {b : YB} {x : FL} (h : IsY w b x) : w.heap.size ≠ b.p ∧ w.heap.size ≠ b.s ∧ w.heap.size ≠ b.t ∧ w.heap.size ≠ b.g := by
  have h1 := block_lt h.1
  have h2 := h.2.1.lt
  have h3 := h.2.2.1.lt
  have h4 := h.2.2.2.1.lt
  omega
end Go.Proofs.YtpcpjmgkdbgopaaDoor
