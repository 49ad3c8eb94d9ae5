/- The arena: its plain state, how it lies in memory; the laws of its map. -/
import Derived.Test.YtfgkbnnojogjpaaGi
import Derived.MapKept
import Derived.Maps.OwnOps
import Derived.Maps.OwnSet
namespace Go.Proofs.Ytfgkbnnojogjpaa
open Go.RowKit

/-- an arena: the slots, the live handles with their nodes in the order of their making, the counts -/
structure AS where
  x : FL
  it : List (Int × Nd)
  al : Nat
  fr : Nat
  st : Nat
def AS.keys (A : AS) : List Int := A.it.map (·.1)
structure AInv (A : AS) : Prop where
  f : FInv A.x
  nd : A.keys.Nodup
  liv : ∀ h, liveL A.x h ↔ h ∈ A.keys
  ok : ∀ p ∈ A.it, checkN p.2 = 0

/-- the blocks of an arena: the slots' blocks, the struct's, the map's -/
structure PB where
  lb : LB
  p : Nat
  r : Nat
def PB.own (B : PB) (q : Nat) : Prop := q = B.p ∨ q = B.r ∨ q = B.lb.p ∨ q = B.lb.s ∨ q = B.lb.t ∨ q = B.lb.g

/-- the entries of the map -/
def Ents (w : World) (es : List MapEntry) (it : List (Int × Nd)) : Prop :=
  es.length = it.length ∧ ∀ i (h : i < it.length) e, es[i]? = some e → e.key = .int .u64 it[i].1 ∧ OwnN 0 w e.val it[i].2
def IsA (w : World) (B : PB) (A : AS) : Prop :=
  w.heap[B.p]? = some (.cells #[.int .i64 A.x.n, .pointer (some ⟨B.lb.p, 0, none⟩), .map (some B.r), .int .i64 A.al, .int .i64 A.fr, .int .i64 A.st] 88 (0, 0)) ∧
  IsL w B.lb A.x ∧ ∃ es clock, w.heap[B.r]? = some (.map es clock) ∧ Ents w es.toList A.it

/-- a block of children -/
def Kb (w : World) (q : Nat) : Prop := ∃ cur, w.heap[q]? = some (.cells cur 64 (0, 0))
theorem ownN_keep {w w' : World} {v : Value} {x : Nd} (h : OwnN 0 w v x) (k : ∀ q, Kb w q → w'.heap[q]? = w.heap[q]?) : OwnN 0 w' v x := by
  obtain ⟨s, e, h1, h2, h3, h4⟩ := h
  refine ⟨s, e, h1, h2, h3, ?_⟩
  rcases h4 with h4 | ⟨g, cap, cur, e1, hg, hb, rest⟩
  · exact .inl h4
  · exact .inr ⟨g, cap, cur, e1, hg, (k g ⟨cur, hb⟩).trans hb, rest⟩
theorem Ents.keep {w w' : World} {es : List MapEntry} {it : List (Int × Nd)} (h : Ents w es it) (k : ∀ q, Kb w q → w'.heap[q]? = w.heap[q]?) : Ents w' es it :=
  ⟨h.1, fun i hi e he => ⟨(h.2 i hi e he).1, ownN_keep (h.2 i hi e he).2 k⟩⟩
theorem IsA.keep {w w' : World} {B : PB} {A : AS} (h : IsA w B A) (k : ∀ q, B.own q ∨ Kb w q → w'.heap[q]? = w.heap[q]?) : IsA w' B A := by
  obtain ⟨h0, ⟨l0, l1, l2, l3⟩, es, clock, h2, h3⟩ := h
  exact ⟨(k _ (.inl (.inl rfl))).trans h0, ⟨(k _ (.inl (.inr (.inr (.inl rfl))))).trans l0, l1.keep (k _ (.inl (.inr (.inr (.inr (.inl rfl)))))), l2.keep (k _ (.inl (.inr (.inr (.inr (.inr (.inl rfl))))))), l3.keep (k _ (.inl (.inr (.inr (.inr (.inr (.inr rfl)))))))⟩,
    es, clock, (k _ (.inl (.inr (.inl rfl)))).trans h2, h3.keep fun q hq => k q (.inr hq)⟩
theorem IsA.lt {w : World} {B : PB} {A : AS} (h : IsA w B A) {q : Nat} (hq : B.own q ∨ Kb w q) : q < w.heap.size := by
  obtain ⟨h0, ⟨l0, l1, l2, l3⟩, es, clock, h2, h3⟩ := h
  rcases hq with (rfl | rfl | rfl | rfl | rfl | rfl) | ⟨cur, hc⟩
  · exact block_lt h0
  · exact block_lt h2
  · exact block_lt l0
  · exact l1.lt
  · exact l2.lt
  · exact l3.lt
  · exact block_lt hc
theorem IsA.below {w w' : World} {B : PB} {A : AS} (h : IsA w B A) (k : Below w.heap.size w w') : IsA w' B A := h.keep fun q hq => k.block q (h.lt hq)
theorem IsA.drewN {w : World} {B : PB} {A : AS} (h : IsA w B A) (n : Nat) : IsA (w.drewN n) B A := h.keep fun _ _ => rfl
/-- the blocks are distinct, and none of them holds children -/
theorem IsA.ne {w : World} {B : PB} {A : AS} (h : IsA w B A) : B.p ≠ B.r ∧ (∀ q, q = B.lb.p ∨ q = B.lb.s ∨ q = B.lb.t ∨ q = B.lb.g → q ≠ B.p ∧ q ≠ B.r) ∧ ∀ q, Kb w q → ¬ B.own q := by
  obtain ⟨h0, ⟨l0, ⟨c1, l1, _⟩, ⟨c2, l2, _⟩, ⟨c3, l3, _⟩⟩, es, clock, h2, h3⟩ := h
  refine ⟨fun e => ?_, fun q hq => ⟨fun e => ?_, fun e => ?_⟩, fun q ⟨cur, hc⟩ ho => ?_⟩
  · rw [e, h2] at h0; cases h0
  · rcases hq with hq | hq | hq | hq
    · rw [← e, hq, l0] at h0; injection h0 with h0; injection h0 with _ h0; revert h0; decide
    · rw [← e, hq, l1] at h0; injection h0 with h0; injection h0 with _ h0; revert h0; decide
    · rw [← e, hq, l2] at h0; injection h0 with h0; injection h0 with _ h0; revert h0; decide
    · rw [← e, hq, l3] at h0; injection h0 with h0; injection h0 with _ h0; revert h0; decide
  · rcases hq with hq | hq | hq | hq
    · rw [← e, hq, l0] at h2; cases h2
    · rw [← e, hq, l1] at h2; cases h2
    · rw [← e, hq, l2] at h2; cases h2
    · rw [← e, hq, l3] at h2; cases h2
  · rcases ho with rfl | rfl | rfl | rfl | rfl | rfl
    · rw [h0] at hc; injection hc with hc; injection hc with _ hc; revert hc; decide
    · rw [h2] at hc; cases hc
    · rw [l0] at hc; injection hc with hc; injection hc with _ hc; revert hc; decide
    · rw [l1] at hc; injection hc with hc; injection hc with _ hc; revert hc; decide
    · rw [l2] at hc; injection hc with hc; injection hc with _ hc; revert hc; decide
    · rw [l3] at hc; injection hc with hc; injection hc with _ hc; revert hc; decide

/-- only the arena's own blocks are written -/
def KeepA (B : PB) (w w' : World) : Prop :=
  (∀ b0, b0 ≤ w.heap.size → (∀ q, B.own q → b0 ≤ q) → Below b0 w w') ∧ ∀ q, q < w.heap.size → ¬ B.own q → w'.heap[q]? = w.heap[q]?
theorem KeepA.refl (B : PB) (w : World) : KeepA B w w := ⟨fun _ _ _ => Below.refl _ _, fun _ _ _ => rfl⟩
theorem KeepA.size {B : PB} {w w' : World} (h : KeepA B w w') : w.heap.size ≤ w'.heap.size := (h.1 0 (Nat.zero_le _) fun _ _ => Nat.zero_le _).size
theorem KeepA.trans {B : PB} {w w1 w2 : World} (h : KeepA B w w1) (k : KeepA B w1 w2) : KeepA B w w2 :=
  ⟨fun b0 h0 hb => (h.1 b0 h0 hb).trans (k.1 b0 (Nat.le_trans h0 h.size) hb), fun q hq hn => (k.2 q (Nat.lt_of_lt_of_le hq h.size) hn).trans (h.2 q hq hn)⟩
theorem KeepA.below {B : PB} {w w1 w2 : World} (h : KeepA B w w1) (k : Below w1.heap.size w1 w2) : KeepA B w w2 :=
  ⟨fun b0 h0 hb => (h.1 b0 h0 hb).trans (k.mono (Nat.le_trans h0 h.size)), fun q hq hn => (k.block q (Nat.lt_of_lt_of_le hq h.size)).trans (h.2 q hq hn)⟩
theorem KeepA.drewN {B : PB} {w w1 : World} (h : KeepA B w w1) (n : Nat) : KeepA B w (w1.drewN n) := ⟨fun b0 h0 hb => below_drewN (h.1 b0 h0 hb) n, h.2⟩
theorem KeepA.alloc {B : PB} {w w1 : World} (h : KeepA B w w1) (o : Obj) : KeepA B w (w1.alloc o) := h.below ((Below.refl _ _).alloc (Nat.le_refl _) o)
theorem KeepA.set {B : PB} {w w1 : World} (h : KeepA B w w1) {q : Nat} (hq : B.own q) (i : Nat) (v : Value) : KeepA B w (w1.setCell ⟨q, i, none⟩ v) :=
  ⟨fun b0 h0 hb => (h.1 b0 h0 hb).setCell (hb q hq) v, fun t ht hn => (Below.heap_setCell _ _ _ _ (fun e => hn (by have e' : t = q := e; rw [e']; exact hq))).trans (h.2 t ht hn)⟩
theorem KeepA.of_list {B : PB} {w w1 : World} (h : KeepL B.lb w w1) : KeepA B w w1 :=
  ⟨fun b0 h0 hb => h.1 b0 h0 (hb _ (.inr (.inr (.inl rfl)))) (hb _ (.inr (.inr (.inr (.inl rfl))))) (hb _ (.inr (.inr (.inr (.inr (.inl rfl)))))) (hb _ (.inr (.inr (.inr (.inr (.inr rfl)))))), fun q hq hn => h.2 q hq (fun e => hn (.inr (.inr (.inl e)))) (fun e => hn (.inr (.inr (.inr (.inl e))))) (fun e => hn (.inr (.inr (.inr (.inr (.inl e)))))) (fun e => hn (.inr (.inr (.inr (.inr (.inr e))))))⟩
/-- a block is laid anew -/
def setB (w : World) (r : Nat) (o : Obj) : World := { w with heap := w.heap.setIfInBounds r o }
theorem setB_same {w : World} {r : Nat} {o o' : Obj} (h : w.heap[r]? = some o) : (setB w r o').heap[r]? = some o' := (MapKept.heap_set h).1
theorem setB_other (w : World) {r q : Nat} (o' : Obj) (hq : q ≠ r) : (setB w r o').heap[q]? = w.heap[q]? := by
  unfold setB
  simp [Ne.symm hq]
theorem KeepA.setB {B : PB} {w w1 : World} (h : KeepA B w w1) (o : Obj) : KeepA B w (setB w1 B.r o) :=
  ⟨fun b0 h0 hb => (h.1 b0 h0 hb).trans ⟨rfl, rfl, rfl, by simp [Go.Proofs.Ytfgkbnnojogjpaa.setB], fun k hk => setB_other w1 o (fun e => by have := hb _ (.inr (.inl rfl)); omega)⟩, fun q hq hn => (setB_other w1 o (fun e => hn (.inr (.inl e)))).trans (h.2 q hq hn)⟩

/-! ### the map -/
def lookI (it : List (Int × Nd)) (h : Int) : Option Nd := (it.find? fun p => p.1 == h).map (·.2)
theorem keyU (h : Int) : MapKept.IsKey (.int .u64) (.int .u64 h) := rfl
theorem Ents.keys {w : World} {es : List MapEntry} {it : List (Int × Nd)} (h : Ents w es it) : ∀ e ∈ es, MapKept.IsKey (.int .u64) e.key := by
  intro e he
  obtain ⟨i, hi, rfl⟩ := List.getElem_of_mem he
  rw [(h.2 i (by rw [← h.1]; exact hi) es[i] (List.getElem?_eq_getElem hi)).1]
  rfl
theorem zeroN (w : World) : (zeroValue 36).run Try.prog w = .ok (.agg #[.int .i64 0, .string ⟨#[]⟩, .slice none 0 0]) w := by kernel_rfl
end Go.Proofs.Ytfgkbnnojogjpaa
