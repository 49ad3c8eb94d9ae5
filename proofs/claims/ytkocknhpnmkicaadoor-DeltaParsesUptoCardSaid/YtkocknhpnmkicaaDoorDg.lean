/- Deltas: the normal form of the program: flush. -/
import Derived.Test.YtkocknhpnmkicaaDoorDf
namespace Go.Proofs.YtkocknhpnmkicaaDoor
open Go.RowKit
set_option linter.unusedVariables false

theorem infoPc : (Tryd.prog.info? 38).map (fun i => (i.zero, i.size, i.bytes)) = some (some (.agg #[.int .u8 0, .int .i64 0, .string ByteArray.empty]), 3, 32) := by kernel_rfl
theorem flatP_one (l : List Pc) : ∀ u ∈ flatR fP l, u.oneCell' = true := flatR_all (fun p u hu => by
  simp only [fP, List.mem_cons, List.not_mem_nil, or_false] at hu
  rcases hu with rfl | rfl | rfl <;> rfl) l
/-- what a call leaves that writes the variables bO, bT, bG, the row of v and rows of bytes -/
def KeptF (B bO bT bG : Nat) (v : Value) (w w' : World) : Prop :=
  Below B w w' ∧ ∀ k o, w.heap[k]? = some o → k ≠ bO → k ≠ bT → k ≠ bG → v.ownBlock ≠ some k → (∀ c fz, o ≠ .cells c 5 fz) → w'.heap[k]? = some o
theorem KeptF.refl (B bO bT bG : Nat) (v : Value) (w : World) : KeptF B bO bT bG v w w := ⟨Below.refl _ _, fun _ _ h _ _ _ _ _ => h⟩
theorem KeptF.trans {B bO bT bG : Nat} {v v' : Value} {w w1 w2 : World} (h : KeptF B bO bT bG v w w1) (k : KeptF B bO bT bG v' w1 w2) (hv : ∀ q, v'.ownBlock = some q → v.ownBlock = some q ∨ w.heap.size ≤ q) : KeptF B bO bT bG v w w2 :=
  ⟨h.1.trans k.1, fun j o hj h1 h2 h3 h4 h5 => k.2 j o (h.2 j o hj h1 h2 h3 h4 h5) h1 h2 h3 (fun e => (hv j e).elim h4 fun hge => absurd (block_lt hj) (by omega)) h5⟩
theorem KeptF.of_others {B bO bT bG : Nat} {v : Value} {w w' : World} (hb : Below B w w') (h : Lib.OthersKept 5 (some bT) w w') : KeptF B bO bT bG v w w' :=
  ⟨hb, fun k o hk _ h2 _ _ h5 => h k o hk (fun e => h2 (Option.some.inj e)) h5⟩
theorem KeptF.alloc {B bO bT bG : Nat} {v : Value} {w : World} (hB : B ≤ w.heap.size) (o : Obj) : KeptF B bO bT bG v w (w.alloc o) :=
  ⟨(Below.refl B w).alloc hB o, fun k x hk _ _ _ _ _ => block_alloc hk o⟩
theorem KeptF.grown {B bO bT bG : Nat} {v : Value} {w w' : World} (hg : w.grownBy w' v.ownBlock) (hB : B ≤ w.heap.size) (hv : ∀ q, v.ownBlock = some q → B ≤ q) : KeptF B bO bT bG v w w' :=
  ⟨(Below.refl B w).grown hg hB hv, fun k x hk _ _ _ h4 _ => by rw [hg.block k (block_lt hk) (fun e => h4 e.symm)]; exact hk⟩
theorem KeptF.set {B bO bT bG : Nat} {v : Value} {w : World} {p : Addr} (hp : B ≤ p.block) (hb : p.block = bO ∨ p.block = bT ∨ p.block = bG) (x : Value) : KeptF B bO bT bG v w (w.setCell p x) :=
  ⟨(Below.refl B w).setCell hp x, fun k o hk h1 h2 h3 _ _ => block_setCell_other hk (by rcases hb with h | h | h <;> rw [h] <;> exact fun e => by first | exact h1 e.symm | exact h2 e.symm | exact h3 e.symm) x⟩
theorem cells_ty {w : World} {a b : Nat} {c d : Array Value} {s t : TypeId} {f g : Nat × Nat} (h : w.heap[a]? = some (.cells c s f)) (k : w.heap[b]? = some (.cells d t g)) (hst : s ≠ t) : a ≠ b := fun e => by
  subst e
  rw [h] at k
  injection k with k
  injection k with k1 k2
  exact hst k2
theorem builder_cells {T e : TypeId} {B b : Nat} {bs : List Value} {w : World} (h : Lib.IsBuilderF T e B b bs w) : ∃ c, w.heap[b]? = some (.cells c T (0, 0)) := by
  rcases h with ⟨_, v, hb, _⟩ | ⟨_, v, hb, _⟩ <;> exact ⟨_, hb⟩
theorem own_kept {B bO bT bG s : Nat} {e : TypeId} {v v' : Value} {n : Nat} {xs : List Value} {w w' : World} (h : w.ownsRow B e s v' n xs) (hk : KeptF B bO bT bG v w w') (he : e ≠ 5)
    (hne : ∀ q, v'.ownBlock = some q → q ≠ bO ∧ q ≠ bT ∧ q ≠ bG ∧ v.ownBlock ≠ some q) : w'.ownsRow B e s v' n xs := by
  refine ⟨h.1, ?_⟩
  rcases h.2 with hn | ⟨g, cap, cur, hv, hbg, hg, rest⟩
  · exact .inl hn
  · obtain ⟨a1, a2, a3, a4⟩ := hne g (by rw [hv]; rfl)
    exact .inr ⟨g, cap, cur, hv, hbg, hk.2 g _ hg a1 a2 a3 a4 (fun c fz e' => he (by injection e')), rest⟩
/-- what form holds between the pieces: the pieces so far, the text and the number of the gap -/
structure IsF (B bO bT bG : Nat) (v : Value) (o : List Dp) (t : List UInt8) (g : Nat) (w : World) : Prop where
  out : w.heap[bO]? = some (.cells #[v] 22 (0, 0))
  own : w.ownsRow B 38 3 v o.length (flatR fP (o.map toP))
  text : Lib.IsBuilderF 65 5 B bT (Lib.byteCells t) w
  gone : w.heap[bG]? = some (.cells #[.int .i64 g] 3 (0, 0))
  bo : B ≤ bO
  bg : B ≤ bG
theorem own_typS {w : World} {B s : Nat} {t : TypeId} {v : Value} {n : Nat} {l : List Value} (h : w.ownsRow B t s v n l) {q : Nat} (hq : v.ownBlock = some q) : B ≤ q ∧ ∃ cur, w.heap[q]? = some (.cells cur t (0, 0)) := by
  obtain ⟨-, ⟨h, -⟩ | ⟨g, cap', cur, h1, hg, h2, -⟩⟩ := h
  · subst h; cases hq
  · subst h1; cases hq; exact ⟨hg, cur, h2⟩
theorem IsF.ne {B bO bT bG : Nat} {v : Value} {o : List Dp} {t : List UInt8} {g : Nat} {w : World} (h : IsF B bO bT bG v o t g w) : bO ≠ bT ∧ bO ≠ bG ∧ bT ≠ bG ∧ ∀ q, v.ownBlock = some q → q ≠ bO ∧ q ≠ bT ∧ q ≠ bG := by
  obtain ⟨c, hc⟩ := builder_cells h.text
  refine ⟨cells_ty h.out hc (by decide), cells_ty h.out h.gone (by decide), cells_ty hc h.gone (by decide), fun q hq => ?_⟩
  obtain ⟨-, cur, hcur⟩ := own_typS h.own hq
  exact ⟨cells_ty hcur h.out (by decide), cells_ty hcur hc (by decide), cells_ty hcur h.gone (by decide)⟩
end Go.Proofs.YtkocknhpnmkicaaDoor
