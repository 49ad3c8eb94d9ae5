/- General lemmas on blocks that are known whole, and on results that lie in memory. -/
import Derived.Test.YtdfkbahlngijcaaDoorLib
namespace Go.Proofs.YtdfkbahlngijcaaDoor
open Go.RowKit

theorem block_new (w : World) (o : Obj) : (w.alloc o).heap[w.heap.size]? = some o := (MapKept.heap_alloc w o).1
theorem block_new' (w : World) (o : Obj) (b : Nat) (h : b = w.heap.size) : (w.alloc o).heap[b]? = some o := by rw [h]; exact block_new w o
theorem block_lt {w : World} {b : Nat} {o : Obj} (h : w.heap[b]? = some o) : b < w.heap.size := by
  rcases Nat.lt_or_ge b w.heap.size with hh | hh
  · exact hh
  · rw [Array.getElem?_eq_none hh] at h; cases h
theorem block_alloc {w : World} {b : Nat} {o : Obj} (h : w.heap[b]? = some o) (o' : Obj) : (w.alloc o').heap[b]? = some o := by
  rw [Below.heap_alloc w o' b (block_lt h)]; exact h
theorem block_setCell {w : World} {b : Nat} {c : Array Value} {e : TypeId} {fr : Nat × Nat} (h : w.heap[b]? = some (.cells c e fr)) (i : Nat) (v : Value) :
    (w.setCell ⟨b, i, none⟩ v).heap[b]? = some (.cells (c.setIfInBounds i v) e fr) := by
  simp [World.setCell, Array.getElem?_modify, h]
theorem block_setCell_other {w : World} {b : Nat} {o : Obj} (h : w.heap[b]? = some o) {p : Addr} (hp : p.block ≠ b) (v : Value) : (w.setCell p v).heap[b]? = some o := by
  rw [Below.heap_setCell w p v b (Ne.symm hp)]; exact h
theorem block_below {B : Nat} {w w' : World} (hb : Below B w w') {b : Nat} {o : Obj} (h : w.heap[b]? = some o) (hlt : b < B) : w'.heap[b]? = some o := by
  rw [hb.block b hlt]; exact h
theorem block_cell {w : World} {b : Nat} {c : Array Value} {e : TypeId} {fr : Nat × Nat} (h : w.heap[b]? = some (.cells c e fr)) (i : Nat) : w.cell? ⟨b, i, none⟩ = c[i]? := by
  simp [World.cell?, h]
theorem block_free {w : World} {b : Nat} {c : Array Value} {e : TypeId} (h : w.heap[b]? = some (.cells c e (0, 0))) (i : Nat) : w.frozen? ⟨b, i, none⟩ = false := by
  simp [World.frozen?, h]

theorem load3 {P : Program} {ty : TypeId} {W : World} {b o : Nat} {x0 x1 x2 : Value} (hg : (isAgg ty).run P W = .ok true W) (hs : (sizeOf ty).run P W = .ok 3 W)
    (h0 : W.cell? ⟨b, o, none⟩ = some x0) (h1 : W.cell? ⟨b, o + 1, none⟩ = some x1) (h2 : W.cell? ⟨b, o + 2, none⟩ = some x2) :
    (loadVar ty ⟨b, o, none⟩).run P W = .ok (.agg #[x0, x1, x2]) W := by
  simp [loadVar, hg, hs, h0, h1, h2, go_sem]

/-- a result that lies in a block of three cells, known whole -/
theorem res3 {P : Program} {fn : Func} {p : Tmp} {ty : TypeId} (hr : fn.results = #[.cell p ty]) {tmps : Array Value} {W : World} {b : Nat} {x0 x1 x2 : Value} {e : TypeId} {fr : Nat × Nat}
    (hg : (isAgg ty).run P W = .ok true W) (hs : (sizeOf ty).run P W = .ok 3 W) (ht : tmps.getD p undef = .pointer (some ⟨b, 0, none⟩))
    (hb : W.heap[b]? = some (.cells #[x0, x1, x2] e fr)) : (results fn tmps).run P W = .ok (.agg #[x0, x1, x2]) W := by
  have h0 : W.cell? ⟨b, 0, none⟩ = some x0 := block_cell hb 0
  have h1 : W.cell? ⟨b, 1, none⟩ = some x1 := block_cell hb 1
  have h2 : W.cell? ⟨b, 2, none⟩ = some x2 := block_cell hb 2
  have ht' : tmps[p]?.getD undef = .pointer (some ⟨b, 0, none⟩) := by simpa using ht
  simp only [results, hr]
  simp [ht', hg, hs, h0, h1, h2, go_sem]
/-- .. and beside it one in a temporary -/
theorem res3_tmp {P : Program} {fn : Func} {p u : Tmp} {ty : TypeId} (hr : fn.results = #[.cell p ty, .tmp u]) {tmps : Array Value} {W : World} {b : Nat} {x0 x1 x2 : Value} {e : TypeId} {fr : Nat × Nat}
    (hg : (isAgg ty).run P W = .ok true W) (hs : (sizeOf ty).run P W = .ok 3 W) (ht : tmps.getD p undef = .pointer (some ⟨b, 0, none⟩))
    (hb : W.heap[b]? = some (.cells #[x0, x1, x2] e fr)) : (results fn tmps).run P W = .ok (.tuple #[.agg #[x0, x1, x2], tmps.getD u undef]) W := by
  have h0 : W.cell? ⟨b, 0, none⟩ = some x0 := block_cell hb 0
  have h1 : W.cell? ⟨b, 1, none⟩ = some x1 := block_cell hb 1
  have h2 : W.cell? ⟨b, 2, none⟩ = some x2 := block_cell hb 2
  have ht' : tmps[p]?.getD undef = .pointer (some ⟨b, 0, none⟩) := by simpa using ht
  simp only [results, hr]
  simp [ht', hg, hs, h0, h1, h2, go_sem]

end Go.Proofs.YtdfkbahlngijcaaDoor
