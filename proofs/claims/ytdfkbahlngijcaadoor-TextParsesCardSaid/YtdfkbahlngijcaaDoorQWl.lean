/- Text: Parse: the world where the loop begins. (printed by slim.py.) -/
import Derived.Test.YtdfkbahlngijcaaDoorQWk
namespace Go.Proofs.YtdfkbahlngijcaaDoor
open Go.RowKit
def zCf : Array Value := #[.int .i64 0, .int .u64 0, .int .i64 0, .int .i64 0, .int .i64 0, .int .i64 0, .int .i64 0, .string ⟨#[]⟩, .slice none 0 0, .slice none 0 0]
/-- the world where the loop begins -/
def parW (S : ByteArray) (w : World) : World :=
  seqW S (((((w.alloc (.cells #[.int .i64 0, .int .u64 0, .int .i64 0, .int .i64 0, .int .i64 0, .int .i64 0, .int .i64 0, .string ⟨#[]⟩, .slice none 0 0, .slice none 0 0] 42)).alloc (.cells #[.int .i64 0] 3)).alloc (.cells #[.int .i64 0] 22)).alloc
    (.cells #[.int .i64 0, .int .u64 0, .int .i64 0, .int .i64 0, .int .i64 0, .int .i64 0, .int .i64 0, .string ⟨#[]⟩, .slice none 0 0, .slice none 0 0, .int .i64 0, .int .i64 (-1)] 87)).alloc (.cells #[.pointer (some ⟨w.heap.size + 1 + 1 + 1, 0, none⟩)] 85))
structure ParW (S : ByteArray) (b0 : Nat) (w W : World) : Prop where
  size : W.heap.size = b0 + 8
  below : Below b0 w W
  x : W.heap[b0]? = some (.cells zCf 42 (0, 0))
  line : W.heap[b0 + 1]? = some (.cells #[.int .i64 0] 3 (0, 0))
  err : W.heap[b0 + 2]? = some (.cells #[.int .i64 0] 22 (0, 0))
  r : W.heap[b0 + 3]? = some (.cells (rdC zeroC (.slice none 0 0) (.slice none 0 0) 0 (-1)) 87 (0, 0))
  v : W.heap[b0 + 4]? = some (.cells #[.pointer (some ⟨b0 + 3, 0, none⟩)] 85 (0, 0))
  boxes : Boxes (b0 + 5) S.data.toList W
theorem at_new {W : World} {o : Obj} {k : Nat} (h : k = W.heap.size) : (W.alloc o).heap[k]? = some o := by subst h; exact heap_alloc_new W o
theorem at_old {W : World} {o r : Obj} {k : Nat} (h : W.heap[k]? = some r) : (W.alloc o).heap[k]? = some r := (Below.heap_alloc _ _ _ (block_lt h)).trans h
theorem parW_is (S : ByteArray) (w : World) : ParW S w.heap.size w (parW S w) := by
  unfold parW seqW
  have z : ∀ (W : World) (o : Obj), (W.alloc o).heap.size = W.heap.size + 1 := fun W o => World.size_alloc ..
  refine ⟨by simp only [z], ?_, ?_, ?_, ?_, ?_, ?_, ?_⟩
  · repeat' (first | exact Below.refl _ _ | (refine Below.alloc ?_ (by simp only [z]; omega) _) | (refine Below.alloc ?_ (Nat.le_refl _) _))
  · exact at_old (at_old (at_old (at_old (at_old (at_old (at_old (at_new rfl)))))))
  · exact at_old (at_old (at_old (at_old (at_old (at_old (at_new (by simp only [z])))))))
  · exact at_old (at_old (at_old (at_old (at_old (at_new (by simp only [z]))))))
  · exact at_old (at_old (at_old (at_old (at_new (by simp only [z])))))
  · exact at_old (at_old (at_old (at_new (by simp only [z]))))
  · refine ⟨?_, ?_, ?_⟩
    · refine at_old (at_old ?_)
      rw [at_new (by simp only [z])]
    · exact at_old (at_new (by simp only [z]))
    · exact at_new (by simp only [z])
theorem ParW.start {S : ByteArray} {w W : World} (h : ParW S w.heap.size w W) : LoopI S.data.toList w.heap.size W [] zeroRd 0 W := by
  have hz := h.size
  refine ⟨fun rest e => by rw [e]; rfl, ⟨.slice none 0 0, .slice none 0 0, [], ⟨h.r, ⟨rfl, .inl ⟨rfl, rfl⟩⟩, ⟨rfl, .inl ⟨rfl, rfl⟩⟩, fun s hs => (by cases hs), List.Pairwise.nil⟩, rfl⟩, fun _ _ => rfl, fun _ _ => rfl, rfl, rfl, rfl, by omega, ⟨Nat.le_refl _, fun l hl => (by cases hl), Nat.zero_le _⟩, Nat.zero_le _⟩
end Go.Proofs.YtdfkbahlngijcaaDoor

