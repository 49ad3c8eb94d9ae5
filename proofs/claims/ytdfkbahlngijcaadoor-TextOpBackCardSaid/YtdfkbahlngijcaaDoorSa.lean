/- Text: operations: plain; script.fields: its walk. -/
import Derived.Test.YtdfkbahlngijcaaDoorTc
import Derived.Deep.CutRange
import Derived.Deep.DeepCutAuto
import Derived.Test.YtdfkbahlngijcaaDoorRow
namespace Go.Proofs.YtdfkbahlngijcaaDoor
open Go.RowKit
set_option linter.unusedVariables false

structure Ov where
  k : Int
  slot : Int
  at_ : Int
  n : Int
  id : Int
  g : Int
  t : ByteArray
def fO (x : Ov) : List Value := [.int .u8 x.k, .int .i64 x.slot, .int .i64 x.at_, .int .i64 x.n, .int .u32 x.id, .int .u8 x.g, .string x.t]
theorem fO_len (x : Ov) : (fO x).length = 7 := rfl
/-- the fields that a kind uses: 0 slot, 1 at, 2 count, 3 id, 4 gravity, 5 text -/
def fldK : Nat → List Nat
  | 1 => [1, 5]
  | 2 => [1, 2]
  | 3 => [1, 3, 4]
  | 4 => [3]
  | 6 => [0]
  | 7 => [0, 1, 2]
  | 8 => [0, 2]
  | 9 => [0, 2]
  | 10 => [0, 3]
  | 11 => [0, 1]
  | 12 => [0, 2]
  | 13 => [0]
  | _ => []
def fB (f : Nat) : List Value := [.int .u8 f]
theorem fB_len (f : Nat) : (fB f).length = 1 := rfl
theorem fld_cells {w : World} {b : Nat} {T : TypeId} {fr : Nat × Nat} {cs : Array Value} {l : List Nat} (h : w.heap[b]? = some (.cells cs T fr)) (hc : cs.toList = l.map fun f => Value.int .u8 (f : Nat)) : ∀ j (h : j < l.length), w.cell? ⟨b, j, none⟩ = some (.int .u8 (l[j] : Nat)) := by
  intro j hj
  have e : w.cell? ⟨b, j, none⟩ = cs[j]? := by simp [World.cell?, h]
  rw [e, ← Array.getElem?_toList, hc, List.getElem?_map, List.getElem?_eq_getElem hj]
  rfl
def FldPost (l : List Nat) (w : World) (e : Ending) (w' : World) : Prop :=
  ∃ b, e = .returned (.slice (some ⟨b, 0, none⟩) l.length l.length) ∧ (∀ j (h : j < l.length), w'.cell? ⟨b, j, none⟩ = some (.int .u8 (l[j] : Nat))) ∧ b < w'.heap.size ∧ Below w.heap.size w w'
set_option maxRecDepth 100000 in
set_option maxHeartbeats 8000000 in
theorem fields_any (k : Nat) (h1 : 1 ≤ k) (h2 : k ≤ 16) (w : World) : Calls Tryd.prog 88 #[.int .u8 k] w (FldPost (fldK k) w) := by
  go_enter Tryd.func88, Tryd.ntmps88
  go_upto_region 2 with (fail)
  generalize hW : World.alloc (World.alloc _ _) _ = W
  have hB : Below w.heap.size w W := by
    rw [← hW]
    repeat first | exact Below.refl _ _ | refine Below.alloc ?_ (by simp; try omega) _
  have e0 : W.heap[w.heap.size]? = some (.cells #[.int .u8 1, .int .u8 5] 139 (0, 0)) := by
    rw [← hW]
    exact (block_alloc (block_alloc (block_alloc (block_alloc (block_alloc (block_alloc (block_alloc (block_alloc (block_alloc (block_alloc (block_alloc (block_alloc (block_alloc (block_alloc (block_alloc (block_alloc (block_new' _ _ _ (by simp)) _) _) _) _) _) _) _) _) _) _) _) _) _) _) _) _)
  have e1 : W.heap[w.heap.size + 1]? = some (.cells #[.int .u8 1, .int .u8 2] 139 (0, 0)) := by
    rw [← hW]
    exact (block_alloc (block_alloc (block_alloc (block_alloc (block_alloc (block_alloc (block_alloc (block_alloc (block_alloc (block_alloc (block_alloc (block_alloc (block_alloc (block_alloc (block_alloc (block_new' _ _ _ (by simp)) _) _) _) _) _) _) _) _) _) _) _) _) _) _) _)
  have e2 : W.heap[w.heap.size + 1 + 1]? = some (.cells #[.int .u8 1, .int .u8 3, .int .u8 4] 139 (0, 0)) := by
    rw [← hW]
    exact (block_alloc (block_alloc (block_alloc (block_alloc (block_alloc (block_alloc (block_alloc (block_alloc (block_alloc (block_alloc (block_alloc (block_alloc (block_alloc (block_alloc (block_new' _ _ _ (by simp)) _) _) _) _) _) _) _) _) _) _) _) _) _) _)
  have e3 : W.heap[w.heap.size + 1 + 1 + 1]? = some (.cells #[.int .u8 3] 139 (0, 0)) := by
    rw [← hW]
    exact (block_alloc (block_alloc (block_alloc (block_alloc (block_alloc (block_alloc (block_alloc (block_alloc (block_alloc (block_alloc (block_alloc (block_alloc (block_alloc (block_new' _ _ _ (by simp)) _) _) _) _) _) _) _) _) _) _) _) _) _)
  have e4 : W.heap[w.heap.size + 1 + 1 + 1 + 1]? = some (.cells #[] 139 (0, 0)) := by
    rw [← hW]
    exact (block_alloc (block_alloc (block_alloc (block_alloc (block_alloc (block_alloc (block_alloc (block_alloc (block_alloc (block_alloc (block_alloc (block_alloc (block_new' _ _ _ (by simp)) _) _) _) _) _) _) _) _) _) _) _) _)
  have e5 : W.heap[w.heap.size + 1 + 1 + 1 + 1 + 1]? = some (.cells #[.int .u8 0] 139 (0, 0)) := by
    rw [← hW]
    exact (block_alloc (block_alloc (block_alloc (block_alloc (block_alloc (block_alloc (block_alloc (block_alloc (block_alloc (block_alloc (block_alloc (block_new' _ _ _ (by simp)) _) _) _) _) _) _) _) _) _) _) _)
  have e6 : W.heap[w.heap.size + 1 + 1 + 1 + 1 + 1 + 1]? = some (.cells #[.int .u8 0, .int .u8 1, .int .u8 2] 139 (0, 0)) := by
    rw [← hW]
    exact (block_alloc (block_alloc (block_alloc (block_alloc (block_alloc (block_alloc (block_alloc (block_alloc (block_alloc (block_alloc (block_new' _ _ _ (by simp)) _) _) _) _) _) _) _) _) _) _)
  have e7 : W.heap[w.heap.size + 1 + 1 + 1 + 1 + 1 + 1 + 1]? = some (.cells #[.int .u8 0, .int .u8 2] 139 (0, 0)) := by
    rw [← hW]
    exact (block_alloc (block_alloc (block_alloc (block_alloc (block_alloc (block_alloc (block_alloc (block_alloc (block_alloc (block_new' _ _ _ (by simp)) _) _) _) _) _) _) _) _) _)
  have e8 : W.heap[w.heap.size + 1 + 1 + 1 + 1 + 1 + 1 + 1 + 1]? = some (.cells #[.int .u8 0, .int .u8 2] 139 (0, 0)) := by
    rw [← hW]
    exact (block_alloc (block_alloc (block_alloc (block_alloc (block_alloc (block_alloc (block_alloc (block_alloc (block_new' _ _ _ (by simp)) _) _) _) _) _) _) _) _)
  have e9 : W.heap[w.heap.size + 1 + 1 + 1 + 1 + 1 + 1 + 1 + 1 + 1]? = some (.cells #[.int .u8 0, .int .u8 3] 139 (0, 0)) := by
    rw [← hW]
    exact (block_alloc (block_alloc (block_alloc (block_alloc (block_alloc (block_alloc (block_alloc (block_new' _ _ _ (by simp)) _) _) _) _) _) _) _)
  have e10 : W.heap[w.heap.size + 1 + 1 + 1 + 1 + 1 + 1 + 1 + 1 + 1 + 1]? = some (.cells #[.int .u8 0, .int .u8 1] 139 (0, 0)) := by
    rw [← hW]
    exact (block_alloc (block_alloc (block_alloc (block_alloc (block_alloc (block_alloc (block_new' _ _ _ (by simp)) _) _) _) _) _) _)
  have e11 : W.heap[w.heap.size + 1 + 1 + 1 + 1 + 1 + 1 + 1 + 1 + 1 + 1 + 1]? = some (.cells #[.int .u8 0, .int .u8 2] 139 (0, 0)) := by
    rw [← hW]
    exact (block_alloc (block_alloc (block_alloc (block_alloc (block_alloc (block_new' _ _ _ (by simp)) _) _) _) _) _)
  have e12 : W.heap[w.heap.size + 1 + 1 + 1 + 1 + 1 + 1 + 1 + 1 + 1 + 1 + 1 + 1]? = some (.cells #[.int .u8 0] 139 (0, 0)) := by
    rw [← hW]
    exact (block_alloc (block_alloc (block_alloc (block_alloc (block_new' _ _ _ (by simp)) _) _) _) _)
  have e13 : W.heap[w.heap.size + 1 + 1 + 1 + 1 + 1 + 1 + 1 + 1 + 1 + 1 + 1 + 1 + 1]? = some (.cells #[] 139 (0, 0)) := by
    rw [← hW]
    exact (block_alloc (block_alloc (block_alloc (block_new' _ _ _ (by simp)) _) _) _)
  have e14 : W.heap[w.heap.size + 1 + 1 + 1 + 1 + 1 + 1 + 1 + 1 + 1 + 1 + 1 + 1 + 1 + 1]? = some (.cells #[] 139 (0, 0)) := by
    rw [← hW]
    exact (block_alloc (block_alloc (block_new' _ _ _ (by simp)) _) _)
  have e15 : W.heap[w.heap.size + 1 + 1 + 1 + 1 + 1 + 1 + 1 + 1 + 1 + 1 + 1 + 1 + 1 + 1 + 1]? = some (.cells #[] 139 (0, 0)) := by
    rw [← hW]
    exact (block_alloc (block_new' _ _ _ (by simp)) _)
  have eA : W.heap[w.heap.size + 1 + 1 + 1 + 1 + 1 + 1 + 1 + 1 + 1 + 1 + 1 + 1 + 1 + 1 + 1 + 1]? = some (.cells #[.slice (some ⟨w.heap.size, 0, none⟩) 2 2, .slice (some ⟨w.heap.size + 1, 0, none⟩) 2 2, .slice (some ⟨w.heap.size + 1 + 1, 0, none⟩) 3 3, .slice (some ⟨w.heap.size + 1 + 1 + 1, 0, none⟩) 1 1, .slice (some ⟨w.heap.size + 1 + 1 + 1 + 1, 0, none⟩) 0 0, .slice (some ⟨w.heap.size + 1 + 1 + 1 + 1 + 1, 0, none⟩) 1 1, .slice (some ⟨w.heap.size + 1 + 1 + 1 + 1 + 1 + 1, 0, none⟩) 3 3, .slice (some ⟨w.heap.size + 1 + 1 + 1 + 1 + 1 + 1 + 1, 0, none⟩) 2 2, .slice (some ⟨w.heap.size + 1 + 1 + 1 + 1 + 1 + 1 + 1 + 1, 0, none⟩) 2 2, .slice (some ⟨w.heap.size + 1 + 1 + 1 + 1 + 1 + 1 + 1 + 1 + 1, 0, none⟩) 2 2, .slice (some ⟨w.heap.size + 1 + 1 + 1 + 1 + 1 + 1 + 1 + 1 + 1 + 1, 0, none⟩) 2 2, .slice (some ⟨w.heap.size + 1 + 1 + 1 + 1 + 1 + 1 + 1 + 1 + 1 + 1 + 1, 0, none⟩) 2 2, .slice (some ⟨w.heap.size + 1 + 1 + 1 + 1 + 1 + 1 + 1 + 1 + 1 + 1 + 1 + 1, 0, none⟩) 1 1, .slice (some ⟨w.heap.size + 1 + 1 + 1 + 1 + 1 + 1 + 1 + 1 + 1 + 1 + 1 + 1 + 1, 0, none⟩) 0 0, .slice (some ⟨w.heap.size + 1 + 1 + 1 + 1 + 1 + 1 + 1 + 1 + 1 + 1 + 1 + 1 + 1 + 1, 0, none⟩) 0 0, .slice (some ⟨w.heap.size + 1 + 1 + 1 + 1 + 1 + 1 + 1 + 1 + 1 + 1 + 1 + 1 + 1 + 1 + 1, 0, none⟩) 0 0] 161 (0, 0)) := by
    rw [← hW]
    exact block_new' _ _ _ (by simp)
  clear hW
  have HB := Lib.hid hB
  clear hB
  have E0 := Lib.hid e0
  have E1 := Lib.hid e1
  have E2 := Lib.hid e2
  have E3 := Lib.hid e3
  have E4 := Lib.hid e4
  have E5 := Lib.hid e5
  have E6 := Lib.hid e6
  have E7 := Lib.hid e7
  have E8 := Lib.hid e8
  have E9 := Lib.hid e9
  have E10 := Lib.hid e10
  have E11 := Lib.hid e11
  have E12 := Lib.hid e12
  have E13 := Lib.hid e13
  have E14 := Lib.hid e14
  have E15 := Lib.hid e15
  clear e0 e1 e2 e3 e4 e5 e6 e7 e8 e9 e10 e11 e12 e13 e14 e15
  have hk : k = 1 ∨ k = 2 ∨ k = 3 ∨ k = 4 ∨ k = 5 ∨ k = 6 ∨ k = 7 ∨ k = 8 ∨ k = 9 ∨ k = 10 ∨ k = 11 ∨ k = 12 ∨ k = 13 ∨ k = 14 ∨ k = 15 ∨ k = 16 := by omega
  rcases hk with rfl | rfl | rfl | rfl | rfl | rfl | rfl | rfl | rfl | rfl | rfl | rfl | rfl | rfl | rfl | rfl
  · have q := block_cell eA 0
    simp at q
    clear eA
    go_wp2_with fail
    go_ret
    exact ⟨_, rfl, fld_cells E0.out rfl, block_lt E0.out, HB.out⟩
  · have q := block_cell eA 1
    simp at q
    clear eA
    go_wp2_with fail
    go_ret
    exact ⟨_, rfl, fld_cells E1.out rfl, block_lt E1.out, HB.out⟩
  · have q := block_cell eA 2
    simp at q
    clear eA
    go_wp2_with fail
    go_ret
    exact ⟨_, rfl, fld_cells E2.out rfl, block_lt E2.out, HB.out⟩
  · have q := block_cell eA 3
    simp at q
    clear eA
    go_wp2_with fail
    go_ret
    exact ⟨_, rfl, fld_cells E3.out rfl, block_lt E3.out, HB.out⟩
  · have q := block_cell eA 4
    simp at q
    clear eA
    go_wp2_with fail
    go_ret
    exact ⟨_, rfl, fld_cells E4.out rfl, block_lt E4.out, HB.out⟩
  · have q := block_cell eA 5
    simp at q
    clear eA
    go_wp2_with fail
    go_ret
    exact ⟨_, rfl, fld_cells E5.out rfl, block_lt E5.out, HB.out⟩
  · have q := block_cell eA 6
    simp at q
    clear eA
    go_wp2_with fail
    go_ret
    exact ⟨_, rfl, fld_cells E6.out rfl, block_lt E6.out, HB.out⟩
  · have q := block_cell eA 7
    simp at q
    clear eA
    go_wp2_with fail
    go_ret
    exact ⟨_, rfl, fld_cells E7.out rfl, block_lt E7.out, HB.out⟩
  · have q := block_cell eA 8
    simp at q
    clear eA
    go_wp2_with fail
    go_ret
    exact ⟨_, rfl, fld_cells E8.out rfl, block_lt E8.out, HB.out⟩
  · have q := block_cell eA 9
    simp at q
    clear eA
    go_wp2_with fail
    go_ret
    exact ⟨_, rfl, fld_cells E9.out rfl, block_lt E9.out, HB.out⟩
  · have q := block_cell eA 10
    simp at q
    clear eA
    go_wp2_with fail
    go_ret
    exact ⟨_, rfl, fld_cells E10.out rfl, block_lt E10.out, HB.out⟩
  · have q := block_cell eA 11
    simp at q
    clear eA
    go_wp2_with fail
    go_ret
    exact ⟨_, rfl, fld_cells E11.out rfl, block_lt E11.out, HB.out⟩
  · have q := block_cell eA 12
    simp at q
    clear eA
    go_wp2_with fail
    go_ret
    exact ⟨_, rfl, fld_cells E12.out rfl, block_lt E12.out, HB.out⟩
  · have q := block_cell eA 13
    simp at q
    clear eA
    go_wp2_with fail
    go_ret
    exact ⟨_, rfl, fld_cells E13.out rfl, block_lt E13.out, HB.out⟩
  · have q := block_cell eA 14
    simp at q
    clear eA
    go_wp2_with fail
    go_ret
    exact ⟨_, rfl, fld_cells E14.out rfl, block_lt E14.out, HB.out⟩
  · have q := block_cell eA 15
    simp at q
    clear eA
    go_wp2_with fail
    go_ret
    exact ⟨_, rfl, fld_cells E15.out rfl, block_lt E15.out, HB.out⟩
end Go.Proofs.YtdfkbahlngijcaaDoor
