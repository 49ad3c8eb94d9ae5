/- Text: operations: plain; script.fields: its walk. (printed by slim.py.) -/
import Derived.Test.YtdfkbahlngijcaaDoorQKb
import Derived.Deep.CutRange
import Derived.Deep.DeepCutAuto
import Derived.Test.YtdfkbahlngijcaaDoorQKa
namespace Go.Proofs.YtdfkbahlngijcaaDoor
open Go.RowKit
set_option linter.unusedVariables false

structure Ov where
  k : Int
  slot : Int
  at_ : Int
  n : Int
  id : Int
  g : Int
  t : ByteArray
def fO (x : Ov) : List Value := [.int .u8 x.k, .int .i64 x.slot, .int .i64 x.at_, .int .i64 x.n, .int .u32 x.id, .int .u8 x.g, .string x.t]
theorem fO_len (x : Ov) : (fO x).length = 7 := rfl
/-- the fields that a kind uses: 0 slot, 1 at, 2 count, 3 id, 4 gravity, 5 text -/
def fldK : Nat → List Nat
  | 1 => [1, 5]
  | 2 => [1, 2]
  | 3 => [1, 3, 4]
  | 4 => [3]
  | 6 => [0]
  | 7 => [0, 1, 2]
  | 8 => [0, 2]
  | 9 => [0, 2]
  | 10 => [0, 3]
  | 11 => [0, 1]
  | 12 => [0, 2]
  | 13 => [0]
  | _ => []
theorem fld_cells {w : World} {b : Nat} {T : TypeId} {fr : Nat × Nat} {cs : Array Value} {l : List Nat} (h : w.heap[b]? = some (.cells cs T fr)) (hc : cs.toList = l.map fun f => Value.int .u8 (f : Nat)) : ∀ j (h : j < l.length), w.cell? ⟨b, j, none⟩ = some (.int .u8 (l[j] : Nat)) := by
  intro j hj
  have e : w.cell? ⟨b, j, none⟩ = cs[j]? := by simp [World.cell?, h]
  rw [e, ← Array.getElem?_toList, hc, List.getElem?_map, List.getElem?_eq_getElem hj]
  rfl
def FldPost (l : List Nat) (w : World) (e : Ending) (w' : World) : Prop :=
  ∃ b, e = .returned (.slice (some ⟨b, 0, none⟩) l.length l.length) ∧ (∀ j (h : j < l.length), w'.cell? ⟨b, j, none⟩ = some (.int .u8 (l[j] : Nat))) ∧ b < w'.heap.size ∧ Below w.heap.size w w'
set_option maxRecDepth 100000 in
set_option maxHeartbeats 8000000 in
theorem fields_any (k : Nat) (h1 : 1 ≤ k) (h2 : k ≤ 16) (w : World) : Calls Tryd.prog 88 #[.int .u8 k] w (FldPost (fldK k) w) := by
  go_enter Tryd.func88, Tryd.ntmps88
  go_upto_region 2 with (fail)
  generalize hW : World.alloc (World.alloc _ _) _ = W
  have hB : Below w.heap.size w W := by
    rw [← hW]
    repeat first | exact Below.refl _ _ | refine Below.alloc ?_ (by simp; try omega) _
  have e0 : W.heap[w.heap.size]? = some (.cells #[.int .u8 1, .int .u8 5] 139 (0, 0)) := by
    rw [← hW]
    exact (block_alloc (block_alloc (block_alloc (block_alloc (block_alloc (block_alloc (block_alloc (block_alloc (block_alloc (block_alloc (block_alloc (block_alloc (block_alloc (block_alloc (block_alloc (block_alloc (block_new' _ _ _ (by simp)) _) _) _) _) _) _) _) _) _) _) _) _) _) _) _) _)
  have e1 : W.heap[w.heap.size + 1]? = some (.cells #[.int .u8 1, .int .u8 2] 139 (0, 0)) := by
    rw [← hW]
    exact (block_alloc (block_alloc (block_alloc (block_alloc (block_alloc (block_alloc (block_alloc (block_alloc (block_alloc (block_alloc (block_alloc (block_alloc (block_alloc (block_alloc (block_alloc (block_new' _ _ _ (by simp)) _) _) _) _) _) _) _) _) _) _) _) _) _) _) _)
  have e2 : W.heap[w.heap.size + 1 + 1]? = some (.cells #[.int .u8 1, .int .u8 3, .int .u8 4] 139 (0, 0)) := by
    rw [← hW]
    exact (block_alloc (block_alloc (block_alloc (block_alloc (block_alloc (block_alloc (block_alloc (block_alloc (block_alloc (block_alloc (block_alloc (block_alloc (block_alloc (block_alloc (block_new' _ _ _ (by simp)) _) _) _) _) _) _) _) _) _) _) _) _) _) _)
  have e3 : W.heap[w.heap.size + 1 + 1 + 1]? = some (.cells #[.int .u8 3] 139 (0, 0)) := by
    rw [← hW]
    exact (block_alloc (block_alloc (block_alloc (block_alloc (block_alloc (block_alloc (block_alloc (block_alloc (block_alloc (block_alloc (block_alloc (block_alloc (block_alloc (block_new' _ _ _ (by simp)) _) _) _) _) _) _) _) _) _) _) _) _) _)
  have e4 : W.heap[w.heap.size + 1 + 1 + 1 + 1]? = some (.cells #[] 139 (0, 0)) := by
    rw [← hW]
    exact (block_alloc (block_alloc (block_alloc (block_alloc (block_alloc (block_alloc (block_alloc (block_alloc (block_alloc (block_alloc (block_alloc (block_alloc (block_new' _ _ _ (by simp)) _) _) _) _) _) _) _) _) _) _) _) _)
  have e5 : W.heap[w.heap.size + 1 + 1 + 1 + 1 + 1]? = some (.cells #[.int .u8 0] 139 (0, 0)) := by
    rw [← hW]
    exact (block_alloc (block_alloc (block_alloc (block_alloc (block_alloc (block_alloc (block_alloc (block_alloc (block_alloc (block_alloc (block_alloc (block_new' _ _ _ (by simp)) _) _) _) _) _) _) _) _) _) _) _)
  have e6 : W.heap[w.heap.size + 1 + 1 + 1 + 1 + 1 + 1]? = some (.cells #[.int .u8 0, .int .u8 1, .int .u8 2] 139 (0, 0)) := by
    rw [← hW]
    exact (block_alloc (block_alloc (block_alloc (block_alloc (block_alloc (block_alloc (block_alloc (block_alloc (block_alloc (block_alloc (block_new' _ _ _ (by simp)) _) _) _) _) _) _) _) _) _) _)
  have e7 : W.heap[w.heap.size + 1 + 1 + 1 + 1 + 1 + 1 + 1]? = some (.cells #[.int .u8 0, .int .u8 2] 139 (0, 0)) := by
    rw [← hW]
    exact (block_alloc (block_alloc (block_alloc (block_alloc (block_alloc (block_alloc (block_alloc (block_alloc (block_alloc (block_new' _ _ _ (by simp)) _) _) _) _) _) _) _) _) _)
  have e8 : W.heap[w.heap.size + 1 + 1 + 1 + 1 + 1 + 1 + 1 + 1]? = some (.cells #[.int .u8 0, .int .u8 2] 139 (0, 0)) := by
    rw [← hW]
    exact (block_alloc (block_alloc (block_alloc (block_alloc (block_alloc (block_alloc (block_alloc (block_alloc (block_new' _ _ _ (by simp)) _) _) _) _) _) _) _) _)
  have e9 : W.heap[w.heap.size + 1 + 1 + 1 + 1 + 1 + 1 + 1 + 1 + 1]? = some (.cells #[.int .u8 0, .int .u8 3] 139 (0, 0)) := by
    rw [← hW]
    exact (block_alloc (block_alloc (block_alloc (block_alloc (block_alloc (block_alloc (block_alloc (block_new' _ _ _ (by simp)) _) _) _) _) _) _) _)
  have e10 : W.heap[w.heap.size + 1 + 1 + 1 + 1 + 1 + 1 + 1 + 1 + 1 + 1]? = some (.cells #[.int .u8 0, .int .u8 1] 139 (0, 0)) := by
    rw [← hW]
    exact (block_alloc (block_alloc (block_alloc (block_alloc (block_alloc (block_alloc (block_new' _ _ _ (by simp)) _) _) _) _) _) _)
  have e11 : W.heap[w.heap.size + 1 + 1 + 1 + 1 + 1 + 1 + 1 + 1 + 1 + 1 + 1]? = some (.cells #[.int .u8 0, .int .u8 2] 139 (0, 0)) := by
    rw [← hW]
    exact (block_alloc (block_alloc (block_alloc (block_alloc (block_alloc (block_new' _ _ _ (by simp)) _) _) _) _) _)
  have e12 : W.heap[w.heap.size + 1 + 1 + 1 + 1 + 1 + 1 + 1 + 1 + 1 + 1 + 1 + 1]? = some (.cells #[.int .u8 0] 139 (0, 0)) := by
    rw [← hW]
    exact (block_alloc (block_alloc (block_alloc (block_alloc (block_new' _ _ _ (by simp)) _) _) _) _)
  have e13 : W.heap[w.heap.size + 1 + 1 + 1 + 1 + 1 + 1 + 1 + 1 + 1 + 1 + 1 + 1 + 1]? = some (.cells #[] 139 (0, 0)) := by
    rw [← hW]
    exact (block_alloc (block_alloc (block_alloc (block_new' _ _ _ (by simp)) _) _) _)
  have e14 : W.heap[w.heap.size + 1 + 1 + 1 + 1 + 1 + 1 + 1 + 1 + 1 + 1 + 1 + 1 + 1 + 1]? = some (.cells #[] 139 (0, 0)) := by
    rw [← hW]
    exact (block_alloc (block_alloc (block_new' _ _ _ (by simp)) _) _)
  have e15 : W.heap[w.heap.size + 1 + 1 + 1 + 1 + 1 + 1 + 1 + 1 + 1 + 1 + 1 + 1 + 1 + 1 + 1]? = some (.cells #[] 139 (0, 0)) := by
    rw [← hW]
    exact (block_alloc (block_new' _ _ _ (by simp)) _)
  have eA : W.heap[w.heap.size + 1 + 1 + 1 + 1 + 1 + 1 + 1 + 1 + 1 + 1 + 1 + 1 + 1 + 1 + 1 + 1]? = some (.cells #[.slice (some ⟨w.heap.size, 0, none⟩) 2 2, .slice (some ⟨w.heap.size + 1, 0, none⟩) 2 2, .slice (some ⟨w.heap.size + 1 + 1, 0, none⟩) 3 3, .slice (some ⟨w.heap.size + 1 + 1 + 1, 0, none⟩) 1 1, .slice (some ⟨w.heap.size + 1 + 1 + 1 + 1, 0, none⟩) 0 0, .slice (some ⟨w.heap.size + 1 + 1 + 1 + 1 + 1, 0, none⟩) 1 1, .slice (some ⟨w.heap.size + 1 + 1 + 1 + 1 + 1 + 1, 0, none⟩) 3 3, .slice (some ⟨w.heap.size + 1 + 1 + 1 + 1 + 1 + 1 + 1, 0, none⟩) 2 2, .slice (some ⟨w.heap.size + 1 + 1 + 1 + 1 + 1 + 1 + 1 + 1, 0, none⟩) 2 2, .slice (some ⟨w.heap.size + 1 + 1 + 1 + 1 + 1 + 1 + 1 + 1 + 1, 0, none⟩) 2 2, .slice (some ⟨w.heap.size + 1 + 1 + 1 + 1 + 1 + 1 + 1 + 1 + 1 + 1, 0, none⟩) 2 2, .slice (some ⟨w.heap.size + 1 + 1 + 1 + 1 + 1 + 1 + 1 + 1 + 1 + 1 + 1, 0, none⟩) 2 2, .slice (some ⟨w.heap.size + 1 + 1 + 1 + 1 + 1 + 1 + 1 + 1 + 1 + 1 + 1 + 1, 0, none⟩) 1 1, .slice (some ⟨w.heap.size + 1 + 1 + 1 + 1 + 1 + 1 + 1 + 1 + 1 + 1 + 1 + 1 + 1, 0, none⟩) 0 0, .slice (some ⟨w.heap.size + 1 + 1 + 1 + 1 + 1 + 1 + 1 + 1 + 1 + 1 + 1 + 1 + 1 + 1, 0, none⟩) 0 0, .slice (some ⟨w.heap.size + 1 + 1 + 1 + 1 + 1 + 1 + 1 + 1 + 1 + 1 + 1 + 1 + 1 + 1 + 1, 0, none⟩) 0 0] 161 (0, 0)) := by
    rw [← hW]
    exact block_new' _ _ _ (by simp)
  clear hW
  have HB := Lib.hid hB
  clear hB
  have E0 := Lib.hid e0
  have E1 := Lib.hid e1
  have E2 := Lib.hid e2
  have E3 := Lib.hid e3
  have E4 := Lib.hid e4
  have E5 := Lib.hid e5
  have E6 := Lib.hid e6
  have E7 := Lib.hid e7
  have E8 := Lib.hid e8
  have E9 := Lib.hid e9
  have E10 := Lib.hid e10
  have E11 := Lib.hid e11
  have E12 := Lib.hid e12
  have E13 := Lib.hid e13
  have E14 := Lib.hid e14
  have E15 := Lib.hid e15
  clear e0 e1 e2 e3 e4 e5 e6 e7 e8 e9 e10 e11 e12 e13 e14 e15
  have hk : k = 1 ∨ k = 2 ∨ k = 3 ∨ k = 4 ∨ k = 5 ∨ k = 6 ∨ k = 7 ∨ k = 8 ∨ k = 9 ∨ k = 10 ∨ k = 11 ∨ k = 12 ∨ k = 13 ∨ k = 14 ∨ k = 15 ∨ k = 16 := by omega
  rcases hk with rfl | rfl | rfl | rfl | rfl | rfl | rfl | rfl | rfl | rfl | rfl | rfl | rfl | rfl | rfl | rfl
  · have q := block_cell eA 0
    simp at q
    clear eA
    go_wp2_with fail
    go_ret
    exact ⟨_, rfl, fld_cells E0.out rfl, block_lt E0.out, HB.out⟩
  · have q := block_cell eA 1
    simp at q
    clear eA
    go_wp2_with fail
    go_ret
    exact ⟨_, rfl, fld_cells E1.out rfl, block_lt E1.out, HB.out⟩
  · have q := block_cell eA 2
    simp at q
    clear eA
    go_wp2_with fail
    go_ret
    exact ⟨_, rfl, fld_cells E2.out rfl, block_lt E2.out, HB.out⟩
  · have q := block_cell eA 3
    simp at q
    clear eA
    go_wp2_with fail
    go_ret
    exact ⟨_, rfl, fld_cells E3.out rfl, block_lt E3.out, HB.out⟩
  · have q := block_cell eA 4
    simp at q
    clear eA
    go_wp2_with fail
    go_ret
    exact ⟨_, rfl, fld_cells E4.out rfl, block_lt E4.out, HB.out⟩
  · have q := block_cell eA 5
    simp at q
    clear eA
    go_wp2_with fail
    go_ret
    exact ⟨_, rfl, fld_cells E5.out rfl, block_lt E5.out, HB.out⟩
  · have q := block_cell eA 6
    simp at q
    clear eA
    go_wp2_with fail
    go_ret
    exact ⟨_, rfl, fld_cells E6.out rfl, block_lt E6.out, HB.out⟩
  · have q := block_cell eA 7
    simp at q
    clear eA
    go_wp2_with fail
    go_ret
    exact ⟨_, rfl, fld_cells E7.out rfl, block_lt E7.out, HB.out⟩
  · have q := block_cell eA 8
    simp at q
    clear eA
    go_wp2_with fail
    go_ret
    exact ⟨_, rfl, fld_cells E8.out rfl, block_lt E8.out, HB.out⟩
  · have q := block_cell eA 9
    simp at q
    clear eA
    go_wp2_with fail
    go_ret
    exact ⟨_, rfl, fld_cells E9.out rfl, block_lt E9.out, HB.out⟩
  · have q := block_cell eA 10
    simp at q
    clear eA
    go_wp2_with fail
    go_ret
    exact ⟨_, rfl, fld_cells E10.out rfl, block_lt E10.out, HB.out⟩
  · have q := block_cell eA 11
    simp at q
    clear eA
    go_wp2_with fail
    go_ret
    exact ⟨_, rfl, fld_cells E11.out rfl, block_lt E11.out, HB.out⟩
  · have q := block_cell eA 12
    simp at q
    clear eA
    go_wp2_with fail
    go_ret
    exact ⟨_, rfl, fld_cells E12.out rfl, block_lt E12.out, HB.out⟩
  · have q := block_cell eA 13
    simp at q
    clear eA
    go_wp2_with fail
    go_ret
    exact ⟨_, rfl, fld_cells E13.out rfl, block_lt E13.out, HB.out⟩
  · have q := block_cell eA 14
    simp at q
    clear eA
    go_wp2_with fail
    go_ret
    exact ⟨_, rfl, fld_cells E14.out rfl, block_lt E14.out, HB.out⟩
  · have q := block_cell eA 15
    simp at q
    clear eA
    go_wp2_with fail
    go_ret
    exact ⟨_, rfl, fld_cells E15.out rfl, block_lt E15.out, HB.out⟩
end Go.Proofs.YtdfkbahlngijcaaDoor

namespace Go.Proofs.YtdfkbahlngijcaaDoor
open Go.RowKit
set_option linter.unusedVariables false

/-- a list of fields in memory, whole -/
def FldAt (w : World) (b : Nat) (l : List Nat) : Prop := ∀ j (h : j < l.length), w.cell? ⟨b, j, none⟩ = some (.int .u8 (l[j] : Nat))
def IdxPost (f : Nat) (l : List Nat) (w : World) (e : Ending) (w' : World) : Prop :=
  (∃ z : Int, e = .returned (.int .i64 z) ∧ (0 ≤ z ↔ f ∈ l)) ∧ w = w'
set_option maxRecDepth 100000 in
set_option maxHeartbeats 4000000 in
theorem findex_any (b f : Nat) (l : List Nat) (w : World) (h : FldAt w b l) (hl : l.length ≤ 10) :
    Calls Tryd.prog 111 #[.slice (some ⟨b, 0, none⟩) l.length l.length, .int .u8 f] w (IdxPost f l w) := by
  have HF := Lib.hid h
  obtain ⟨n, hn⟩ : ∃ n, n = l.length := ⟨_, rfl⟩
  have HN := Lib.hid hn
  rw [← hn] at hl ⊢
  clear hn h
  go_enter Tryd.func111, Tryd.ntmps111
  go_wp2_with fail
  go_loop [8] (fun s8 => ∃ (j : Nat), j ≤ n ∧ s8 = .int .i64 j ∧ ∀ i (h : i < l.length), i < j → l[i] ≠ f) (fun s8 => n - (intOf s8).toNat)
  case atStart => exact ⟨0, Nat.zero_le _, rfl, fun i _ h => absurd h (Nat.not_lt_zero _)⟩
  case round =>
    obtain ⟨j, hj, rfl, hne⟩ := hrel
    have HNE := Lib.hid hne
    clear hne
    by_cases hlt : j < n
    · have hlt' : (j : Int) < (n : Int) := by omega
      have hj0 : (0 : Int) ≤ (j : Int) := by omega
      have HJL := Lib.hid (show j < l.length by rw [← HN.out]; exact hlt)
      have q := HF.out j HJL.out
      obtain ⟨x, hx⟩ : ∃ x, x = l[j]'HJL.out := ⟨_, rfl⟩
      rw [← hx] at q
      have HX := Lib.hid hx
      clear hx
      by_cases he : f = x
      · as_aux_lemma =>
        subst he
        have HM := Lib.hid (show f ∈ l by rw [HX.out]; exact List.getElem_mem _)
        go_wp2_with fail
        go_ret
        exact ⟨⟨j, rfl, fun _ => HM.out, fun _ => by omega⟩, rfl⟩
      · as_aux_lemma =>
        have hf1 : ((f : Int) == (x : Int)) = false := by rw [beq_eq_false_iff_ne]; omega
        have HNX := Lib.hid (show ∀ i (h : i < l.length), i < j + 1 → l[i] ≠ f from fun i h hi => by
          rcases Nat.lt_or_ge i j with h1 | h1
          · exact HNE.out i h h1
          · obtain rfl : i = j := by omega
            rw [← HX.out]; exact fun e => he e.symm)
        clear he
        go_wp2_with fail
        go_round
        case rel => exact ⟨j + 1, by omega, by go_num, HNX.out⟩
        case measure => (simp [intOf] <;> omega)
    · as_aux_lemma =>
      have hlt' : ¬ ((j : Int) < (n : Int)) := by omega
      have HM := Lib.hid (show f ∉ l from fun h => by
        obtain ⟨i, hi, e⟩ := List.getElem_of_mem h
        exact HNE.out i hi (by rw [← HN.out] at hi; omega) e)
      clear hlt
      go_wp2_with fail
      go_ret
      exact ⟨⟨-1, rfl, fun h => absurd h (by decide), fun h => absurd h HM.out⟩, rfl⟩
set_option maxRecDepth 100000 in
set_option maxHeartbeats 4000000 in
theorem fcontains_any (b f : Nat) (l : List Nat) (w : World) (h : FldAt w b l) (hl : l.length ≤ 10) :
    Calls Tryd.prog 90 #[.slice (some ⟨b, 0, none⟩) l.length l.length, .int .u8 f] w fun e w' => e = .returned (.bool (decide (f ∈ l))) ∧ w = w' := by
  have HC := Lib.hid (findex_any b f l w h hl)
  clear h
  generalize l.length = n at *
  go_enter Tryd.func90, Tryd.ntmps90
  go_wp2_with fail
  refine (HC.out).mono ?_; rintro e w1 ⟨⟨z, rfl, hz⟩, rfl⟩
  by_cases h0 : 0 ≤ z
  · have HE := Lib.hid (show decide (f ∈ l) = true from decide_eq_true (hz.1 h0))
    have hd := decide_eq_true h0
    clear hz
    go_wp2_with fail
    go_ret
    exact ⟨by rw [HE.out] <;> rfl, rfl⟩
  · have HE := Lib.hid (show decide (f ∈ l) = false from decide_eq_false fun k => h0 (hz.2 k))
    have hd := decide_eq_false h0
    clear hz
    go_wp2_with fail
    go_ret
    exact ⟨by rw [HE.out] <;> rfl, rfl⟩
def hasB (l : List Nat) (f : Nat) (z1 z2 : Bool) : Bool := if f ∈ l then z2 else z1
set_option maxRecDepth 100000 in
set_option maxHeartbeats 4000000 in
theorem hasF_any (bq b f : Nat) (z1 z2 : Bool) (l : List Nat) (w : World) (hq : w.cell? ⟨bq, 0, none⟩ = some (.slice (some ⟨b, 0, none⟩) l.length l.length)) (h : FldAt w b l) (hl : l.length ≤ 10) :
    Calls Tryd.prog 89 #[.int .u8 f, .bool z1, .bool z2, .pointer (some ⟨bq, 0, none⟩)] w fun e w' => e = .returned (.bool (hasB l f z1 z2)) ∧ w = w' := by
  have HC := Lib.hid (fcontains_any b f l w h hl)
  clear h
  by_cases hm : f ∈ l
  · have HE := Lib.hid (show hasB l f z1 z2 = z2 from if_pos hm)
    rw [decide_eq_true hm] at HC
    generalize l.length = n at *
    clear hm
    go_enter Tryd.func89, Tryd.ntmps89
    go_wp2_with fail
    refine (HC.out).mono ?_; rintro e w1 ⟨rfl, rfl⟩
    go_wp2_with fail
    go_ret
    exact ⟨by rw [HE.out] <;> rfl, rfl⟩
  · have HE := Lib.hid (show hasB l f z1 z2 = z1 from if_neg hm)
    rw [decide_eq_false hm] at HC
    generalize l.length = n at *
    clear hm
    go_enter Tryd.func89, Tryd.ntmps89
    go_wp2_with fail
    refine (HC.out).mono ?_; rintro e w1 ⟨rfl, rfl⟩
    go_wp2_with fail
    go_ret
    exact ⟨by rw [HE.out] <;> rfl, rfl⟩
end Go.Proofs.YtdfkbahlngijcaaDoor

namespace Go.Proofs.YtdfkbahlngijcaaDoor
open Go.RowKit
set_option linter.unusedVariables false

def lsO (x : Ov) : List Nat := fldK x.k.toNat
def p0 (x : Ov) : Bool := hasB (lsO x) 0 (x.slot == 0) (decide (0 ≤ x.slot) && decide (x.slot ≤ 255))
def p1 (x : Ov) : Bool := hasB (lsO x) 1 (x.at_ == 0) (decide (0 ≤ x.at_) && decide (x.at_ ≤ 65535))
def p2 (x : Ov) : Bool := hasB (lsO x) 2 (x.n == 0) (decide (0 ≤ x.n) && decide (x.n ≤ 65535))
def p3 (x : Ov) : Bool := hasB (lsO x) 3 (x.id == 0) true
def p4 (x : Ov) : Bool := hasB (lsO x) 4 (x.g == 0) true
def p5 (x : Ov) : Bool := hasB (lsO x) 5 (decide (x.t.size = 0)) (decide (x.t.size ≤ 256))
/-- can an operation be written? -/
def plainO (x : Ov) : Bool := if x.k < 1 ∨ 16 < x.k then false else p0 x && (p1 x && (p2 x && (p3 x && (p4 x && p5 x))))
theorem hasB_ff (l : List Nat) (f : Nat) : hasB l f false false = false := by unfold hasB; split <;> rfl
theorem fldK_len (k : Nat) : (fldK k).length ≤ 3 := by
  unfold fldK
  split <;> simp
theorem cell_lt {w : World} {b i : Nat} {v : Value} (h : w.cell? ⟨b, i, none⟩ = some v) : b < w.heap.size := by
  rcases Nat.lt_or_ge b w.heap.size with h1 | h1
  · exact h1
  · simp [World.cell?, Array.getElem?_eq_none h1] at h
theorem cell_alloc_old {w : World} {b i : Nat} {v : Value} (h : w.cell? ⟨b, i, none⟩ = some v) (o : Obj) : (w.alloc o).cell? ⟨b, i, none⟩ = some v :=
  (((Below.refl w.heap.size w).alloc (Nat.le_refl _) o).cell (p := ⟨b, i, none⟩) (cell_lt h)).trans h
def oC (x : Ov) : Array Value := #[.int .u8 x.k, .int .i64 x.slot, .int .i64 x.at_, .int .i64 x.n, .int .u32 x.id, .int .u8 x.g, .string x.t]
set_option maxRecDepth 100000 in
set_option maxHeartbeats 16000000 in
theorem plainS_any (x : Ov) (w : World) (ht : x.t.size ≤ 140737488355328) :
    Calls Tryd.prog 63 #[.agg #[.int .u8 x.k, .int .i64 x.slot, .int .i64 x.at_, .int .i64 x.n, .int .u32 x.id, .int .u8 x.g, .string x.t]] w fun e w' => e = .returned (.bool (plainO x)) ∧ Below w.heap.size w w' := by
  have hmf : ∀ (fn : Fn) (first cap : Array Value) (w : World), (Instr.makeFunc fn first cap).run Tryd.prog w = .ok (.func fn first cap) w := fun _ _ _ _ => rfl
  have HB0 := Lib.hid ((Below.refl w.heap.size w).alloc (Nat.le_refl _) (.cells (oC x) 51))
  have HO0 := Lib.hid (block_new w (.cells (oC x) 51))
  by_cases hk : x.k < 1 ∨ 16 < x.k
  · have HE := Lib.hid (show plainO x = false from if_pos hk)
    obtain ⟨k, s, a, n, id, g, t⟩ := x
    replace hk : k < 1 ∨ 16 < k := hk
    by_cases hk1 : k < 1
    · as_aux_lemma =>
      clear hk
      go_enter Tryd.func63, Tryd.ntmps63
      go_wp2_with fail
      go_ret
      exact ⟨by rw [HE.out] <;> rfl, HB0.out⟩
    · as_aux_lemma =>
      have hk2 : 16 < k := by omega
      clear hk
      go_enter Tryd.func63, Tryd.ntmps63
      go_wp2_with fail
      go_ret
      exact ⟨by rw [HE.out] <;> rfl, HB0.out⟩
  · have HPO := Lib.hid (show plainO x = (p0 x && (p1 x && (p2 x && (p3 x && (p4 x && p5 x))))) from if_neg hk)
    obtain ⟨kn, hkn⟩ : ∃ kn : Nat, x.k = kn := ⟨x.k.toNat, by omega⟩
    have hk1 : 1 ≤ kn := by omega
    have hk2 : kn ≤ 16 := by omega
    have HLS := Lib.hid (show lsO x = fldK kn by unfold lsO; rw [hkn, Int.toNat_natCast])
    have HL3 := Lib.hid (fldK_len kn)
    have HFD := Lib.hid (fun u => fields_any kn hk1 hk2 u)
    have HP0 := Lib.hid (show p0 x = hasB (lsO x) 0 (x.slot == 0) (decide (0 ≤ x.slot) && decide (x.slot ≤ 255)) from rfl)
    have HP1 := Lib.hid (show p1 x = hasB (lsO x) 1 (x.at_ == 0) (decide (0 ≤ x.at_) && decide (x.at_ ≤ 65535)) from rfl)
    have HP2 := Lib.hid (show p2 x = hasB (lsO x) 2 (x.n == 0) (decide (0 ≤ x.n) && decide (x.n ≤ 65535)) from rfl)
    have HP3 := Lib.hid (show p3 x = hasB (lsO x) 3 (x.id == 0) true from rfl)
    have HP4 := Lib.hid (show p4 x = hasB (lsO x) 4 (x.g == 0) true from rfl)
    have HP5 := Lib.hid (show p5 x = hasB (lsO x) 5 (decide (x.t.size = 0)) (decide (x.t.size ≤ 256)) from rfl)
    rw [HLS.out] at HP0 HP1 HP2 HP3 HP4 HP5
    generalize plainO x = P at *
    generalize p0 x = b0 at *
    generalize p1 x = b1 at *
    generalize p2 x = b2 at *
    generalize p3 x = b3 at *
    generalize p4 x = b4 at *
    generalize p5 x = b5 at *
    clear HLS hk
    obtain ⟨k, s, a, n, id, g, t⟩ := x
    replace hkn : k = kn := hkn
    subst hkn
    replace ht : t.size ≤ 140737488355328 := ht
    have hg1 : ¬ ((kn : Int) < 1) := by omega
    have hg2 : ¬ ((16 : Int) < (kn : Int)) := by omega
    have hg3 : decide ((16 : Int) < (kn : Int)) = false := decide_eq_false hg2
    obtain ⟨l, hl⟩ : ∃ l, l = fldK kn := ⟨_, rfl⟩
    rw [← hl] at HFD HP0 HP1 HP2 HP3 HP4 HP5 HL3
    clear hl
    go_enter Tryd.func63, Tryd.ntmps63
    go_wp2_with fail
    refine (HFD.out _).mono ?_; rintro e w1 ⟨b, rfl, hc, hlt, hb1⟩
    have HO1 := Lib.hid (show w1.heap[w.heap.size]? = some (.cells #[.int .u8 kn, .int .i64 s, .int .i64 a, .int .i64 n, .int .u32 id, .int .u8 g, .string t] 51 (0, 0)) from block_below hb1 HO0.out (by simp))
    have HB1 := Lib.hid (HB0.out.trans (hb1.mono (by simp)))
    have HS1 := Lib.hid HB1.out.size
    have HF1 := Lib.hid (show FldAt w1 b l from hc)
    clear hc hlt hb1 HFD HB0 HO0
    go_upto_region 4 with (fail)
    generalize hw2 : World.alloc w1 _ = w2
    have HO2 := Lib.hid (show w2.heap[w.heap.size]? = some (.cells #[.int .u8 kn, .int .i64 s, .int .i64 a, .int .i64 n, .int .u32 id, .int .u8 g, .string t] 51 (0, 0)) by rw [← hw2]; exact block_alloc HO1.out _)
    have HB2 := Lib.hid (show Below w.heap.size w w2 by rw [← hw2]; exact HB1.out.alloc HS1.out _)
    have HF2 := Lib.hid (show FldAt w2 b l from fun j hj => by rw [← hw2]; exact cell_alloc_old (HF1.out j hj) _)
    have HQ2 := Lib.hid (show w2.cell? ⟨w1.heap.size, 0, none⟩ = some (.slice (some ⟨b, 0, none⟩) l.length l.length) by rw [← hw2]; exact block_cell (block_new w1 _) 0)
    clear hw2 HO1 HB1 HF1
    have HH := Lib.hid (fun (f : Nat) (z1 z2 : Bool) => hasF_any w1.heap.size b f z1 z2 l w2 HQ2.out HF2.out (by have := HL3.out; omega))
    generalize l.length = ln at *
    generalize w1.heap.size = bq at *
    generalize hbo : w.heap.size = bo at *
    have HBO := Lib.hid hbo
    clear hbo
    have q1 := block_cell HO2.out 1
    have q2 := block_cell HO2.out 2
    have q3 := block_cell HO2.out 3
    have q4 := block_cell HO2.out 4
    have q5 := block_cell HO2.out 5
    have q6 := block_cell HO2.out 6
    simp at q1 q2 q3 q4 q5 q6
    go_upto_region 5 with (fail)
    simp only [List.append_eq, List.cons_append, List.nil_append]
    by_cases g0 : s < 0
    · as_aux_lemma =>
      have z0 : (s == 0) = false := by rw [beq_eq_false_iff_ne]; omega
      have y0 : decide (0 ≤ s) = false := decide_eq_false (by omega)
      have y0' : ¬ (0 ≤ s) := by omega
      have h0 : b0 = false := by rw [HP0.out, z0, y0]; exact hasB_ff l 0
      have hX := hasB_ff l 0
      have HPE := Lib.hid (show P = false by rw [HPO.out, h0]; rfl)
      have HC := Lib.hid (show Calls Tryd.prog 89 #[.int .u8 0, .bool false, .bool false, .pointer (some ⟨bq, 0, none⟩)] w2 fun e w' => e = .returned (.bool false) ∧ w2 = w' by
        have h := HH.out 0 false false
        rw [hX] at h
        exact h)
      go_wp2_with fail
      refine (HC.out).mono ?_; rintro e w3 ⟨rfl, rfl⟩
      go_wp2_with fail
      go_ret
      exact ⟨by rw [HPE.out] <;> rfl, by rw [HBO.out]; exact HB2.out⟩
    · have y0 : 0 ≤ s := by omega
      by_cases u0 : 255 < s
      · as_aux_lemma =>
        have z0 : (s == 0) = false := by rw [beq_eq_false_iff_ne]; omega
        have x0 : decide (s ≤ 255) = false := decide_eq_false (by omega)
        have x0' : ¬ (s ≤ 255) := by omega
        have h0 : b0 = false := by rw [HP0.out, z0, x0, Bool.and_false]; exact hasB_ff l 0
        have hX := hasB_ff l 0
        have HPE := Lib.hid (show P = false by rw [HPO.out, h0]; rfl)
        have HC := Lib.hid (show Calls Tryd.prog 89 #[.int .u8 0, .bool false, .bool false, .pointer (some ⟨bq, 0, none⟩)] w2 fun e w' => e = .returned (.bool false) ∧ w2 = w' by
          have h := HH.out 0 false false
          rw [hX] at h
          exact h)
        go_wp2_with fail
        refine (HC.out).mono ?_; rintro e w3 ⟨rfl, rfl⟩
        go_wp2_with fail
        go_ret
        exact ⟨by rw [HPE.out] <;> rfl, by rw [HBO.out]; exact HB2.out⟩
      · have x0 : s ≤ 255 := by omega
        have hX : b0 = hasB l 0 (s == 0) true := by rw [HP0.out, decide_eq_true y0, decide_eq_true x0]; rfl
        clear g0 u0
        have HC := Lib.hid (show Calls Tryd.prog 89 #[.int .u8 0, .bool (s == 0), .bool true, .pointer (some ⟨bq, 0, none⟩)] w2 fun e w' => e = .returned (.bool b0) ∧ w2 = w' by
          have h := HH.out 0 (s == 0) true
          rw [← hX] at h
          exact h)
        by_cases h0 : b0 = true
        · rw [h0] at HC
          clear hX
          go_wp2_with fail
          refine (HC.out).mono ?_; rintro e w3 ⟨rfl, rfl⟩
          by_cases g1 : a < 0
          · as_aux_lemma =>
            have z1 : (a == 0) = false := by rw [beq_eq_false_iff_ne]; omega
            have y1 : decide (0 ≤ a) = false := decide_eq_false (by omega)
            have y1' : ¬ (0 ≤ a) := by omega
            have h1 : b1 = false := by rw [HP1.out, z1, y1]; exact hasB_ff l 1
            have hX := hasB_ff l 1
            have HPE := Lib.hid (show P = false by rw [HPO.out, h0, h1]; rfl)
            have HC := Lib.hid (show Calls Tryd.prog 89 #[.int .u8 1, .bool false, .bool false, .pointer (some ⟨bq, 0, none⟩)] w2 fun e w' => e = .returned (.bool false) ∧ w2 = w' by
              have h := HH.out 1 false false
              rw [hX] at h
              exact h)
            go_wp2_with fail
            refine (HC.out).mono ?_; rintro e w3 ⟨rfl, rfl⟩
            go_wp2_with fail
            go_ret
            exact ⟨by rw [HPE.out] <;> rfl, by rw [HBO.out]; exact HB2.out⟩
          · have y1 : 0 ≤ a := by omega
            by_cases u1 : 65535 < a
            · as_aux_lemma =>
              have z1 : (a == 0) = false := by rw [beq_eq_false_iff_ne]; omega
              have x1 : decide (a ≤ 65535) = false := decide_eq_false (by omega)
              have x1' : ¬ (a ≤ 65535) := by omega
              have h1 : b1 = false := by rw [HP1.out, z1, x1, Bool.and_false]; exact hasB_ff l 1
              have hX := hasB_ff l 1
              have HPE := Lib.hid (show P = false by rw [HPO.out, h0, h1]; rfl)
              have HC := Lib.hid (show Calls Tryd.prog 89 #[.int .u8 1, .bool false, .bool false, .pointer (some ⟨bq, 0, none⟩)] w2 fun e w' => e = .returned (.bool false) ∧ w2 = w' by
                have h := HH.out 1 false false
                rw [hX] at h
                exact h)
              go_wp2_with fail
              refine (HC.out).mono ?_; rintro e w3 ⟨rfl, rfl⟩
              go_wp2_with fail
              go_ret
              exact ⟨by rw [HPE.out] <;> rfl, by rw [HBO.out]; exact HB2.out⟩
            · have x1 : a ≤ 65535 := by omega
              have hX : b1 = hasB l 1 (a == 0) true := by rw [HP1.out, decide_eq_true y1, decide_eq_true x1]; rfl
              clear g1 u1
              have HC := Lib.hid (show Calls Tryd.prog 89 #[.int .u8 1, .bool (a == 0), .bool true, .pointer (some ⟨bq, 0, none⟩)] w2 fun e w' => e = .returned (.bool b1) ∧ w2 = w' by
                have h := HH.out 1 (a == 0) true
                rw [← hX] at h
                exact h)
              by_cases h1 : b1 = true
              · rw [h1] at HC
                clear hX
                go_wp2_with fail
                refine (HC.out).mono ?_; rintro e w3 ⟨rfl, rfl⟩
                by_cases g2 : n < 0
                · as_aux_lemma =>
                  have z2 : (n == 0) = false := by rw [beq_eq_false_iff_ne]; omega
                  have y2 : decide (0 ≤ n) = false := decide_eq_false (by omega)
                  have y2' : ¬ (0 ≤ n) := by omega
                  have h2 : b2 = false := by rw [HP2.out, z2, y2]; exact hasB_ff l 2
                  have hX := hasB_ff l 2
                  have HPE := Lib.hid (show P = false by rw [HPO.out, h0, h1, h2]; rfl)
                  have HC := Lib.hid (show Calls Tryd.prog 89 #[.int .u8 2, .bool false, .bool false, .pointer (some ⟨bq, 0, none⟩)] w2 fun e w' => e = .returned (.bool false) ∧ w2 = w' by
                    have h := HH.out 2 false false
                    rw [hX] at h
                    exact h)
                  go_wp2_with fail
                  refine (HC.out).mono ?_; rintro e w3 ⟨rfl, rfl⟩
                  go_wp2_with fail
                  go_ret
                  exact ⟨by rw [HPE.out] <;> rfl, by rw [HBO.out]; exact HB2.out⟩
                · have y2 : 0 ≤ n := by omega
                  by_cases u2 : 65535 < n
                  · as_aux_lemma =>
                    have z2 : (n == 0) = false := by rw [beq_eq_false_iff_ne]; omega
                    have x2 : decide (n ≤ 65535) = false := decide_eq_false (by omega)
                    have x2' : ¬ (n ≤ 65535) := by omega
                    have h2 : b2 = false := by rw [HP2.out, z2, x2, Bool.and_false]; exact hasB_ff l 2
                    have hX := hasB_ff l 2
                    have HPE := Lib.hid (show P = false by rw [HPO.out, h0, h1, h2]; rfl)
                    have HC := Lib.hid (show Calls Tryd.prog 89 #[.int .u8 2, .bool false, .bool false, .pointer (some ⟨bq, 0, none⟩)] w2 fun e w' => e = .returned (.bool false) ∧ w2 = w' by
                      have h := HH.out 2 false false
                      rw [hX] at h
                      exact h)
                    go_wp2_with fail
                    refine (HC.out).mono ?_; rintro e w3 ⟨rfl, rfl⟩
                    go_wp2_with fail
                    go_ret
                    exact ⟨by rw [HPE.out] <;> rfl, by rw [HBO.out]; exact HB2.out⟩
                  · have x2 : n ≤ 65535 := by omega
                    have hX : b2 = hasB l 2 (n == 0) true := by rw [HP2.out, decide_eq_true y2, decide_eq_true x2]; rfl
                    clear g2 u2
                    have HC := Lib.hid (show Calls Tryd.prog 89 #[.int .u8 2, .bool (n == 0), .bool true, .pointer (some ⟨bq, 0, none⟩)] w2 fun e w' => e = .returned (.bool b2) ∧ w2 = w' by
                      have h := HH.out 2 (n == 0) true
                      rw [← hX] at h
                      exact h)
                    by_cases h2 : b2 = true
                    · rw [h2] at HC
                      clear hX
                      go_wp2_with fail
                      refine (HC.out).mono ?_; rintro e w3 ⟨rfl, rfl⟩
                      have hX : b3 = hasB l 3 (id == 0) true := HP3.out
                      have HC := Lib.hid (show Calls Tryd.prog 89 #[.int .u8 3, .bool (id == 0), .bool true, .pointer (some ⟨bq, 0, none⟩)] w2 fun e w' => e = .returned (.bool b3) ∧ w2 = w' by
                        have h := HH.out 3 (id == 0) true
                        rw [← hX] at h
                        exact h)
                      by_cases h3 : b3 = true
                      · rw [h3] at HC
                        clear hX
                        go_wp2_with fail
                        refine (HC.out).mono ?_; rintro e w3 ⟨rfl, rfl⟩
                        have hX : b4 = hasB l 4 (g == 0) true := HP4.out
                        have HC := Lib.hid (show Calls Tryd.prog 89 #[.int .u8 4, .bool (g == 0), .bool true, .pointer (some ⟨bq, 0, none⟩)] w2 fun e w' => e = .returned (.bool b4) ∧ w2 = w' by
                          have h := HH.out 4 (g == 0) true
                          rw [← hX] at h
                          exact h)
                        by_cases h4 : b4 = true
                        · rw [h4] at HC
                          clear hX
                          go_wp2_with fail
                          refine (HC.out).mono ?_; rintro e w3 ⟨rfl, rfl⟩
                          by_cases z5 : t.size = 0
                          · as_aux_lemma =>
                            have hX : b5 = hasB l 5 true true := by rw [HP5.out, z5]; rfl
                            obtain rfl := str_empty z5
                            clear z5 ht
                            have HC := Lib.hid (show Calls Tryd.prog 89 #[.int .u8 5, .bool true, .bool true, .pointer (some ⟨bq, 0, none⟩)] w2 fun e w' => e = .returned (.bool b5) ∧ w2 = w' by
                              have h := HH.out 5 true true
                              rw [← hX] at h
                              exact h)
                            by_cases h5 : b5 = true
                            · rw [h5] at HC
                              clear hX
                              go_wp2_with fail
                              refine (HC.out).mono ?_; rintro e w3 ⟨rfl, rfl⟩
                              have HPE := Lib.hid (show P = true by rw [HPO.out, h0, h1, h2, h3, h4, h5]; rfl)
                              go_wp2_with fail
                              go_ret
                              exact ⟨by rw [HPE.out] <;> rfl, by rw [HBO.out]; exact HB2.out⟩
                            · replace h5 := Bool.eq_false_iff.2 h5
                              have HPE := Lib.hid (show P = false by rw [HPO.out, h0, h1, h2, h3, h4, h5]; rfl)
                              rw [h5] at HC
                              clear hX
                              go_wp2_with fail
                              refine (HC.out).mono ?_; rintro e w3 ⟨rfl, rfl⟩
                              go_wp2_with fail
                              go_ret
                              exact ⟨by rw [HPE.out] <;> rfl, by rw [HBO.out]; exact HB2.out⟩
                          · have ne5 := str_some z5
                            by_cases y5 : t.size ≤ 256
                            · as_aux_lemma =>
                              have hX : b5 = hasB l 5 false true := by rw [HP5.out, decide_eq_false z5, decide_eq_true y5]
                              have y5' : (t.size : Int) ≤ 256 := by omega
                              clear z5
                              have HC := Lib.hid (show Calls Tryd.prog 89 #[.int .u8 5, .bool false, .bool true, .pointer (some ⟨bq, 0, none⟩)] w2 fun e w' => e = .returned (.bool b5) ∧ w2 = w' by
                                have h := HH.out 5 false true
                                rw [← hX] at h
                                exact h)
                              by_cases h5 : b5 = true
                              · rw [h5] at HC
                                clear hX
                                go_wp2_with fail
                                refine (HC.out).mono ?_; rintro e w3 ⟨rfl, rfl⟩
                                have HPE := Lib.hid (show P = true by rw [HPO.out, h0, h1, h2, h3, h4, h5]; rfl)
                                go_wp2_with fail
                                go_ret
                                exact ⟨by rw [HPE.out] <;> rfl, by rw [HBO.out]; exact HB2.out⟩
                              · replace h5 := Bool.eq_false_iff.2 h5
                                have HPE := Lib.hid (show P = false by rw [HPO.out, h0, h1, h2, h3, h4, h5]; rfl)
                                rw [h5] at HC
                                clear hX
                                go_wp2_with fail
                                refine (HC.out).mono ?_; rintro e w3 ⟨rfl, rfl⟩
                                go_wp2_with fail
                                go_ret
                                exact ⟨by rw [HPE.out] <;> rfl, by rw [HBO.out]; exact HB2.out⟩
                            · as_aux_lemma =>
                              have h5 : b5 = false := by rw [HP5.out, decide_eq_false z5, decide_eq_false y5]; exact hasB_ff l 5
                              have hX := hasB_ff l 5
                              have y5' : ¬ ((t.size : Int) ≤ 256) := by omega
                              have y5'' : decide ((t.size : Int) ≤ 256) = false := decide_eq_false y5'
                              clear z5 y5
                              have HPE := Lib.hid (show P = false by rw [HPO.out, h0, h1, h2, h3, h4, h5]; rfl)
                              have HC := Lib.hid (show Calls Tryd.prog 89 #[.int .u8 5, .bool false, .bool false, .pointer (some ⟨bq, 0, none⟩)] w2 fun e w' => e = .returned (.bool false) ∧ w2 = w' by
                                have h := HH.out 5 false false
                                rw [hX] at h
                                exact h)
                              go_wp2_with fail
                              refine (HC.out).mono ?_; rintro e w3 ⟨rfl, rfl⟩
                              go_wp2_with fail
                              go_ret
                              exact ⟨by rw [HPE.out] <;> rfl, by rw [HBO.out]; exact HB2.out⟩
                        · replace h4 := Bool.eq_false_iff.2 h4
                          have HPE := Lib.hid (show P = false by rw [HPO.out, h0, h1, h2, h3, h4]; rfl)
                          rw [h4] at HC
                          clear hX
                          go_wp2_with fail
                          refine (HC.out).mono ?_; rintro e w3 ⟨rfl, rfl⟩
                          go_wp2_with fail
                          go_ret
                          exact ⟨by rw [HPE.out] <;> rfl, by rw [HBO.out]; exact HB2.out⟩
                      · replace h3 := Bool.eq_false_iff.2 h3
                        have HPE := Lib.hid (show P = false by rw [HPO.out, h0, h1, h2, h3]; rfl)
                        rw [h3] at HC
                        clear hX
                        go_wp2_with fail
                        refine (HC.out).mono ?_; rintro e w3 ⟨rfl, rfl⟩
                        go_wp2_with fail
                        go_ret
                        exact ⟨by rw [HPE.out] <;> rfl, by rw [HBO.out]; exact HB2.out⟩
                    · replace h2 := Bool.eq_false_iff.2 h2
                      have HPE := Lib.hid (show P = false by rw [HPO.out, h0, h1, h2]; rfl)
                      rw [h2] at HC
                      clear hX
                      go_wp2_with fail
                      refine (HC.out).mono ?_; rintro e w3 ⟨rfl, rfl⟩
                      go_wp2_with fail
                      go_ret
                      exact ⟨by rw [HPE.out] <;> rfl, by rw [HBO.out]; exact HB2.out⟩
              · replace h1 := Bool.eq_false_iff.2 h1
                have HPE := Lib.hid (show P = false by rw [HPO.out, h0, h1]; rfl)
                rw [h1] at HC
                clear hX
                go_wp2_with fail
                refine (HC.out).mono ?_; rintro e w3 ⟨rfl, rfl⟩
                go_wp2_with fail
                go_ret
                exact ⟨by rw [HPE.out] <;> rfl, by rw [HBO.out]; exact HB2.out⟩
        · replace h0 := Bool.eq_false_iff.2 h0
          have HPE := Lib.hid (show P = false by rw [HPO.out, h0]; rfl)
          rw [h0] at HC
          clear hX
          go_wp2_with fail
          refine (HC.out).mono ?_; rintro e w3 ⟨rfl, rfl⟩
          go_wp2_with fail
          go_ret
          exact ⟨by rw [HPE.out] <;> rfl, by rw [HBO.out]; exact HB2.out⟩
end Go.Proofs.YtdfkbahlngijcaaDoor

