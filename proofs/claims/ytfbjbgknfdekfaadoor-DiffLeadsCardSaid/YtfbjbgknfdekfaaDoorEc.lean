/- Diff: the program's reversed: its walk. -/
import Derived.Test.YtfbjbgknfdekfaaDoorEb
namespace Go.Proofs.YtfbjbgknfdekfaaDoor
open Go.RowKit
set_option linter.unusedVariables false

def u8V (c : UInt8) : Value := .int .u8 c.toNat
/-- bytes, of which the last i are written, from the end on -/
def revL (l : List UInt8) (n i : Nat) : List Value := List.replicate (n - i) (.int .u8 0) ++ ((l.take i).reverse).map u8V
theorem revL_zero (l : List UInt8) (n : Nat) : revL l n 0 = List.replicate n (.int .u8 0) := by simp [revL]
theorem revL_end (l : List UInt8) {n : Nat} (h : l.length = n) : revL l n n = l.reverse.map u8V := by
  unfold revL
  rw [List.take_of_length_le (by omega), Nat.sub_self]
  rfl
theorem revL_len (l : List UInt8) {n i : Nat} (h : l.length = n) (hi : i ≤ n) : (revL l n i).length = n := by
  unfold revL
  simp
  omega
theorem revL_set (l : List UInt8) {n i : Nat} (h : l.length = n) (hi : i < n) : (revL l n i).set (n - 1 - i) (u8V (l[i]'(by omega))) = revL l n (i + 1) := by
  unfold revL
  rw [List.take_succ_eq_append_getElem (by omega), List.reverse_append]
  have e : n - i = (n - (i + 1)) + 1 := by omega
  rw [e, List.replicate_succ', List.append_assoc]
  have e2 : n - 1 - i = (List.replicate (n - (i + 1)) (Value.int .u8 0)).length := by simp; omega
  rw [e2, List.set_append_right _ _ (Nat.le_refl _), Nat.sub_self]
  rfl
theorem revL_at (l : List UInt8) {n i : Nat} (h : l.length = n) (hi : i < n) : (revL l n i)[n - 1 - i]? = some (.int .u8 0) := by
  unfold revL
  rw [List.getElem?_append_left (by simp; omega), List.getElem?_replicate, if_pos (by omega)]
theorem made_u8 (n : Nat) : madeCells (Value.int .u8 0).cells (n * 1) = (List.replicate n (Value.int .u8 0)).toArray := by
  have hv : (Value.int .u8 0).cells = #[Value.int .u8 0] := rfl
  rw [hv, Nat.mul_one]
  apply Array.ext
  · simp [madeCells]
  · intro i h1 h2
    simp [madeCells] at h1 ⊢
    rw [Nat.mod_one]
    rfl
theorem mk_bytes (n : Nat) (hn : n ≤ 140737488355328) (w : World) :
    (Instr.makeSlice 47 (.int .i64 n) (.int .i64 n)).run Tryd.prog w = .ok (.slice (some ⟨w.heap.size, 0, none⟩) n n) (w.alloc (.cells (List.replicate n (Value.int .u8 0)).toArray 5)) := by
  obtain ⟨i, hi, h1, h2, h3⟩ := info_parts infoU8
  have := run_make (P := Tryd.prog) w 47 5 i (.int .u8 0) Tryd.underlying47 hi h1 .i64 .i64 n n (by omega) (by omega) (by rw [h3]; omega) (by omega)
  rw [this, h2, Int.toNat_natCast, made_u8]

set_option maxRecDepth 100000 in
set_option maxHeartbeats 4000000 in
theorem reversed_any (s : ByteArray) (w : World) (hs : s.size ≤ 140737488355328) :
    Calls Tryd.prog 30 #[.string s] w fun e w' => e = .returned (.slice (some ⟨w.heap.size, 0, none⟩) s.size s.size) ∧ InB w' (some ⟨w.heap.size, 0, none⟩) s.data.toList.reverse ∧ Below w.heap.size w w' := by
  have hmk := mk_bytes s.size hs
  have hl : s.data.toList.length = s.size := Array.length_toList ..
  have HL := Lib.hid hl
  have HZ := Lib.hid (show (w.alloc (.cells (List.replicate s.size (Value.int .u8 0)).toArray 5)).heap[w.heap.size]? = some (.cells (revL s.data.toList s.size 0).toArray 5 (0, 0)) by rw [revL_zero]; exact block_new _ _)
  have HB := Lib.hid ((Below.refl w.heap.size w).alloc (Nat.le_refl _) (.cells (List.replicate s.size (Value.int .u8 0)).toArray 5))
  clear hl
  go_enter Tryd.func30, Tryd.ntmps30
  go_wp2_with fail
  clear hmk
  go_loopw [4, 10] (fun s4 s10 wr => ∃ (i : Nat), i ≤ s.size ∧ s10 = .int .i64 i ∧ wr.heap[w.heap.size]? = some (.cells (revL s.data.toList s.size i).toArray 5 (0, 0)) ∧ Below w.heap.size w wr) (fun _ s10 _ => s.size - (intOf s10).toNat)
  case atStart => exact ⟨0, Nat.zero_le _, rfl, HZ.out, HB.out⟩
  case round =>
    obtain ⟨i, hi, rfl, hz, hbr⟩ := hrel
    have HZR := Lib.hid hz
    have HBR := Lib.hid hbr
    have hi0 : (0 : Int) ≤ (i : Int) := by omega
    by_cases hlt : i < s.size
    · have hlt1 : (i : Int) < (s.size : Int) := by omega
      obtain ⟨k, hk⟩ : ∃ k, k = s.size - 1 - i := ⟨_, rfl⟩
      have hw1 : IntKind.i64.wrap ((s.size : Int) - 1) = (s.size : Int) - 1 := by rw [IntKind.wrap_i64]; omega
      have hidx : (s.size : Int) - 1 - (i : Int) = (k : Int) := by omega
      have hk1 : (k : Int) < (s.size : Int) := by omega
      have hk0 : (0 : Int) ≤ (k : Int) := by omega
      have hwk : IntKind.i64.wrap (k : Int) = (k : Int) := by rw [IntKind.wrap_i64]; omega
      have c0 : wr.cell? ⟨w.heap.size, k, none⟩ = some (.int .u8 0) := by
        rw [block_cell hz, List.getElem?_toArray, hk]
        exact revL_at _ HL.out hlt
      have f0 := block_free hz k
      have HS := Lib.hid (show (wr.setCell ⟨w.heap.size, k, none⟩ (.int .u8 s[i].toNat)).heap[w.heap.size]? = some (.cells (revL s.data.toList s.size (i + 1)).toArray 5 (0, 0)) by
        rw [block_setCell hz]
        congr 2
        rw [List.setIfInBounds_toArray, hk]
        congr 1
        have h2 : i < s.data.toList.length := by rw [HL.out]; exact hlt
        have h3 : s.data.toList[i] = s[i] := by rw [Array.getElem_toList]; rfl
        rw [← revL_set s.data.toList HL.out hlt, h3]
        rfl)
      have HBS := Lib.hid (hbr.setCell (p := ⟨w.heap.size, k, none⟩) (Nat.le_refl _) (.int .u8 s[i].toNat))
      clear hz hbr hk
      go_wp2_with fail
      go_roundw
      case rel => exact ⟨i + 1, by omega, by go_num, HS.out, HBS.out⟩
      case measure => simp [intOf]; omega
    · have hlt1 : ¬ ((i : Int) < (s.size : Int)) := by omega
      obtain rfl : i = s.size := by omega
      have HIN := Lib.hid (show InB wr (some ⟨w.heap.size, 0, none⟩) s.data.toList.reverse from fun _ => ⟨w.heap.size, 0, rfl, block_lt hz, fun j hj => by
        rw [Nat.zero_add, block_cell hz, List.getElem?_toArray, revL_end _ HL.out, List.getElem?_map, List.getElem?_eq_getElem hj]
        rfl⟩)
      clear hz hbr
      go_wp2_with fail
      go_ret
      exact ⟨rfl, HIN.out, HBR.out⟩
end Go.Proofs.YtfbjbgknfdekfaaDoor
