/- Text: strings.SplitAfterSeq at a line feed: its iterator. (printed by slim.py.) -/
import Derived.Test.YtdfkbahlngijcaaDoorQWa
import Derived.Test.YtdfkbahlngijcaaDoorSh
import Derived.Shelf.Abstract
import Derived.Shelf.RegionOpen
import Derived.OwnWalkIn
import Derived.TacticsInMore
import Derived.LoopNIn
import Derived.LoopIn
namespace Go.Proofs.YtdfkbahlngijcaaDoor
open Go.RowKit Go.Shelf
attribute [local go_sem] Oper.semAt_some
set_option linter.unusedVariables false

/-- the pieces of a text: each ends behind a line feed, the last one at the end -/
def segs : List UInt8 → List (List UInt8)
  | [] => [[]]
  | c :: l => if c = 10 then [10] :: segs l else match segs l with
    | [] => [[c]]
    | x :: r => (c :: x) :: r
theorem segs_index : ∀ l : List UInt8, (Lib.indexByte l 10 = -1 → segs l = [l]) ∧ ∀ i : Nat, Lib.indexByte l 10 = (i : Int) → i < l.length ∧ segs l = l.take (i + 1) :: segs (l.drop (i + 1))
  | [] => ⟨fun _ => rfl, fun i h => by have e : Lib.indexByte [] 10 = -1 := rfl; rw [e] at h; omega⟩
  | b :: l => by
    have ih := segs_index l
    have hge := Lib.indexByte_ge l 10
    have e : Lib.indexByte (b :: l) 10 = if b == 10 then 0 else if Lib.indexByte l 10 == -1 then -1 else Lib.indexByte l 10 + 1 := rfl
    have es : segs (b :: l) = if b = 10 then [10] :: segs l else match segs l with
      | [] => [[b]]
      | x :: r => (b :: x) :: r := rfl
    rw [e, es]
    by_cases hb : b = 10
    · subst hb
      rw [show ((10 : UInt8) == 10) = true from rfl, if_pos rfl, if_pos rfl]
      refine ⟨fun h => absurd h (by decide), fun i h => ?_⟩
      obtain rfl : i = 0 := by omega
      exact ⟨by simp, rfl⟩
    · have hb' : (b == 10) = false := by rw [beq_eq_false_iff_ne]; exact hb
      rw [if_neg hb, hb']
      simp only [Bool.false_eq_true, if_false]
      by_cases hm : Lib.indexByte l 10 = -1
      · rw [hm, ih.1 hm]
        refine ⟨fun _ => rfl, fun i h => ?_⟩
        have : (-1 : Int) = (i : Int) := h
        omega
      · have hm' : (Lib.indexByte l 10 == -1) = false := by rw [beq_eq_false_iff_ne]; exact hm
        rw [hm']
        simp only [Bool.false_eq_true, if_false]
        refine ⟨fun h => by omega, fun i h => ?_⟩
        obtain ⟨j, rfl⟩ : ∃ j, i = j + 1 := ⟨i - 1, by omega⟩
        obtain ⟨h1, h2⟩ := ih.2 j (by omega)
        rw [h2]
        exact ⟨by simp; omega, rfl⟩
/-- the three boxes of the iterator -/
structure Boxes (b : Nat) (s : List UInt8) (W : World) : Prop where
  s : W.heap[b]? = some (.cells #[.string ⟨s.toArray⟩] 9 (0, 0))
  sep : W.heap[b + 1]? = some (.cells #[.string ⟨#[10]⟩] 9 (0, 0))
  save : W.heap[b + 2]? = some (.cells #[.int .i64 1] 3 (0, 0))
/-- what a round must keep -/
def KeepB (b : Nat) (W W' : World) : Prop := W'.heap[b]? = W.heap[b]? ∧ W'.heap[b + 1]? = W.heap[b + 1]? ∧ W'.heap[b + 2]? = W.heap[b + 2]?
theorem Boxes.kept {b : Nat} {s : List UInt8} {W W' : World} (h : Boxes b s W) (k : KeepB b W W') : Boxes b s W' := ⟨k.1.trans h.s, k.2.1.trans h.sep, k.2.2.trans h.save⟩
theorem Boxes.set {b : Nat} {s : List UInt8} {W : World} (h : Boxes b s W) (t : List UInt8) : Boxes b t (W.setCell ⟨b, 0, none⟩ (.string ⟨t.toArray⟩)) :=
  ⟨block_setCell h.s 0 _, block_setCell_other h.sep (by show b ≠ b + 1; omega) _, block_setCell_other h.save (by show b ≠ b + 2; omega) _⟩
theorem ext_list (l : List UInt8) (a m : Nat) : (⟨l.toArray⟩ : ByteArray).extract a m = ⟨((l.take m).drop a).toArray⟩ := by
  apply ByteArray.ext
  rw [ByteArray.data_extract]
  apply Array.toList_inj.1
  rw [List.toList_toArray, Array.toList_extract, List.extract_eq_take_drop, List.drop_take]
theorem index_any (s : List UInt8) (w : World) : Calls Tryd.prog 104 #[.string ⟨s.toArray⟩, .string ⟨#[10]⟩] w fun e w' => e = .returned (.int .i64 (Lib.indexByte s 10)) ∧ w = w' := by
  have HI := Lib.hid (Tryd.stringslite_Index_one ⟨s.toArray⟩ 10 w)
  rw [show (⟨s.toArray⟩ : ByteArray).data.toList = s from List.toList_toArray ..] at HI
  go_enter Tryd.func104, Tryd.ntmps104
  go_wp2_with fail
  refine (HI.out).mono ?_; rintro e w2 ⟨rfl, rfl⟩
  go_wp2_with fail
  go_ret
  exact ⟨rfl, rfl⟩
def boxLen (b : Nat) (W : World) : Nat := match W.cell? ⟨b, 0, none⟩ with
  | some (.string s) => s.size
  | _ => 0
theorem Boxes.len {b : Nat} {s : List UInt8} {W : World} (h : Boxes b s W) : boxLen b W = s.length := by
  unfold boxLen
  rw [block_cell h.s]
  exact List.size_toArray ..
set_option maxRecDepth 100000 in
set_option maxHeartbeats 4000000 in
theorem segs_seq (s : List UInt8) (hs : s.length ≤ 100000000) (b : Nat) (w : World) (hB : Boxes b s w) (hb : b + 2 < w.heap.size) :
    SeqOf Tryd.prog 102 #[.pointer (some ⟨b + 1, 0, none⟩), .pointer (some ⟨b, 0, none⟩), .pointer (some ⟨b + 2, 0, none⟩)] (fun x : List UInt8 => #[.string ⟨x.toArray⟩]) (KeepB b) b (segs s) w := fun l J Jx W hW hJ hJx hY h0 => by
  have HB0 := Lib.hid (show Boxes b s W from ⟨block_below hW hB.s (block_lt hB.s), block_below hW hB.sep (block_lt hB.sep), block_below hW hB.save (block_lt hB.save)⟩)
  have HJ0 := Lib.hid h0
  have HY := Lib.hid hY
  have HJ := Lib.hid hJ
  have HJX := Lib.hid hJx
  clear h0 hY hJ hJx hB
  have c1 := block_cell HB0.out.sep 0
  simp at c1
  refine callsIn_of_wp Tryd.func102 rfl trivial ?_ rfl
  simp only [Tryd.ntmps102, List.size_toArray, List.length_cons, List.length_nil, Nat.reduceAdd, Nat.reduceSub, Array.replicate_succ, Array.replicate_zero, List.push_toArray, List.append_toArray, List.nil_append, List.cons_append]
  gi_wp2
  gi_loopw [7, 8] (fun _ _ wr => ∃ (pre : List (List UInt8)) (t : List UInt8), segs s = pre ++ segs t ∧ t.length ≤ s.length ∧ Boxes b t wr ∧ J pre wr) (fun _ _ wr => boxLen b wr)
  case atStart => exact ⟨[], s, rfl, Nat.le_refl _, HB0.out, HJ0.out⟩
  case round =>
    obtain ⟨pre, t, hL, htl, hbx, hj⟩ := hrel
    have HL := Lib.hid hL
    have HBX := Lib.hid hbx
    have HJJ := Lib.hid hj
    clear hL hj c1 HB0 HJ0
    have c0 := block_cell hbx.s 0
    have c1 := block_cell hbx.sep 0
    have c2 := block_cell hbx.save 0
    have f0 := block_free hbx.s 0
    have hlen := hbx.len
    simp at c0 c1 c2
    obtain ⟨k1, k2⟩ := segs_index t
    have HIX := Lib.hid (index_any t wr)
    have hge := Lib.indexByte_ge t 10
    by_cases hm : Lib.indexByte t 10 = -1
    · have HS1 := Lib.hid (k1 hm)
      rw [hm] at HIX
      obtain ⟨fn, tmps, assign, body, hy, hR⟩ := HY.out pre t [] wr (by rw [HL.out, HS1.out]) HJJ.out
      clear hm k1 k2 hge hbx hlen
      gi_wp2_with (refine ⟨trivial, ?_⟩; gi_at_call 104; refine (callsIn_wide.2 HIX.out).mono ?_; rintro e w' ⟨rfl, rfl⟩)
      refine hR.mono ?_
      rintro e W' (⟨rfl, hj', hk⟩ | ⟨rfl, hjx⟩)
      · gi_wp2
        go_end0
        exact ⟨⟨_, rfl⟩, .inl (by rw [HL.out, HS1.out]; exact hj')⟩
      · gi_wp2
        go_end0
        exact ⟨⟨_, rfl⟩, .inr ⟨_, by rw [HL.out, HS1.out]; exact List.prefix_refl _, hjx⟩⟩
    · obtain ⟨i, hi⟩ : ∃ i : Nat, Lib.indexByte t 10 = (i : Int) := ⟨(Lib.indexByte t 10).toNat, by omega⟩
      obtain ⟨hit, hseg⟩ := k2 i hi
      have HS1 := Lib.hid hseg
      rw [hi] at HIX
      have hsz : (⟨t.toArray⟩ : ByteArray).size = t.length := List.size_toArray ..
      have hE1 := ext_list t 0 (i + 1)
      rw [List.drop_zero] at hE1
      have hE2 := ext_list t (i + 1) t.length
      rw [List.take_length] at hE2
      have HE1 := Lib.hid hE1
      have HE2 := Lib.hid hE2
      have HSZ := Lib.hid hsz
      have hi0 : (0 : Int) ≤ (i : Int) := by omega
      have hi1 : (0 : Int) ≤ (i : Int) + 1 := by omega
      have hi2 : (i : Int) + 1 ≤ (t.length : Int) := by omega
      have hi3 : t.length ≤ 100000000 := by omega
      obtain ⟨fn, tmps, assign, body, hy, hR⟩ := HY.out pre (t.take (i + 1)) (segs (t.drop (i + 1))) wr (by rw [HL.out, HS1.out]) HJJ.out
      rw [← hE1] at hy
      have HLN := Lib.hid hlen
      have HDL := Lib.hid (show (t.drop (i + 1)).length = t.length - (i + 1) from List.length_drop ..)
      clear hm k1 k2 hge hbx hlen hi hseg hE1 hE2 hsz
      gi_wp2_with (refine ⟨trivial, ?_⟩; gi_at_call 104; refine (callsIn_wide.2 HIX.out).mono ?_; rintro e w' ⟨rfl, rfl⟩)
      refine hR.mono ?_
      rintro e W' (⟨rfl, hj', hk⟩ | ⟨rfl, hjx⟩)
      · have hbx := HBX.out.kept hk
        have HBN := Lib.hid (hbx.set (t.drop (i + 1)))
        have HJN := Lib.hid (HJ.out _ _ _ hj' (grownBy_setCell' W' b (.string ⟨(t.drop (i + 1)).toArray⟩)))
        have d0 := block_cell hbx.s 0
        have d1 := block_cell hbx.sep 0
        have d2 := block_cell hbx.save 0
        have g0 := block_free hbx.s 0
        simp at d0 d1 d2
        clear hj' hk hbx
        gi_wp2
        go_roundw
        case rel => exact ⟨pre ++ [t.take (i + 1)], t.drop (i + 1), by rw [HL.out, HS1.out]; simp, by rw [HDL.out]; omega, by have := HBN.out; rw [← HE2.out] at this; exact this, by have := HJN.out; rw [← HE2.out] at this; exact this⟩
        case measure =>
          have h1 := HBN.out.len
          rw [← HE2.out] at h1
          rw [h1, HBX.out.len, HDL.out]
          omega
      · gi_wp2
        refine bodyPost_ret (results_none rfl _ _ _) rfl ?_
        exact ⟨⟨_, rfl⟩, .inr ⟨_, ⟨segs (t.drop (i + 1)), by rw [HL.out, HS1.out]; simp⟩, hjx⟩⟩
end Go.Proofs.YtdfkbahlngijcaaDoor

