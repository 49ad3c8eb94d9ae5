/- Deltas: reading: the reader's piece. -/
import Derived.Test.YtkocknhpnmkicaaDoorDr
namespace Go.Proofs.YtkocknhpnmkicaaDoor
open Go.RowKit
set_option linter.unusedVariables false

def PiecePost (br : Nat) (s : ByteArray) (a : Nat) (w : World) (e : Ending) (w' : World) : Prop :=
  match oneP (wordAt s a) with
  | some p => Got br s (a + (wordAt s a).length) (.agg #[.int .u8 p.k, .int .i64 p.n, .string p.t]) w e w'
  | none => Failed br w e w'
theorem PiecePost.bad {br : Nat} {s : ByteArray} {a : Nat} {w : World} {e : Ending} {w' : World} (h : oneP (wordAt s a) = none) (k : Failed br w e w') : PiecePost br s a w e w' := by
  unfold PiecePost
  rw [h]
  exact k
theorem PiecePost.good {br : Nat} {s : ByteArray} {a : Nat} {p : Pc} {w : World} {e : Ending} {w' : World} (h : oneP (wordAt s a) = some p) (k : Got br s (a + (wordAt s a).length) (.agg #[.int .u8 p.k, .int .i64 p.n, .string p.t]) w e w') : PiecePost br s a w e w' := by
  unfold PiecePost
  rw [h]
  exact k
theorem word_cons (s : ByteArray) {a : Nat} (h : a < s.size) (hn : s[a] ≠ 32) : wordAt s a = s[a] :: wordAt s (a + 1) := by
  have e : s.data.toList.length = s.size := Array.length_toList ..
  unfold wordAt
  have h2 : a < s.data.toList.length := by omega
  rw [List.drop_eq_getElem_cons h2]
  have h3 : s.data.toList[a] = s[a] := by rw [Array.getElem_toList]; rfl
  rw [h3, List.takeWhile_cons, if_pos (by simpa using hn)]
theorem word_nil (s : ByteArray) {a : Nat} (h : a < s.size) (hn : s[a] = 32) : wordAt s a = [] := by
  have e : s.data.toList.length = s.size := Array.length_toList ..
  unfold wordAt
  have h2 : a < s.data.toList.length := by omega
  rw [List.drop_eq_getElem_cons h2]
  have h3 : s.data.toList[a] = s[a] := by rw [Array.getElem_toList]; rfl
  rw [h3, List.takeWhile_cons, if_neg (by simp [hn])]
theorem word_none (s : ByteArray) : wordAt s s.size = [] := by
  have e : s.data.toList.length = s.size := Array.length_toList ..
  unfold wordAt
  rw [List.drop_eq_nil_of_le (by omega)]
  rfl
theorem number_some {br : Nat} {s : ByteArray} {a n : Nat} {w : World} (h : RS br s a w) (ha : a ≤ s.size) (hs : s.size ≤ 1000000000) (hn : numP (wordAt s a) = some n) :
    Calls Tryd.prog 67 #[.pointer (some ⟨br, 0, none⟩)] w (Got br s (a + (wordAt s a).length) (.int .i64 n) w) := by
  refine (number_any br s a w h ha hs).mono fun e w' h => ?_
  unfold NumPost at h
  rw [hn] at h
  exact h
theorem number_none {br : Nat} {s : ByteArray} {a : Nat} {w : World} (h : RS br s a w) (ha : a ≤ s.size) (hs : s.size ≤ 1000000000) (hn : numP (wordAt s a) = none) :
    Calls Tryd.prog 67 #[.pointer (some ⟨br, 0, none⟩)] w (Failed br w) := by
  refine (number_any br s a w h ha hs).mono fun e w' h => ?_
  unfold NumPost at h
  rw [hn] at h
  exact h
theorem bytes_some {br : Nat} {s : ByteArray} {a : Nat} {t : List UInt8} {w : World} (h : RS br s a w) (ha : a ≤ s.size) (hs : s.size ≤ 1000000000) (hn : hexF (wordAt s a) = some t) :
    Calls Tryd.prog 68 #[.pointer (some ⟨br, 0, none⟩)] w (Got br s (a + (wordAt s a).length) (.string ⟨t.toArray⟩) w) := by
  refine (bytes_any br s a w h ha hs).mono fun e w' h => ?_
  unfold BytesPost at h
  rw [hn] at h
  exact h
theorem bytes_none {br : Nat} {s : ByteArray} {a : Nat} {w : World} (h : RS br s a w) (ha : a ≤ s.size) (hs : s.size ≤ 1000000000) (hn : hexF (wordAt s a) = none) :
    Calls Tryd.prog 68 #[.pointer (some ⟨br, 0, none⟩)] w (Failed br w) := by
  refine (bytes_any br s a w h ha hs).mono fun e w' h => ?_
  unfold BytesPost at h
  rw [hn] at h
  exact h
/-- a block of the call's own, three cells stored -/
theorem stored3 {w : World} {b : Nat} {x y z k n t : Value} {T : TypeId} (h : w.heap[b]? = some (.cells #[x, y, z] T (0, 0))) :
    (((w.setCell ⟨b, 0, none⟩ k).setCell ⟨b, 1, none⟩ n).setCell ⟨b, 2, none⟩ t).heap[b]? = some (.cells #[k, n, t] T (0, 0)) := block_setCell (block_setCell (block_setCell h 0 k) 1 n) 2 t
theorem grown_alloc {w w' : World} {o : Obj} {r : Option Nat} (h : (w.alloc o).grownBy w' r) : w.grownBy w' r :=
  ⟨h.os, h.tape, h.output, by have := h.size; simp at this; omega, fun k hk hr => by rw [h.block k (by simp; omega) hr]; exact Below.heap_alloc w o k hk⟩
/-- stores into a block of the call's own -/
theorem grown_own {w w' : World} {r : Option Nat} (h : w.grownBy w' r) {p : Addr} (hp : w.heap.size ≤ p.block) (v : Value) : w.grownBy (w'.setCell p v) r :=
  ⟨h.os, h.tape, h.output, by simp [World.setCell]; exact h.size, fun k hk hr => by rw [Below.heap_setCell _ _ _ _ (by omega)]; exact h.block k hk hr⟩
theorem rs_set {w : World} {br : Nat} {s : ByteArray} {a : Nat} (h : RS br s a w) {p : Addr} (hp : p.block ≠ br) (v : Value) : RS br s a (w.setCell p v) := block_setCell_other h hp v

set_option maxRecDepth 100000 in
set_option maxHeartbeats 8000000 in
theorem readPiece_any (br : Nat) (s : ByteArray) (a : Nat) (w : World) (h : RS br s a w) (ha : a ≤ s.size) (hs : s.size ≤ 1000000000) :
    Calls Tryd.prog 60 #[.pointer (some ⟨br, 0, none⟩)] w (PiecePost br s a w) := by
  have hbr : br < w.heap.size := block_lt h
  have HRA := Lib.hid (show RS br s a (w.alloc (.cells #[.int .u8 0, .int .i64 0, .string ByteArray.empty] 38)) from block_alloc h _)
  have HZ := Lib.hid (block_new w (.cells #[.int .u8 0, .int .i64 0, .string ByteArray.empty] 38))
  clear h
  by_cases hlt : a < s.size
  · have HN := Lib.hid (next_ok br s a _ HRA.out hlt hs)
    have HU := Lib.hid (u8lt s[a])
    go_enter Tryd.func60, Tryd.ntmps60
    go_wp2_with fail
    refine (HN.out).mono ?_; rintro e w2 ⟨rfl, hr2, hg2⟩
    have HR2 := Lib.hid hr2
    have HG2 := Lib.hid (grown_alloc hg2)
    have HZ2 := Lib.hid (show w2.heap[w.heap.size]? = some (.cells #[.int .u8 0, .int .i64 0, .string ByteArray.empty] 38 (0, 0)) by
      rw [hg2.block w.heap.size (by simp) (fun e => by injection e with e; omega)]
      exact HZ.out)
    clear hr2 hg2 HN
    by_cases hc61 : s[a] = 61
    · have HWD := Lib.hid (show wordAt s a = 61 :: wordAt s (a + 1) by rw [word_cons s hlt (by rw [hc61]; decide), hc61])
      have hcv : s[a].toNat = 61 := by rw [hc61]; rfl
      rw [hcv]
      clear hc61 hcv
      rcases hx : numP (wordAt s (a + 1)) with _ | x
      · have HNO := Lib.hid (show oneP (wordAt s a) = none by
          rw [HWD.out, oneP_cons, if_neg (by decide), if_pos rfl, hx]; rfl)
        have HNU := Lib.hid (number_none HR2.out (by omega) hs hx)
        clear hx
        go_wp2_with fail
        refine (HNU.out).mono ?_; rintro e w3 ⟨rfl, hg3⟩
        have HP := Lib.hid (PiecePost.bad HNO.out ⟨rfl, grown_trans HG2.out hg3⟩)
        clear hg3
        go_wp2_with fail
        exact ⟨rfl, HP.out⟩
      · have HYE := Lib.hid (show oneP (wordAt s a) = some ⟨1, x, ⟨#[]⟩⟩ by
          rw [HWD.out, oneP_cons, if_neg (by decide), if_pos rfl, hx]; rfl)
        have HNU := Lib.hid (number_some HR2.out (by omega) hs hx)
        have HLN := Lib.hid (show a + (wordAt s a).length = a + 1 + (wordAt s (a + 1)).length by rw [HWD.out, List.length_cons]; omega)
        clear hx
        go_wp2_with fail
        refine (HNU.out).mono ?_; rintro e w3 ⟨rfl, hr3, hg3⟩
        have HR3 := Lib.hid (show RS br s (a + (wordAt s a).length) w3 by rw [HLN.out]; exact hr3)
        have HG3 := Lib.hid (grown_trans HG2.out hg3)
        have hz3 : w3.heap[w.heap.size]? = some (.cells #[.int .u8 0, .int .i64 0, .string ByteArray.empty] 38 (0, 0)) := by
          rw [hg3.block w.heap.size (block_lt HZ2.out) (fun e => by injection e with e; omega)]
          exact HZ2.out
        have HZ3 := Lib.hid hz3
        clear hr3 hg3 HNU
        (have q0 := block_cell hz3 0; have q1 := block_cell hz3 1; have q2 := block_cell hz3 2; have f0 := block_free hz3 0; have f1 := block_free hz3 1; have f2 := block_free hz3 2; have hz := block_lt hz3; simp at q0 q1 q2)
        clear hz3
        go_upto_region 9 with (fail)
        generalize hw4 : World.setCell _ _ _ = w4
        have hz4 : w4.heap[w.heap.size]? = some (.cells #[.int .u8 1, .int .i64 x, .string ⟨#[]⟩] 38 (0, 0)) := by
          rw [← hw4]
          exact stored3 HZ3.out
        have HZ4 := Lib.hid hz4
        have HR4 := Lib.hid (show RS br s (a + (wordAt s a).length) w4 by
          rw [← hw4]
          exact rs_set (rs_set (rs_set HR3.out (by show w.heap.size ≠ br; omega) _) (by show w.heap.size ≠ br; omega) _) (by show w.heap.size ≠ br; omega) _)
        have HG4 := Lib.hid (show w.grownBy w4 (some br) by
          rw [← hw4]
          exact grown_own (grown_own (grown_own HG3.out (Nat.le_refl _) _) (Nat.le_refl _) _) (Nat.le_refl _) _)
        clear hw4 q0 q1 q2 f0 f1 f2 hz
        (have q0 := block_cell hz4 0; have q1 := block_cell hz4 1; have q2 := block_cell hz4 2; have f0 := block_free hz4 0; have f1 := block_free hz4 1; have f2 := block_free hz4 2; have hz := block_lt hz4; simp at q0 q1 q2)
        clear hz4
        go_wp2_with fail
        refine bodyPost_ret (res3 Tryd.results60 (Tryd.isAgg38 _) (Tryd.sizeOf38 _) rfl (stored3 HZ4.out)) rfl (PiecePost.good HYE.out ⟨rfl, ?_, ?_⟩)
        · exact rs_set (rs_set (rs_set HR4.out (by show w.heap.size ≠ br; omega) _) (by show w.heap.size ≠ br; omega) _) (by show w.heap.size ≠ br; omega) _
        · exact grown_own (grown_own (grown_own HG4.out (Nat.le_refl _) _) (Nat.le_refl _) _) (Nat.le_refl _) _
    by_cases hc45 : s[a] = 45
    · have HWD := Lib.hid (show wordAt s a = 45 :: wordAt s (a + 1) by rw [word_cons s hlt (by rw [hc45]; decide), hc45])
      have hcv : s[a].toNat = 45 := by rw [hc45]; rfl
      rw [hcv]
      clear hc45 hcv
      rcases hx : numP (wordAt s (a + 1)) with _ | x
      · have HNO := Lib.hid (show oneP (wordAt s a) = none by
          rw [HWD.out, oneP_cons, if_neg (by decide), if_neg (by decide), if_pos rfl, hx]; rfl)
        have HNU := Lib.hid (number_none HR2.out (by omega) hs hx)
        clear hx
        go_wp2_with fail
        refine (HNU.out).mono ?_; rintro e w3 ⟨rfl, hg3⟩
        have HP := Lib.hid (PiecePost.bad HNO.out ⟨rfl, grown_trans HG2.out hg3⟩)
        clear hg3
        go_wp2_with fail
        exact ⟨rfl, HP.out⟩
      · have HYE := Lib.hid (show oneP (wordAt s a) = some ⟨3, x, ⟨#[]⟩⟩ by
          rw [HWD.out, oneP_cons, if_neg (by decide), if_neg (by decide), if_pos rfl, hx]; rfl)
        have HNU := Lib.hid (number_some HR2.out (by omega) hs hx)
        have HLN := Lib.hid (show a + (wordAt s a).length = a + 1 + (wordAt s (a + 1)).length by rw [HWD.out, List.length_cons]; omega)
        clear hx
        go_wp2_with fail
        refine (HNU.out).mono ?_; rintro e w3 ⟨rfl, hr3, hg3⟩
        have HR3 := Lib.hid (show RS br s (a + (wordAt s a).length) w3 by rw [HLN.out]; exact hr3)
        have HG3 := Lib.hid (grown_trans HG2.out hg3)
        have hz3 : w3.heap[w.heap.size]? = some (.cells #[.int .u8 0, .int .i64 0, .string ByteArray.empty] 38 (0, 0)) := by
          rw [hg3.block w.heap.size (block_lt HZ2.out) (fun e => by injection e with e; omega)]
          exact HZ2.out
        have HZ3 := Lib.hid hz3
        clear hr3 hg3 HNU
        (have q0 := block_cell hz3 0; have q1 := block_cell hz3 1; have q2 := block_cell hz3 2; have f0 := block_free hz3 0; have f1 := block_free hz3 1; have f2 := block_free hz3 2; have hz := block_lt hz3; simp at q0 q1 q2)
        clear hz3
        go_upto_region 9 with (fail)
        generalize hw4 : World.setCell _ _ _ = w4
        have hz4 : w4.heap[w.heap.size]? = some (.cells #[.int .u8 3, .int .i64 x, .string ⟨#[]⟩] 38 (0, 0)) := by
          rw [← hw4]
          exact stored3 HZ3.out
        have HZ4 := Lib.hid hz4
        have HR4 := Lib.hid (show RS br s (a + (wordAt s a).length) w4 by
          rw [← hw4]
          exact rs_set (rs_set (rs_set HR3.out (by show w.heap.size ≠ br; omega) _) (by show w.heap.size ≠ br; omega) _) (by show w.heap.size ≠ br; omega) _)
        have HG4 := Lib.hid (show w.grownBy w4 (some br) by
          rw [← hw4]
          exact grown_own (grown_own (grown_own HG3.out (Nat.le_refl _) _) (Nat.le_refl _) _) (Nat.le_refl _) _)
        clear hw4 q0 q1 q2 f0 f1 f2 hz
        (have q0 := block_cell hz4 0; have q1 := block_cell hz4 1; have q2 := block_cell hz4 2; have f0 := block_free hz4 0; have f1 := block_free hz4 1; have f2 := block_free hz4 2; have hz := block_lt hz4; simp at q0 q1 q2)
        clear hz4
        go_wp2_with fail
        refine bodyPost_ret (res3 Tryd.results60 (Tryd.isAgg38 _) (Tryd.sizeOf38 _) rfl (stored3 HZ4.out)) rfl (PiecePost.good HYE.out ⟨rfl, ?_, ?_⟩)
        · exact rs_set (rs_set (rs_set HR4.out (by show w.heap.size ≠ br; omega) _) (by show w.heap.size ≠ br; omega) _) (by show w.heap.size ≠ br; omega) _
        · exact grown_own (grown_own (grown_own HG4.out (Nat.le_refl _) _) (Nat.le_refl _) _) (Nat.le_refl _) _
    by_cases hc43 : s[a] = 43
    · have HWD := Lib.hid (show wordAt s a = 43 :: wordAt s (a + 1) by rw [word_cons s hlt (by rw [hc43]; decide), hc43])
      have hcv : s[a].toNat = 43 := by rw [hc43]; rfl
      rw [hcv]
      clear hc43 hcv
      rcases hx : hexF (wordAt s (a + 1)) with _ | x
      · have HNO := Lib.hid (show oneP (wordAt s a) = none by
          rw [HWD.out, oneP_cons, if_pos rfl]
          unfold hexF at hx
          by_cases hw : wordAt s (a + 1) = []
          · rw [if_pos hw]
          · rw [if_neg hw] at hx ⊢; rw [hx]; rfl)
        have HNU := Lib.hid (bytes_none HR2.out (by omega) hs hx)
        clear hx
        go_wp2_with fail
        refine (HNU.out).mono ?_; rintro e w3 ⟨rfl, hg3⟩
        have HP := Lib.hid (PiecePost.bad HNO.out ⟨rfl, grown_trans HG2.out hg3⟩)
        clear hg3
        go_wp2_with fail
        exact ⟨rfl, HP.out⟩
      · have HYE := Lib.hid (show oneP (wordAt s a) = some ⟨2, 0, ⟨x.toArray⟩⟩ by
          rw [HWD.out, oneP_cons, if_pos rfl]
          unfold hexF at hx
          by_cases hw : wordAt s (a + 1) = []
          · rw [if_pos hw] at hx; cases hx
          · rw [if_neg hw] at hx ⊢; rw [hx]; rfl)
        have HNU := Lib.hid (bytes_some HR2.out (by omega) hs hx)
        have HLN := Lib.hid (show a + (wordAt s a).length = a + 1 + (wordAt s (a + 1)).length by rw [HWD.out, List.length_cons]; omega)
        clear hx
        go_wp2_with fail
        refine (HNU.out).mono ?_; rintro e w3 ⟨rfl, hr3, hg3⟩
        have HR3 := Lib.hid (show RS br s (a + (wordAt s a).length) w3 by rw [HLN.out]; exact hr3)
        have HG3 := Lib.hid (grown_trans HG2.out hg3)
        have hz3 : w3.heap[w.heap.size]? = some (.cells #[.int .u8 0, .int .i64 0, .string ByteArray.empty] 38 (0, 0)) := by
          rw [hg3.block w.heap.size (block_lt HZ2.out) (fun e => by injection e with e; omega)]
          exact HZ2.out
        have HZ3 := Lib.hid hz3
        clear hr3 hg3 HNU
        (have q0 := block_cell hz3 0; have q1 := block_cell hz3 1; have q2 := block_cell hz3 2; have f0 := block_free hz3 0; have f1 := block_free hz3 1; have f2 := block_free hz3 2; have hz := block_lt hz3; simp at q0 q1 q2)
        clear hz3
        go_upto_region 9 with (fail)
        generalize hw4 : World.setCell _ _ _ = w4
        have hz4 : w4.heap[w.heap.size]? = some (.cells #[.int .u8 2, .int .i64 0, .string ⟨x.toArray⟩] 38 (0, 0)) := by
          rw [← hw4]
          exact stored3 HZ3.out
        have HZ4 := Lib.hid hz4
        have HR4 := Lib.hid (show RS br s (a + (wordAt s a).length) w4 by
          rw [← hw4]
          exact rs_set (rs_set (rs_set HR3.out (by show w.heap.size ≠ br; omega) _) (by show w.heap.size ≠ br; omega) _) (by show w.heap.size ≠ br; omega) _)
        have HG4 := Lib.hid (show w.grownBy w4 (some br) by
          rw [← hw4]
          exact grown_own (grown_own (grown_own HG3.out (Nat.le_refl _) _) (Nat.le_refl _) _) (Nat.le_refl _) _)
        clear hw4 q0 q1 q2 f0 f1 f2 hz
        (have q0 := block_cell hz4 0; have q1 := block_cell hz4 1; have q2 := block_cell hz4 2; have f0 := block_free hz4 0; have f1 := block_free hz4 1; have f2 := block_free hz4 2; have hz := block_lt hz4; simp at q0 q1 q2)
        clear hz4
        go_wp2_with fail
        refine bodyPost_ret (res3 Tryd.results60 (Tryd.isAgg38 _) (Tryd.sizeOf38 _) rfl (stored3 HZ4.out)) rfl (PiecePost.good HYE.out ⟨rfl, ?_, ?_⟩)
        · exact rs_set (rs_set (rs_set HR4.out (by show w.heap.size ≠ br; omega) _) (by show w.heap.size ≠ br; omega) _) (by show w.heap.size ≠ br; omega) _
        · exact grown_own (grown_own (grown_own HG4.out (Nat.le_refl _) _) (Nat.le_refl _) _) (Nat.le_refl _) _
    · have HNO := Lib.hid (show oneP (wordAt s a) = none by
        by_cases h32 : s[a] = 32
        · rw [word_nil s hlt h32]; rfl
        · rw [word_cons s hlt h32, oneP_cons, if_neg hc43, if_neg hc61, if_neg hc45])
      have n1 : ((s[a].toNat : Int) == 61) = false := by rw [beq_eq_false_iff_ne]; exact fun e => hc61 (UInt8.toNat_inj.1 (show s[a].toNat = 61 by omega))
      have n2 : ((s[a].toNat : Int) == 45) = false := by rw [beq_eq_false_iff_ne]; exact fun e => hc45 (UInt8.toNat_inj.1 (show s[a].toNat = 45 by omega))
      have n3 : ((s[a].toNat : Int) == 43) = false := by rw [beq_eq_false_iff_ne]; exact fun e => hc43 (UInt8.toNat_inj.1 (show s[a].toNat = 43 by omega))
      clear hc61 hc45 hc43
      go_wp2_with fail
      refine (fail_any _ _).mono ?_; rintro e w3 ⟨rfl, rfl⟩
      have HP := Lib.hid (PiecePost.bad HNO.out ⟨rfl, HG2.out⟩)
      go_wp2_with fail
      exact ⟨rfl, HP.out⟩
  · obtain rfl : a = s.size := by omega
    have HN := Lib.hid (next_end br s _ HRA.out)
    have HNO := Lib.hid (show oneP (wordAt s s.size) = none by rw [word_none]; rfl)
    go_enter Tryd.func60, Tryd.ntmps60
    go_wp2_with fail
    refine (HN.out).mono ?_; rintro e w2 ⟨rfl, hg2⟩
    have HP := Lib.hid (PiecePost.bad HNO.out ⟨rfl, grown_alloc hg2⟩)
    clear hg2
    go_wp2_with fail
    exact ⟨rfl, HP.out⟩
end Go.Proofs.YtkocknhpnmkicaaDoor
