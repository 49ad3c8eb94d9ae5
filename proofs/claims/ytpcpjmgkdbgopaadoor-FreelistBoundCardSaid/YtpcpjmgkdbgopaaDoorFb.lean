/- The freelist: contracts of Take. -/
import Derived.Test.YtpcpjmgkdbgopaaDoorFa
import Derived.BigQuiet
import Derived.BigRegion
namespace Go.Proofs.YtpcpjmgkdbgopaaDoor
open Go.RowKit

/-- only the list's own blocks are written -/
def KeepL (b : LB) (w w' : World) : Prop :=
  (∀ B, B ≤ w.heap.size → B ≤ b.p → B ≤ b.s → B ≤ b.t → B ≤ b.g → Below B w w') ∧ ∀ q, q < w.heap.size → q ≠ b.p → q ≠ b.s → q ≠ b.t → q ≠ b.g → w'.heap[q]? = w.heap[q]?

theorem KeepL.refl (b : LB) (w : World) : KeepL b w w := ⟨fun B _ _ _ _ _ => Below.refl B w, fun _ _ _ _ _ _ => rfl⟩
theorem KeepL.drewN {b : LB} {w w1 : World} (h : KeepL b w w1) (n : Nat) : KeepL b w (w1.drewN n) :=
  ⟨fun B h0 h1 h2 h3 h4 => let k := h.1 B h0 h1 h2 h3 h4; ⟨k.os, k.tape, k.output, k.size, k.block⟩, h.2⟩
theorem KeepL.drew {b : LB} {w w1 : World} (h : KeepL b w w1) : KeepL b w w1.drew :=
  ⟨fun B h0 h1 h2 h3 h4 => (h.1 B h0 h1 h2 h3 h4).drew, h.2⟩
theorem KeepL.set {b : LB} {w w1 : World} (h : KeepL b w w1) {q : Nat} (hq : q = b.p ∨ q = b.s ∨ q = b.t ∨ q = b.g) (i : Nat) (v : Value) : KeepL b w (w1.setCell ⟨q, i, none⟩ v) :=
  ⟨fun B h0 h1 h2 h3 h4 => (h.1 B h0 h1 h2 h3 h4).setCell (by show B ≤ q; omega) v, fun r hr r1 r2 r3 r4 => by
    rw [Below.heap_setCell _ _ _ _ (by show r ≠ q; omega)]; exact h.2 r hr r1 r2 r3 r4⟩
theorem KeepL.alloc {b : LB} {w w1 : World} (h : KeepL b w w1) (o : Obj) : KeepL b w (w1.alloc o) :=
  ⟨fun B h0 h1 h2 h3 h4 => let k := h.1 B h0 h1 h2 h3 h4; k.alloc (Nat.le_trans h0 k.size) o, fun r hr r1 r2 r3 r4 => by
    rw [Below.heap_alloc _ _ _ (Nat.lt_of_lt_of_le hr (h.1 0 (Nat.zero_le _) (Nat.zero_le _) (Nat.zero_le _) (Nat.zero_le _) (Nat.zero_le _)).size)]; exact h.2 r hr r1 r2 r3 r4⟩
theorem KeepL.trans {b : LB} {w w1 w2 : World} (h : KeepL b w w1) (k : KeepL b w1 w2) : KeepL b w w2 := by
  have hsz := (h.1 0 (Nat.zero_le _) (Nat.zero_le _) (Nat.zero_le _) (Nat.zero_le _) (Nat.zero_le _)).size
  refine ⟨fun B h0 h1 h2 h3 h4 => (h.1 B h0 h1 h2 h3 h4).trans (k.1 B (Nat.le_trans h0 hsz) h1 h2 h3 h4), fun r hr r1 r2 r3 r4 => ?_⟩
  rw [k.2 r (Nat.lt_of_lt_of_le hr hsz) r1 r2 r3 r4]
  exact h.2 r hr r1 r2 r3 r4

theorem isL_ne {w : World} {b : LB} {a0 : Array Value} {n1 m1 n2 m2 n3 m3 : Nat} {k1 k2 k3 : Nat → Value} (h : w.heap[b.p]? = some (.cells a0 63 (0, 0)) ∧
    Arr w b.s 3 n1 m1 k1 ∧ Arr w b.t 66 n2 m2 k2 ∧ Arr w b.g 28 n3 m3 k3) : b.p ≠ b.s ∧ b.p ≠ b.t ∧ b.p ≠ b.g ∧ b.s ≠ b.t ∧ b.s ≠ b.g ∧ b.t ≠ b.g := by
  obtain ⟨h0, ⟨c1, h1, _⟩, ⟨c2, h2, _⟩, ⟨c3, h3, _⟩⟩ := h
  refine ⟨fun e => ?_, fun e => ?_, fun e => ?_, fun e => ?_, fun e => ?_, fun e => ?_⟩
  · rw [e, h1] at h0; injection h0 with h0; injection h0 with _ h0; revert h0; decide
  · rw [e, h2] at h0; injection h0 with h0; injection h0 with _ h0; revert h0; decide
  · rw [e, h3] at h0; injection h0 with h0; injection h0 with _ h0; revert h0; decide
  · rw [e, h2] at h1; injection h1 with h1; injection h1 with _ h1; revert h1; decide
  · rw [e, h3] at h1; injection h1 with h1; injection h1 with _ h1; revert h1; decide
  · rw [e, h3] at h2; injection h2 with h2; injection h2 with _ h2; revert h2; decide

theorem IsL.drewN {w : World} {b : LB} {x : FL} (h : IsL w b x) (n : Nat) : IsL (w.drewN n) b x := h

theorem take_isL {w : World} {b : LB} {x : FL} (h : IsL w b x) (hi : FInv x) {k : Nat} (hm : x.m = k + 1) (n : Nat) :
    IsL (((w.drewN n).setCell ⟨b.p, 0, none⟩ (.slice (some ⟨b.s, 0, none⟩) k x.n)).setCell ⟨b.t, x.sk k, none⟩ (.int .u8 1)) b (takeL x) := by
  obtain ⟨e1, e2, e3, e4, e5, e6⟩ := isL_ne h
  have hs := (hi.lo k (by omega)).1
  obtain ⟨h0, h1, h2, h3⟩ := h.drewN n
  have hk : (takeL x).m = k := by show x.m - 1 = k; omega
  have hst : (takeL x).st = updN x.st (x.sk k) 1 := by show updN x.st (x.sk (x.m - 1)) 1 = _; rw [show x.m - 1 = k by omega]
  refine ⟨?_, ?_, ?_, ?_⟩
  · have := block_setCell_other (block_setCell h0 0 (.slice (some ⟨b.s, 0, none⟩) k x.n)) (p := ⟨b.t, x.sk k, none⟩) (Ne.symm e2) (.int .u8 1)
    rw [this, hk]
    rfl
  · rw [hk]
    exact ((h1.other (p := ⟨b.p, 0, none⟩) e1 _).other (p := ⟨b.t, x.sk k, none⟩) (Ne.symm e4) _).less (by omega)
  · refine ((h2.other (p := ⟨b.p, 0, none⟩) e2 _).set hs (.int .u8 1)).congr fun i _ => ?_
    rw [hst]
    unfold updN
    split <;> rfl
  · exact (h3.other (p := ⟨b.p, 0, none⟩) e3 _).other (p := ⟨b.t, x.sk k, none⟩) e6 _

set_option maxRecDepth 100000 in
set_option maxHeartbeats 2000000 in
theorem take_none (w : World) :
    Calls Tryd.prog 13 #[.pointer none] w fun e w' => e = .returned (.tuple #[.int .u64 0, .int .i64 1]) ∧ w = w' := by
  go_enter Tryd.func13, Tryd.ntmps13
  go_wp2_with fail
  go_ret2
  exact ⟨rfl, rfl⟩

set_option maxRecDepth 100000 in
set_option maxHeartbeats 2000000 in
theorem take_full (b : LB) (x : FL) (w : World) (h : IsL w b x) (hm : x.m = 0) :
    Calls Tryd.prog 13 #[.pointer (some ⟨b.p, 0, none⟩)] w fun e w' => e = .returned (.tuple #[.int .u64 0, .int .i64 6]) ∧ w = w' := by
  obtain ⟨h0, -⟩ := h
  rw [hm] at h0
  clear hm
  (have q0 := block_cell h0 0; have q1 := block_cell h0 1; have q2 := block_cell h0 2; have q3 := block_cell h0 3; have f0 := block_free h0 0; have f1 := block_free h0 1; have f2 := block_free h0 2; have f3 := block_free h0 3; have hz := block_lt h0; simp at q0 q1 q2 q3)
  clear h0
  go_enter Tryd.func13, Tryd.ntmps13
  go_wp2_with fail
  go_ret2
  exact ⟨rfl, rfl⟩

set_option maxRecDepth 100000 in
set_option maxHeartbeats 2000000 in
theorem take_ok (b : LB) (x : FL) (w : World) (h : IsL w b x) (hi : FInv x) (k : Nat) (hm : x.m = k + 1) :
    Calls Tryd.prog 13 #[.pointer (some ⟨b.p, 0, none⟩)] w fun e w' => e = .returned (.tuple #[.int .u64 (hMk (x.sk k) (x.gn (x.sk k))), .int .i64 0]) ∧ IsL w' b (takeL x) ∧ KeepL b w w' := by
  obtain ⟨h0, h1, h2, h3⟩ := h
  have hs := (hi.lo k (by omega)).1
  have hg := hi.gn _ hs
  have hmost := hi.g2
  have hn2 := hi.n2
  have hmn := hi.mn
  have c1 := h1.cell (i := k) (by omega)
  have c2 := h2.cell hs
  have c3 := h3.cell hs
  have f1 := h1.free k
  have f2 := h2.free (x.sk k)
  have f3 := h3.free (x.sk k)
  simp only [encI, encS, encU] at c1 c2 c3
  have h0' := h0
  rw [hm] at h0 hmn
  have hmk : mkOK (x.sk k) (x.gn (x.sk k)) := ⟨by omega, hg.1, by omega⟩
  have hw1 : wrap64 ((k : Int)) = (k : Int) := IntWalk.wrap64_in _ (by omega)
  have hlt : ((x.sk k : Nat) : Int) < (x.n : Int) := by omega
  obtain ⟨n1, n2, n3, n4, n5, n6⟩ := isL_ne ⟨h0, h1, h2, h3⟩
  (have q0 := block_cell h0 0; have q1 := block_cell h0 1; have q2 := block_cell h0 2; have q3 := block_cell h0 3; have f0 := block_free h0 0; have f1 := block_free h0 1; have f2 := block_free h0 2; have f3 := block_free h0 3; have hz := block_lt h0; simp at q0 q1 q2 q3)
  have H0 := Lib.hid h0'
  have H1 := Lib.hid h1
  have H2 := Lib.hid h2
  have H3 := Lib.hid h3
  have HMK := Lib.hid hmk
  have HI := Lib.hid hi
  have HM := Lib.hid hm
  clear h0 h0' h1 h2 h3 hmk hi hm
  go_enter Tryd.func13, Tryd.ntmps13
  go_wp2_with fail
  go_quiet (fail)
  go_wp2_with fail
  go_region
  go_wp2_with fail
  refine (make_ok _ _ _ HMK.out).mono ?_; rintro e w1 ⟨rfl, rfl⟩
  go_wp2_with fail
  go_ret2
  exact ⟨rfl, take_isL ⟨H0.out, H1.out, H2.out, H3.out⟩ HI.out HM.out _, ((KeepL.refl b w).drewN _).set (.inl rfl) _ _ |>.set (.inr (.inr (.inl rfl))) _ _⟩
end Go.Proofs.YtpcpjmgkdbgopaaDoor
