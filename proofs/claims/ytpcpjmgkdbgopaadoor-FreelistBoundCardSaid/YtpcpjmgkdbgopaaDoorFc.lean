/- The reference's freelist in memory; contract of its Take. -/
import Derived.Test.YtpcpjmgkdbgopaaDoorFb
namespace Go.Proofs.YtpcpjmgkdbgopaaDoor
open Go.RowKit

/-- the blocks and the capacities of a list of the reference -/
structure YB extends LB where
  cs : Nat
  ct : Nat
  cg : Nat

def IsY (w : World) (b : YB) (x : FL) : Prop :=
  w.heap[b.p]? = some (.cells #[.int .u64 x.most, .slice (some ⟨b.t, 0, none⟩) x.n b.ct, .slice (some ⟨b.g, 0, none⟩) x.n b.cg, .slice (some ⟨b.s, 0, none⟩) x.m b.cs] 65 (0, 0)) ∧
  Arr w b.s 3 b.cs x.m (fun i => encI (x.sk i)) ∧ Arr w b.t 3 b.ct x.n (fun i => encI (x.st i)) ∧ Arr w b.g 28 b.cg x.n (fun i => encU (x.gn i)) ∧ b.s ≠ b.t ∧ x.n ≤ b.cs

theorem IsY.drewN {w : World} {b : YB} {x : FL} (h : IsY w b x) (n : Nat) : IsY (w.drewN n) b x := h
theorem isY_ne {w : World} {b : YB} {a0 : Array Value} {n1 m1 n2 m2 n3 m3 : Nat} {k1 k2 k3 : Nat → Value} (h : w.heap[b.p]? = some (.cells a0 65 (0, 0)) ∧
    Arr w b.s 3 n1 m1 k1 ∧ Arr w b.t 3 n2 m2 k2 ∧ Arr w b.g 28 n3 m3 k3) : b.p ≠ b.s ∧ b.p ≠ b.t ∧ b.p ≠ b.g ∧ b.s ≠ b.g ∧ b.t ≠ b.g := by
  obtain ⟨h0, ⟨c1, h1, _⟩, ⟨c2, h2, _⟩, ⟨c3, h3, _⟩⟩ := h
  refine ⟨fun e => ?_, fun e => ?_, fun e => ?_, fun e => ?_, fun e => ?_⟩
  · rw [e, h1] at h0; injection h0 with h0; injection h0 with _ h0; revert h0; decide
  · rw [e, h2] at h0; injection h0 with h0; injection h0 with _ h0; revert h0; decide
  · rw [e, h3] at h0; injection h0 with h0; injection h0 with _ h0; revert h0; decide
  · rw [e, h3] at h1; injection h1 with h1; injection h1 with _ h1; revert h1; decide
  · rw [e, h3] at h2; injection h2 with h2; injection h2 with _ h2; revert h2; decide

theorem take_isY {w : World} {b : YB} {x : FL} (h : IsY w b x) (hi : FInv x) {k : Nat} (hm : x.m = k + 1) (n : Nat) :
    IsY (((w.drewN n).setCell ⟨b.p, 3, none⟩ (.slice (some ⟨b.s, 0, none⟩) k b.cs)).setCell ⟨b.t, x.sk k, none⟩ (.int .i64 1)) b (takeL x) := by
  obtain ⟨h0, h1, h2, h3, e4, hc⟩ := h.drewN n
  obtain ⟨e1, e2, e3, e5, e6⟩ := isY_ne ⟨h0, h1, h2, h3⟩
  have hs := (hi.lo k (by omega)).1
  have hk : (takeL x).m = k := by show x.m - 1 = k; omega
  have hst : (takeL x).st = updN x.st (x.sk k) 1 := by show updN x.st (x.sk (x.m - 1)) 1 = _; rw [show x.m - 1 = k by omega]
  refine ⟨?_, ?_, ?_, ?_, e4, hc⟩
  · have := block_setCell_other (block_setCell h0 3 (.slice (some ⟨b.s, 0, none⟩) k b.cs)) (p := ⟨b.t, x.sk k, none⟩) (Ne.symm e2) (.int .i64 1)
    rw [this, hk]
    rfl
  · rw [hk]
    exact ((h1.other (p := ⟨b.p, 3, none⟩) e1 _).other (p := ⟨b.t, x.sk k, none⟩) (Ne.symm e4) _).less (by omega)
  · refine ((h2.other (p := ⟨b.p, 3, none⟩) e2 _).set hs (.int .i64 1)).congr fun i _ => ?_
    rw [hst]
    unfold updN
    split <;> rfl
  · exact (h3.other (p := ⟨b.p, 3, none⟩) e3 _).other (p := ⟨b.t, x.sk k, none⟩) e6 _

set_option maxRecDepth 100000 in
set_option maxHeartbeats 2000000 in
theorem refTake_none (w : World) :
    Calls Tryd.prog 14 #[.pointer none] w fun e w' => e = .returned (.tuple #[.int .u64 0, .int .i64 1]) ∧ w = w' := by
  go_enter Tryd.func14, Tryd.ntmps14
  go_wp2_with fail
  go_ret2
  exact ⟨rfl, rfl⟩

set_option maxRecDepth 100000 in
set_option maxHeartbeats 2000000 in
theorem refTake_full (b : YB) (x : FL) (w : World) (h : IsY w b x) (hm : x.m = 0) :
    Calls Tryd.prog 14 #[.pointer (some ⟨b.p, 0, none⟩)] w fun e w' => e = .returned (.tuple #[.int .u64 0, .int .i64 6]) ∧ w = w' := by
  obtain ⟨h0, -⟩ := h
  rw [hm] at h0
  clear hm
  (have q0 := block_cell h0 0; have q1 := block_cell h0 1; have q2 := block_cell h0 2; have q3 := block_cell h0 3; have f0 := block_free h0 0; have f1 := block_free h0 1; have f2 := block_free h0 2; have f3 := block_free h0 3; have hz := block_lt h0; simp at q0 q1 q2 q3)
  clear h0
  go_enter Tryd.func14, Tryd.ntmps14
  go_wp2_with fail
  go_ret2
  exact ⟨rfl, rfl⟩

set_option maxRecDepth 100000 in
set_option maxHeartbeats 2000000 in
theorem refTake_ok (b : YB) (x : FL) (w : World) (h : IsY w b x) (hi : FInv x) (k : Nat) (hm : x.m = k + 1) :
    Calls Tryd.prog 14 #[.pointer (some ⟨b.p, 0, none⟩)] w fun e w' => e = .returned (.tuple #[.int .u64 (hMk (x.sk k) (x.gn (x.sk k))), .int .i64 0]) ∧ IsY w' b (takeL x) ∧ KeepL b.toLB w w' := by
  have HY := Lib.hid h
  obtain ⟨h0, h1, h2, h3, n4, hc⟩ := h
  have hs := (hi.lo k (by omega)).1
  have hg := hi.gn _ hs
  have hmost := hi.g2
  have hn2 := hi.n2
  have hmn := hi.mn
  have c1 := h1.cell (i := k) (by omega)
  have c2 := h2.cell hs
  have c3 := h3.cell hs
  have f1 := h1.free k
  have f2 := h2.free (x.sk k)
  have f3 := h3.free (x.sk k)
  have hcc : k + 1 ≤ b.cs := by omega
  simp only [encI, encU] at c1 c2 c3
  rw [hm] at h0 hmn
  have hmk : mkOK (x.sk k) (x.gn (x.sk k)) := ⟨by omega, hg.1, by omega⟩
  have hw1 : wrap64 ((k : Int)) = (k : Int) := IntWalk.wrap64_in _ (by omega)
  have hlt : ((x.sk k : Nat) : Int) < (x.n : Int) := by omega
  obtain ⟨n1, n2, n3, n5, n6⟩ := isY_ne ⟨h0, h1, h2, h3⟩
  (have q0 := block_cell h0 0; have q1 := block_cell h0 1; have q2 := block_cell h0 2; have q3 := block_cell h0 3; have f0 := block_free h0 0; have f1 := block_free h0 1; have f2 := block_free h0 2; have f3 := block_free h0 3; have hz := block_lt h0; simp at q0 q1 q2 q3)
  have HMK := Lib.hid hmk
  have HI := Lib.hid hi
  have HM := Lib.hid hm
  clear h0 h1 h2 h3 hmk hi hm hc
  go_enter Tryd.func14, Tryd.ntmps14
  go_wp2_with fail
  go_quiet (fail)
  go_wp2_with fail
  go_region
  go_wp2_with fail
  refine (refMake_ok _ _ _ HMK.out).mono ?_; rintro e w1 ⟨rfl, rfl⟩
  go_wp2_with fail
  go_ret2
  exact ⟨rfl, take_isY HY.out HI.out HM.out _, ((KeepL.refl b.toLB w).drewN _).set (.inl rfl) _ _ |>.set (.inr (.inr (.inl rfl))) _ _⟩
end Go.Proofs.YtpcpjmgkdbgopaaDoor
