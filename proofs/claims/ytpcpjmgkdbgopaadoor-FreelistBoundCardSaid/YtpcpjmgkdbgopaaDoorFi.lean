/- The freelist: Give of the reference, where a slot is pushed. -/
import Derived.Test.YtpcpjmgkdbgopaaDoorFg
namespace Go.Proofs.YtpcpjmgkdbgopaaDoor
open Go.RowKit

/-- the world before the append -/
def givY (w : World) (b : YB) (x : FL) (s n : Nat) : World :=
  (((w.drewN n).setCell ⟨b.g, s, none⟩ (.int .u64 ((x.gn s : Int) + 1))).setCell ⟨b.t, s, none⟩ (.int .i64 0)).alloc (.cells #[.int .i64 s] 3)

theorem refGive_push_isY {w : World} {b : YB} {x : FL} (h : IsY w b x) {s : Nat} (hs : s < x.n) (hg : x.gn s ≠ x.most) {n : Nat} {w2 : World}
    (ho : w2.ownsRow b.s 3 1 (.slice (some ⟨b.s, 0, none⟩) (x.m + 1) b.cs) (x.m + 1) ((List.range x.m).map (fun i => encI (x.sk i)) ++ [encI s])) (hw : (givY w b x s n).grownBy w2 (some b.s)) :
    IsY (w2.setCell ⟨b.p, 3, none⟩ (.slice (some ⟨b.s, 0, none⟩) (x.m + 1) b.cs)) b (giveL x s) := by
  obtain ⟨h0, h1, h2, h3, e4, hc⟩ := h.drewN n
  obtain ⟨e1, e2, e3, e5, e6⟩ := isY_ne ⟨h0, h1, h2, h3⟩
  unfold giveL
  rw [if_neg hg]
  rw [range_snoc] at ho
  have a0 := block_alloc (block_setCell_other (block_setCell_other h0 (p := ⟨b.g, s, none⟩) (Ne.symm e3) (.int .u64 ((x.gn s : Int) + 1))) (p := ⟨b.t, s, none⟩) (Ne.symm e2) (.int .i64 0)) (.cells #[.int .i64 s] 3)
  have a2 := ((h2.other (p := ⟨b.g, s, none⟩) (Ne.symm e6) (.int .u64 ((x.gn s : Int) + 1))).set hs (.int .i64 0)).alloc (.cells #[.int .i64 s] 3)
  have a3 := ((h3.set hs (.int .u64 ((x.gn s : Int) + 1))).other (p := ⟨b.t, s, none⟩) e6 (.int .i64 0)).alloc (.cells #[.int .i64 s] 3)
  have k0 : w2.heap[b.p]? = _ := (hw.block b.p (block_lt a0) (fun e => by injection e with e; omega)).trans a0
  have k2 := a2.keep (hw.block b.t a2.lt (fun e => by injection e with e; omega))
  have k3 := a3.keep (hw.block b.g a3.lt (fun e => by injection e with e; omega))
  refine ⟨?_, ?_, ?_, ?_, e4, hc⟩
  · have := block_setCell k0 3 (.slice (some ⟨b.s, 0, none⟩) (x.m + 1) b.cs)
    rw [this]
    rfl
  · exact (Arr.of_own ho).other (p := ⟨b.p, 3, none⟩) e1 _
  · refine (k2.other (p := ⟨b.p, 3, none⟩) e2 _).congr fun i _ => ?_
    show _ = encI (updN x.st s 0 i)
    unfold updN
    split <;> rfl
  · refine (k3.other (p := ⟨b.p, 3, none⟩) e3 _).congr fun i _ => ?_
    show _ = encU (updN x.gn s (x.gn s + 1) i)
    unfold updN
    split <;> rfl

theorem givY_cell (w : World) (b : YB) (x : FL) (s n : Nat) : ∀ j u, [encI s][j]? = some u → (givY w b x s n).cell? ((⟨w.heap.size, 0, none⟩ : Addr).add j) = some u := by
  have := cell_one_new (((w.drewN n).setCell ⟨b.g, s, none⟩ (.int .u64 ((x.gn s : Int) + 1))).setCell ⟨b.t, s, none⟩ (.int .i64 0)) (encI s) 3
  have e : (((w.drewN n).setCell ⟨b.g, s, none⟩ (.int .u64 ((x.gn s : Int) + 1))).setCell ⟨b.t, s, none⟩ (.int .i64 0)).heap.size = w.heap.size := by simp [World.setCell]
  rw [e] at this
  exact this
theorem givY_head {w : World} {b : YB} {x : FL} (h : IsY w b x) {s n : Nat} {w2 : World} (hw : (givY w b x s n).grownBy w2 (some b.s)) :
    w2.heap[b.p]? = some (.cells #[.int .u64 x.most, .slice (some ⟨b.t, 0, none⟩) x.n b.ct, .slice (some ⟨b.g, 0, none⟩) x.n b.cg, .slice (some ⟨b.s, 0, none⟩) x.m b.cs] 65 (0, 0)) := by
  obtain ⟨h0, h1, h2, h3, e4, hc⟩ := h.drewN n
  obtain ⟨e1, e2, e3, e5, e6⟩ := isY_ne ⟨h0, h1, h2, h3⟩
  have a0 := block_alloc (block_setCell_other (block_setCell_other h0 (p := ⟨b.g, s, none⟩) (Ne.symm e3) (.int .u64 ((x.gn s : Int) + 1))) (p := ⟨b.t, s, none⟩) (Ne.symm e2) (.int .i64 0)) (.cells #[.int .i64 s] 3)
  exact (hw.block b.p (block_lt a0) (fun e => by injection e with e; omega)).trans a0
theorem givY_own {w : World} {b : YB} {x : FL} (h : IsY w b x) (hcs : b.cs ≤ maxLen) (s n : Nat) : (givY w b x s n).ownsRow b.s 3 1 (.slice (some ⟨b.s, 0, none⟩) x.m b.cs) x.m ((List.range x.m).map (fun i => encI (x.sk i))) := by
  obtain ⟨h0, h1, h2, h3, e4, hc⟩ := h.drewN n
  obtain ⟨e1, e2, e3, e5, e6⟩ := isY_ne ⟨h0, h1, h2, h3⟩
  exact Arr.own (((h1.other (p := ⟨b.g, s, none⟩) (Ne.symm e5) _).other (p := ⟨b.t, s, none⟩) (Ne.symm e4) _).alloc _) hcs

set_option maxRecDepth 100000 in
set_option maxHeartbeats 2000000 in
theorem refGive_push (b : YB) (x : FL) (s g : Nat) (w : World) (hm : mkOK s g) (hd : liveL x (hMk s g)) (hl : IsY w b x) (hi : FInv x) (hg : x.gn s ≠ x.most) (hcs : b.cs ≤ maxLen) :
    Calls Tryd.prog 16 #[.pointer (some ⟨b.p, 0, none⟩), .int .u64 (hMk s g)] w fun e w' => e = .returned (.tuple #[.bool false, .int .i64 0]) ∧ IsY w' b (giveL x s) ∧ KeepL b.toLB w w' := by
  obtain ⟨i0, hi0, hz0, hz1, hz2⟩ := info_parts infoI
  have HS := refLive_any b x (hMk s g) w (hMk_le hm).1 (hMk_le hm).2 hl
  rw [decide_eq_true hd] at HS
  have HS := Lib.hid HS
  have HL := Lib.hid hl
  have HOWN := Lib.hid (givY_own hl hcs s)
  have HCELL := Lib.hid (givY_cell w b x s)
  obtain ⟨s1, s2, s3⟩ := (liveL_mk hm).1 hd
  have hroom := room hi s1 (by omega)
  have hgs := hi.gn s s1
  have hmost := hi.g2
  obtain ⟨l0, l1, l2, l3, n4, hc⟩ := hl
  obtain ⟨n1, n2, n3, n5, n6⟩ := isY_ne ⟨l0, l1, l2, l3⟩
  have hroom2 : x.m + 1 ≤ b.cs := by omega
  have c2 := l2.cell s1
  have c3 := l3.cell s1
  have f2' := l2.free s
  have f3' := l3.free s
  simp only [encI, encU] at c2 c3
  have hsi : ((s : Nat) : Int) < (x.n : Int) := by omega
  have hge : ((x.gn s : Int) == (x.most : Int)) = false := by simp; omega
  have hwr : IntKind.u64.wrap ((x.gn s : Int) + 1) = (x.gn s : Int) + 1 := IntWalk.u64_in _ (by omega)
  (have q0 := block_cell l0 0; have q1 := block_cell l0 1; have q2 := block_cell l0 2; have q3 := block_cell l0 3; have f0 := block_free l0 0; have f1 := block_free l0 1; have f2 := block_free l0 2; have f3 := block_free l0 3; have hz := block_lt l0; simp at q0 q1 q2 q3)
  clear l0 l1 l2 l3 hd s2 s3 hz2 hroom hc hcs
  have HG := Lib.hid hg
  have HROOM2 := Lib.hid hroom2
  have HM := Lib.hid hm
  have HI := Lib.hid hi
  clear hi hm hroom2 hg
  go_enter Tryd.func16, Tryd.ntmps16
  go_wp2_with fail
  refine HS.out.mono ?_; rintro e w1 ⟨rfl, n, rfl⟩
  go_wp2_with fail
  refine (refSlot_mk _ _ _ HM.out).mono ?_; rintro e w1 ⟨rfl, rfl⟩
  go_wp2_with fail
  go_quiet (fail)
  go_wp2_with fail
  go_region
  go_wp2_with (at_builtin; refine wpList_append_fits _ rfl _ _ 45 rfl b.s 3 i0 1 Tryd.underlying45 hi0 hz1 b.s x.m b.cs _ rfl (HOWN.out _) ⟨w.heap.size, 0, none⟩ 1 1 [encI s] rfl rfl (HCELL.out _) (by intro u hu; simp at hu; subst hu; rfl) HROOM2.out ?_)
  intro w2 ho hw
  have p0 := givY_head HL.out hw
  have r0 := block_cell p0 3
  have r1 := block_free p0 3
  simp at r0
  have HO := Lib.hid ho
  have HW := Lib.hid hw
  clear p0 ho hw
  go_wp2_with fail
  go_ret2
  exact ⟨rfl, refGive_push_isY HL.out s1 HG.out HO.out HW.out, ((((((KeepL.refl b.toLB w).drewN _).set (.inr (.inr (.inr rfl))) _ _).set (.inr (.inr (.inl rfl))) _ _).alloc _).grown HW.out).set (.inl rfl) _ _⟩
end Go.Proofs.YtpcpjmgkdbgopaaDoor
