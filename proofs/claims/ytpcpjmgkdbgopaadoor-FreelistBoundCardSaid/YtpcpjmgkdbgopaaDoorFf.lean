/- The freelist: Give of the program, where a slot is pushed. -/
import Derived.Test.YtpcpjmgkdbgopaaDoorFe
import Derived.OwnWalk
import Derived.Maps.AppendAt
namespace Go.Proofs.YtpcpjmgkdbgopaaDoor
open Go.RowKit

theorem Arr.own {w : World} {b : Nat} {t : TypeId} {cap m : Nat} {f : Nat → Value} (h : Arr w b t cap m f) (hc : cap ≤ maxLen) :
    w.ownsRow b t 1 (.slice (some ⟨b, 0, none⟩) m cap) m ((List.range m).map f) := by
  obtain ⟨cur, h1, h2, h3, h4⟩ := h
  refine ⟨by simp, .inr ⟨b, cap, cur, rfl, Nat.le_refl _, h1, h3, hc, by omega, ?_⟩⟩
  apply List.ext_getElem?
  intro i
  rw [List.getElem?_take]
  by_cases hi : i < m
  · rw [if_pos (by omega), Array.getElem?_toList, h4 i hi]
    simp [hi]
  · rw [if_neg (by omega), List.getElem?_eq_none (by simp; omega)]
theorem Arr.of_own {w : World} {b base : Nat} {t : TypeId} {cap m : Nat} {f : Nat → Value} (h : w.ownsRow base t 1 (.slice (some ⟨b, 0, none⟩) m cap) m ((List.range m).map f)) : Arr w b t cap m f := by
  obtain ⟨-, ⟨h, -⟩ | ⟨g, cap', cur, h1, -, h2, h3, -, h4, h5⟩⟩ := h
  · cases h
  · cases h1
    refine ⟨cur, h2, by omega, h3, fun i hi => ?_⟩
    have := congrArg (fun l => l[i]?) h5
    simp only [List.getElem?_take, Array.getElem?_toList] at this
    rw [if_pos (by omega)] at this
    rw [this]
    simp [hi]
theorem range_snoc (m s : Nat) (f : Nat → Nat) (e : Nat → Value) : (List.range m).map (fun i => e (f i)) ++ [e s] = (List.range (m + 1)).map (fun i => e (updN f m s i)) := by
  rw [List.range_succ, List.map_append]
  congr 1
  · apply List.map_congr_left
    intro i hi
    rw [updN_other _ (Nat.ne_of_lt (List.mem_range.1 hi))]
  · simp [updN_same]
theorem KeepL.grown {b : LB} {w w1 w2 : World} (h : KeepL b w w1) (hg : w1.grownBy w2 (some b.s)) : KeepL b w w2 := by
  have hsz := (h.1 0 (Nat.zero_le _) (Nat.zero_le _) (Nat.zero_le _) (Nat.zero_le _) (Nat.zero_le _)).size
  refine ⟨fun B h0 h1 h2 h3 h4 => (h.1 B h0 h1 h2 h3 h4).grown hg (Nat.le_trans h0 hsz) (fun k hk => by injection hk with hk; omega), fun r hr r1 r2 r3 r4 => ?_⟩
  rw [hg.block r (Nat.lt_of_lt_of_le hr hsz) (fun e => by injection e with e; omega)]
  exact h.2 r hr r1 r2 r3 r4

/-- the world before the append -/
def givW (w : World) (b : LB) (x : FL) (s n : Nat) : World :=
  (((w.drewN n).setCell ⟨b.g, s, none⟩ (.int .u64 ((x.gn s : Int) + 1))).setCell ⟨b.t, s, none⟩ (.int .u8 0)).alloc (.cells #[.int .i64 s] 3)

theorem give_push_isL {w : World} {b : LB} {x : FL} (h : IsL w b x) {s : Nat} (hs : s < x.n) (hg : x.gn s ≠ x.most) {n : Nat} {w2 : World}
    (ho : w2.ownsRow b.s 3 1 (.slice (some ⟨b.s, 0, none⟩) (x.m + 1) x.n) (x.m + 1) ((List.range x.m).map (fun i => encI (x.sk i)) ++ [encI s])) (hw : (givW w b x s n).grownBy w2 (some b.s)) :
    IsL (w2.setCell ⟨b.p, 0, none⟩ (.slice (some ⟨b.s, 0, none⟩) (x.m + 1) x.n)) b (giveL x s) := by
  obtain ⟨e1, e2, e3, e4, e5, e6⟩ := isL_ne h
  obtain ⟨h0, h1, h2, h3⟩ := h.drewN n
  unfold giveL
  rw [if_neg hg]
  rw [range_snoc] at ho
  have a0 := block_alloc (block_setCell_other (block_setCell_other h0 (p := ⟨b.g, s, none⟩) (Ne.symm e3) (.int .u64 ((x.gn s : Int) + 1))) (p := ⟨b.t, s, none⟩) (Ne.symm e2) (.int .u8 0)) (.cells #[.int .i64 s] 3)
  have a2 := ((h2.other (p := ⟨b.g, s, none⟩) (Ne.symm e6) (.int .u64 ((x.gn s : Int) + 1))).set hs (.int .u8 0)).alloc (.cells #[.int .i64 s] 3)
  have a3 := ((h3.set hs (.int .u64 ((x.gn s : Int) + 1))).other (p := ⟨b.t, s, none⟩) e6 (.int .u8 0)).alloc (.cells #[.int .i64 s] 3)
  have k0 : w2.heap[b.p]? = _ := (hw.block b.p (block_lt a0) (fun e => by injection e with e; omega)).trans a0
  have k2 := a2.keep (hw.block b.t a2.lt (fun e => by injection e with e; omega))
  have k3 := a3.keep (hw.block b.g a3.lt (fun e => by injection e with e; omega))
  refine ⟨?_, ?_, ?_, ?_⟩
  · have := block_setCell k0 0 (.slice (some ⟨b.s, 0, none⟩) (x.m + 1) x.n)
    rw [this]
    rfl
  · exact (Arr.of_own ho).other (p := ⟨b.p, 0, none⟩) e1 _
  · refine (k2.other (p := ⟨b.p, 0, none⟩) e2 _).congr fun i _ => ?_
    show _ = encS (updN x.st s 0 i)
    unfold updN
    split <;> rfl
  · refine (k3.other (p := ⟨b.p, 0, none⟩) e3 _).congr fun i _ => ?_
    show _ = encU (updN x.gn s (x.gn s + 1) i)
    unfold updN
    split <;> rfl

theorem infoI : (Tryd.prog.info? 3).map (fun i => (i.zero, i.size, i.bytes)) = some (some (.int .i64 0), 1, 8) := by kernel_rfl
theorem givW_cell (w : World) (b : LB) (x : FL) (s n : Nat) : ∀ j u, [encI s][j]? = some u → (givW w b x s n).cell? ((⟨w.heap.size, 0, none⟩ : Addr).add j) = some u := by
  have := cell_one_new (((w.drewN n).setCell ⟨b.g, s, none⟩ (.int .u64 ((x.gn s : Int) + 1))).setCell ⟨b.t, s, none⟩ (.int .u8 0)) (encI s) 3
  have e : (((w.drewN n).setCell ⟨b.g, s, none⟩ (.int .u64 ((x.gn s : Int) + 1))).setCell ⟨b.t, s, none⟩ (.int .u8 0)).heap.size = w.heap.size := by simp [World.setCell]
  rw [e] at this
  exact this
theorem givW_head {w : World} {b : LB} {x : FL} (h : IsL w b x) {s n : Nat} {w2 : World} (hw : (givW w b x s n).grownBy w2 (some b.s)) :
    w2.heap[b.p]? = some (.cells #[.slice (some ⟨b.s, 0, none⟩) x.m x.n, .slice (some ⟨b.t, 0, none⟩) x.n x.n, .slice (some ⟨b.g, 0, none⟩) x.n x.n, .int .u64 x.most] 63 (0, 0)) := by
  obtain ⟨e1, e2, e3, e4, e5, e6⟩ := isL_ne h
  obtain ⟨h0, h1, h2, h3⟩ := h.drewN n
  have a0 := block_alloc (block_setCell_other (block_setCell_other h0 (p := ⟨b.g, s, none⟩) (Ne.symm e3) (.int .u64 ((x.gn s : Int) + 1))) (p := ⟨b.t, s, none⟩) (Ne.symm e2) (.int .u8 0)) (.cells #[.int .i64 s] 3)
  exact (hw.block b.p (block_lt a0) (fun e => by injection e with e; omega)).trans a0
theorem givW_own {w : World} {b : LB} {x : FL} (h : IsL w b x) (hi : FInv x) (s n : Nat) : (givW w b x s n).ownsRow b.s 3 1 (.slice (some ⟨b.s, 0, none⟩) x.m x.n) x.m ((List.range x.m).map (fun i => encI (x.sk i))) := by
  obtain ⟨e1, e2, e3, e4, e5, e6⟩ := isL_ne h
  obtain ⟨h0, h1, h2, h3⟩ := h.drewN n
  have := hi.n2
  exact Arr.own (((h1.other (p := ⟨b.g, s, none⟩) (Ne.symm e5) _).other (p := ⟨b.t, s, none⟩) (Ne.symm e4) _).alloc _) (by unfold maxLen; omega)

set_option maxRecDepth 100000 in
set_option maxHeartbeats 2000000 in
theorem give_push (b : LB) (x : FL) (s g : Nat) (w : World) (hm : mkOK s g) (hd : liveL x (hMk s g)) (hl : IsL w b x) (hi : FInv x) (hg : x.gn s ≠ x.most) :
    Calls Tryd.prog 15 #[.pointer (some ⟨b.p, 0, none⟩), .int .u64 (hMk s g)] w fun e w' => e = .returned (.tuple #[.bool false, .int .i64 0]) ∧ IsL w' b (giveL x s) ∧ KeepL b w w' := by
  obtain ⟨i0, hi0, hz0, hz1, hz2⟩ := info_parts infoI
  have HS := Lib.hid (slot_live b x s g w hm hd hl)
  have HL := Lib.hid hl
  have HOWN := Lib.hid (givW_own hl hi s)
  have HCELL := Lib.hid (givW_cell w b x s)
  obtain ⟨s1, s2, s3⟩ := (liveL_mk hm).1 hd
  have hroom := room hi s1 (by omega)
  have hgs := hi.gn s s1
  have hmost := hi.g2
  obtain ⟨n1, n2, n3, n4, n5, n6⟩ := isL_ne hl
  obtain ⟨l0, l1, l2, l3⟩ := hl
  have c2 := l2.cell s1
  have c3 := l3.cell s1
  have f2' := l2.free s
  have f3' := l3.free s
  simp only [encS, encU] at c2 c3
  have hsi : ((s : Nat) : Int) < (x.n : Int) := by omega
  have hge : ((x.gn s : Int) == (x.most : Int)) = false := by simp; omega
  (have q0 := block_cell l0 0; have q1 := block_cell l0 1; have q2 := block_cell l0 2; have q3 := block_cell l0 3; have f0 := block_free l0 0; have f1 := block_free l0 1; have f2 := block_free l0 2; have f3 := block_free l0 3; have hz := block_lt l0; simp at q0 q1 q2 q3)
  clear l0 l1 l2 l3 hd hm s2 s3 hz2
  have HG := Lib.hid hg
  have HROOM := Lib.hid hroom
  clear hroom hg
  go_enter Tryd.func15, Tryd.ntmps15
  go_wp2_with fail
  refine HS.out.mono ?_; rintro e w1 ⟨rfl, n, rfl⟩
  go_wp2_with fail
  go_quiet (fail)
  go_wp2_with (at_builtin; refine wpList_append_fits _ rfl _ _ 45 rfl b.s 3 i0 1 Tryd.underlying45 hi0 hz1 b.s x.m x.n _ rfl (HOWN.out _) ⟨w.heap.size, 0, none⟩ 1 1 [encI s] rfl rfl (HCELL.out _) (by intro u hu; simp at hu; subst hu; rfl) HROOM.out ?_)
  intro w2 ho hw
  have p0 := givW_head HL.out hw
  have r0 := block_cell p0 0
  have r1 := block_free p0 0
  simp at r0
  have HO := Lib.hid ho
  have HW := Lib.hid hw
  clear p0 ho hw
  go_wp2_with fail
  go_ret2
  exact ⟨rfl, give_push_isL HL.out s1 HG.out HO.out HW.out, ((((((KeepL.refl b w).drewN _).set (.inr (.inr (.inr rfl))) _ _).set (.inr (.inr (.inl rfl))) _ _).alloc _).grown HW.out).set (.inl rfl) _ _⟩
end Go.Proofs.YtpcpjmgkdbgopaaDoor
