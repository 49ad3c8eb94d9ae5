/- The arena's reference: Alloc. -/
import Derived.Test.YtfgkbnnojogjpaaQw
namespace Go.Proofs.Ytfgkbnnojogjpaa
open Go.RowKit
set_option linter.unusedVariables false

theorem core_set {u : World} {b0 : Nat} {C : CB} {A1 : AS} {v0 v' : Value} {M' : List Kn} {y : FL} (hx : u.heap[C.p]? = some (.cells (cellsB C v0 A1) 94 (0, 0))) (hl : IsY u C.lb y) (ha : AllI b0 u v' M') (hC : b0 ≤ C.p) (i : Nat) (z : Value) :
    IsY (u.setCell ⟨C.p, i, none⟩ z) C.lb y ∧ AllI b0 (u.setCell ⟨C.p, i, none⟩ z) v' M' ∧ (u.setCell ⟨C.p, i, none⟩ z).heap[C.p]? = some (.cells ((cellsB C v0 A1).setIfInBounds i z) 94 (0, 0)) := by
  have hty : ∀ (q : Nat) (cs : Array Value) (T : TypeId), u.heap[q]? = some (.cells cs T (0, 0)) → T ≠ 94 → q ≠ C.p := fun q cs T hc hT e => by
    rw [e, hx] at hc; injection hc with hc; injection hc with _ hc; exact hT hc.symm
  obtain ⟨l0, ⟨c1, l1, r1⟩, ⟨c2, l2, r2⟩, ⟨c3, l3, r3⟩, l4⟩ := hl
  refine ⟨⟨block_setCell_other l0 (p := ⟨C.p, i, none⟩) (hty _ _ _ l0 (by decide)).symm z, Arr.other ⟨c1, l1, r1⟩ (p := ⟨C.p, i, none⟩) (hty _ _ _ l1 (by decide)).symm z, Arr.other ⟨c2, l2, r2⟩ (p := ⟨C.p, i, none⟩) (hty _ _ _ l2 (by decide)).symm z, Arr.other ⟨c3, l3, r3⟩ (p := ⟨C.p, i, none⟩) (hty _ _ _ l3 (by decide)).symm z, l4⟩,
    ⟨own_keep4 ha.1 fun q hq => ?_, fun x hx' => (ha.2 x hx').keep fun q hq hc => ?_⟩, block_setCell hx i z⟩
  · obtain ⟨-, cur, hc⟩ := own_typ4 ha.1 hq
    exact Below.heap_setCell _ _ _ _ (hty _ _ _ hc (by decide))
  · refine Below.heap_setCell _ _ _ _ (fun e => ?_)
    have e : q = C.p := e
    rcases hc with hc | ⟨cur, hc⟩
    · omega
    · exact hty _ _ _ hc (by decide) e
/-- the items have grown: where the struct names them yet (1), or does (2) -/
def AfterIt (b0 : Nat) (C : CB) (W : World) (A1 : AS) (v0 : Value) (M : List Kn) (hh : Int) (x : Nd) (p : Nat) (vs : Nat → Value) (u : World) : Prop :=
  ∃ a c' a1 c1, vs 10 = .slice a1 (M.length + 1) c1 ∧ AllI b0 u (.slice a1 (M.length + 1) c1) (M ++ [⟨hh, x, a, c'⟩]) ∧ u.heap[C.p]? = some (.cells (cellsB C (if p = 1 then v0 else .slice a1 (M.length + 1) c1) A1) 94 (0, 0)) ∧ IsY u C.lb A1.x ∧ KeepB b0 C W u
def CpR (b0 : Nat) (x : Nd) (v : Value) (u : World) : Prop := ∃ a c', v = .agg #[.int .i64 x.h, .string x.text, .slice a x.kids.length c'] ∧ KsOK b0 u a x.kids.length c' x.kids
theorem Stab_cp (b0 : Nat) (x : Nd) : Stab (CpR b0 x) := fun _ _ _ ⟨a, c, e, h⟩ hb => ⟨a, c, e, h.later hb⟩
def BdR (b0 : Nat) (hh : Int) (x : Nd) (v : Value) (u : World) : Prop := ∃ a c', v = .agg #[.int .u64 hh, .int .i64 x.h, .string x.text, .slice a x.kids.length c'] ∧ KsOK b0 u a x.kids.length c' x.kids
theorem Stab_bd (b0 : Nat) (hh : Int) (x : Nd) : Stab (BdR b0 hh x) := fun _ _ _ ⟨a, c, e, h⟩ hb => ⟨a, c, e, h.later hb⟩
def BsR (b0 : Nat) (hh : Int) (x : Nd) (v : Value) (u : World) : Prop := ∃ b a c', v = .slice (some ⟨b, 0, none⟩) 1 1 ∧ u.heap[b]? = some (.cells #[.int .u64 hh, .int .i64 x.h, .string x.text, .slice a x.kids.length c'] 101 (0, 0)) ∧ KsOK b0 u a x.kids.length c' x.kids
theorem Stab_bs (b0 : Nat) (hh : Int) (x : Nd) : Stab (BsR b0 hh x) := fun _ _ _ ⟨b, a, c, e, hc, h⟩ hb => ⟨b, a, c, e, block_below hb hc (block_lt hc), h.later hb⟩
def RefR (b0 : Nat) (C : CB) (w : World) (v0 : Value) (A' : AS) (e : Ending) (w' : World) : Prop := ∃ v' M', e = .returned v0 ∧ IsB w' b0 C A' v' M' ∧ KeepB b0 C w w'
theorem IsB.fix_lt {w : World} {b0 : Nat} {C : CB} {A : AS} {v : Value} {M : List Kn} (h : IsB w b0 C A v M) {q : Nat} (hf : C.fix q) : q < w.heap.size := by
  obtain ⟨h0, ⟨l0, l1, l2, l3, _⟩, -, -⟩ := h
  rcases hf with rfl | rfl | rfl | rfl | rfl
  · exact block_lt h0
  · exact block_lt l0
  · exact l1.lt
  · exact l2.lt
  · exact l3.lt

set_option maxRecDepth 100000 in
set_option maxHeartbeats 6000000 in
theorem refAllocA (C : CB) (A : AS) (v : Value) (M : List Kn) (b0 : Nat) (x : Nd) (ao : Option Addr) (c : Nat) (w : World) (hb : IsB w b0 C A v M) (hi : AInv A) (hC : ∀ q, C.fix q → b0 ≤ q) (h0 : b0 ≤ w.heap.size) (hk : KsOK b0 w ao x.kids.length c x.kids) (hal : A.al ≤ 1152921504606846976) :
    Calls Try.prog 26 #[.pointer (some ⟨C.p, 0, none⟩), aggN x.h x.text ao x.kids.length c] w fun e w' => RefR b0 C w (.tuple #[.int .u64 (allocR A x).1, .int .i64 (allocR A x).2]) (allocS A x) e w' := by
  obtain ⟨i0, hi0, hz0, hz1, hz2⟩ := info_parts infoIt
  have hs := hb.small hi
  have HB := Lib.hid hb
  have HI := Lib.hid hi
  have HCF := Lib.hid hC
  have HH0 := Lib.hid h0
  have HK := Lib.hid hk
  have HBX := Lib.hid ((Below.refl w.heap.size w).alloc (Nat.le_refl _) (.cells #[.int .i64 x.h, .string x.text, .slice ao x.kids.length c] 36))
  have HK1 := Lib.hid (hk.later ((Below.refl w.heap.size w).alloc (Nat.le_refl _) (.cells #[.int .i64 x.h, .string x.text, .slice ao x.kids.length c] 36)))
  have HX0 := Lib.hid (block_new w (.cells #[.int .i64 x.h, .string x.text, .slice ao x.kids.length c] 36))
  clear hb hi hC h0 hk
  by_cases hck : checkN x = 0
  · have HCK := Lib.hid hck
    have hn4 := kids4 hck
    have hreach : x.kids.length * 32 ≤ 140737488351232 := by omega
    clear hck
    unfold aggN
    go_enter Try.func26, Try.ntmps26
    go_wp2_with fail
    refine (refCheck_any x ao x.kids.length c _ HK1.out.1).mono ?_; rintro e w1 ⟨rfl, hb1⟩
    rw [HCK.out]
    have HB1 := Lib.hid (below_two HBX.out hb1)
    have HX1 := Lib.hid (block_below hb1 HX0.out (block_lt HX0.out))
    have HK2 := Lib.hid (HK1.out.later hb1)
    have hx1 := HX1.out
    (have q0 := block_cell hx1 0; have q1 := block_cell hx1 1; have q2 := block_cell hx1 2; have f0 := block_free hx1 0; have f1 := block_free hx1 1; have f2 := block_free hx1 2; have hz := block_lt hx1; simp at q0 q1 q2)
    clear hb1 hx1
    go_wp2_with fail
    refine (refKidsA C A v M b0 x ao x.kids.length c w1 (HB.out.below HB1.out) HI.out HK2.out.1 HCK.out).mono ?_; rintro e w2 ⟨rfl, hb2⟩
    have HB2 := Lib.hid (below_two HB1.out hb2)
    have HX2 := Lib.hid (block_below hb2 HX1.out (block_lt HX1.out))
    have HK3a := Lib.hid (HK2.out.later hb2)
    clear hb2 q0 q1 q2 f0 f1 f2 hz HK2 HX1 HB1
    by_cases hke : kidsE A x.h x.kids = 0
    · have HKE := Lib.hid hke
      rw [hke]
      clear hke
      have HIB2 := Lib.hid (HB.out.below HB2.out)
      have hp2 := HIB2.out.p
      unfold cellsB at hp2
      (have q0 := block_cell hp2 0; have q1 := block_cell hp2 1; have q2 := block_cell hp2 2; have q3 := block_cell hp2 3; have q4 := block_cell hp2 4; have q5 := block_cell hp2 5; have q6 := block_cell hp2 6; have q7 := block_cell hp2 7; have q8 := block_cell hp2 8; have f0 := block_free hp2 0; have f1 := block_free hp2 1; have f2 := block_free hp2 2; have f3 := block_free hp2 3; have f4 := block_free hp2 4; have f5 := block_free hp2 5; have f6 := block_free hp2 6; have f7 := block_free hp2 7; have f8 := block_free hp2 8; have hz := block_lt hp2; simp at q0 q1 q2 q3 q4 q5 q6 q7 q8)
      clear hp2
      have hta := refTake_any C.lb A.x w2 HIB2.out.l HI.out.f
      rcases take_two A.x HI.out.f with ⟨hm0, htr, hts⟩ | ⟨hm0, htr, hts, hth⟩
      · rw [htr, hts] at hta
        have HTA := Lib.hid hta
        have HR := Lib.hid ((allocR_take HCK.out HKE.out).trans htr)
        clear hta hm0 htr hts
        go_wp2_with fail
        refine HTA.out.mono ?_; rintro e w3 ⟨rfl, t1, k1⟩
        have HB3 := Lib.hid (HIB2.out.list (KeepB.of_list (Nat.le_trans HH0.out HB2.out.size) HCF.out k1) t1 k1)
        have HKP := Lib.hid ((KeepB.of_below HH0.out HB2.out).trans (KeepB.of_list (Nat.le_trans HH0.out HB2.out.size) HCF.out k1))
        clear t1 k1
        go_wp2_with fail
        go_ret2
        refine ⟨v, M, ?_, ?_, HKP.out⟩
        · rw [HR.out]; rfl
        · rw [allocS_no (by rw [HR.out]; decide)]; exact HB3.out
      · rw [htr, hts] at hta
        have HTA := Lib.hid hta
        have HR := Lib.hid ((allocR_take HCK.out HKE.out).trans htr)
        have HHR := Lib.hid (hMk_le hth)
        clear hta hm0 htr hts hth
        generalize hMk (A.x.sk (A.x.m - 1)) (A.x.gn (A.x.sk (A.x.m - 1))) = hh at *
        go_wp2_with fail
        refine HTA.out.mono ?_; rintro e w3 ⟨rfl, t1, k1⟩
        have HB3 := Lib.hid (HIB2.out.list (KeepB.of_list (Nat.le_trans HH0.out HB2.out.size) HCF.out k1) t1 k1)
        have HKP := Lib.hid ((KeepB.of_below HH0.out HB2.out).trans (KeepB.of_list (Nat.le_trans HH0.out HB2.out.size) HCF.out k1))
        have hnf := fun q' (hf : C.fix q') (e : w.heap.size = q') => Nat.lt_irrefl _ (by have := HB.out.fix_lt hf; omega : w.heap.size < w.heap.size)
        have HX3 := Lib.hid ((k1.2 _ (block_lt HX2.out) (hnf _ (.inr (.inl rfl))) (hnf _ (.inr (.inr (.inl rfl)))) (hnf _ (.inr (.inr (.inr (.inl rfl))))) (hnf _ (.inr (.inr (.inr (.inr rfl)))))).trans HX2.out)
        have HK3 := Lib.hid (HK3a.out.turnB HIB2.out (KeepB.of_list (Nat.le_trans HH0.out HB2.out.size) HCF.out k1))
        have HP3 := Lib.hid (show w3.heap[C.p]? = some (.cells #[.pointer (some ⟨C.lb.p, 0, none⟩), v, .int .i64 0, .int .i64 0, .int .i64 0, .int .i64 0, .int .i64 A.al, .int .i64 A.fr, .int .i64 A.st] 94 (0, 0)) from HB3.out.p)
        have HH3 := Lib.hid (Nat.le_trans HH0.out HKP.out.1.size)
        clear t1 k1 hnf q0 q1 q2 q3 q4 q5 q6 q7 q8 f0 f1 f2 f3 f4 f5 f6 f7 f8 hz HX2 HK3a HTA HIB2
        go_wp2_with fail
        refine wp_region_plan [.pure, .make, .make, .make, .make, .make, .make, .make, .make, .make, .write 0, .pure, .pure, .write 1] [1, 2, 3, 4, 5, 6, 7, 8, 9] 2 (AfterIt b0 C w3 { A with x := takeL A.x } v M hh x) (by kernel_rfl) (by decide) (by kernel_rfl) (by kernel_rfl) (by kernel_rfl) (by kernel_rfl) (fun p vs vs' u h hE => by unfold AfterIt at hE ⊢; rw [← h 10 (by decide)] at hE; exact hE) ?_
        simp only [fill, Act.put, List.setIfInBounds_toArray, List.set_cons_zero, List.set_cons_succ, Nat.zero_add, Nat.reduceAdd, List.zip_cons_cons, List.zip_nil_right]
        apply OpsIs.pure
        · intro vs u hd
          clear hd
          go_wp2_with fail
          exact ⟨rfl, _, rfl, rfl, fun _ => rfl⟩
        apply OpsIs.eq
        · intro vs u hb hd
          clear hd
          go_wp2_with fail
          exact ⟨rfl, _, rfl, Below.refl _ _, rfl⟩
        apply OpsIs.eq
        · intro vs u hb hd
          have e1 := hd ⟨1, .data⟩ (by simp) (by decide)
          simp at e1
          clear hd
          simp only [e1]
          go_wp2_with fail
          exact ⟨rfl, _, rfl, Below.refl _ _, rfl⟩
        apply OpsIs.eq
        · intro vs u hb hd
          have e2 := hd ⟨2, .data⟩ (by simp) (by decide)
          simp at e2
          clear hd
          simp only [e2]
          go_wp2_with fail
          exact ⟨rfl, _, rfl, Below.refl _ _, rfl⟩
        apply OpsIs.eq
        · intro vs u hb hd
          have e3 := hd ⟨3, .data⟩ (by simp) (by decide)
          simp at e3
          clear hd
          simp only [e3]
          have q := block_below hb HP3.out (block_lt HP3.out)
          have p0 := block_cell q 0
          have p1 := block_cell q 1
          simp at p0 p1
          clear q
          go_wp2_with fail
          exact ⟨rfl, _, rfl, Below.refl _ _, rfl⟩
        apply OpsIs.eq
        · intro vs u hb hd
          clear hd
          go_wp2_with fail
          exact ⟨rfl, _, rfl, Below.refl _ _, rfl⟩
        apply OpsIs.eq
        · intro vs u hb hd
          clear hd
          have q := block_below hb HX3.out (block_lt HX3.out)
          have p0 := block_cell q 0
          have p1 := block_cell q 1
          have p2 := block_cell q 2
          simp at p0 p1 p2
          clear q
          go_wp2_with fail
          exact ⟨rfl, _, rfl, Below.refl _ _, rfl⟩
        refine OpsIs.step (CpR b0 x) (Stab_cp _ _) ?_ ?_
        · intro vs u hb hd
          have e6 := hd ⟨6, .data⟩ (by simp) (by decide)
          simp at e6
          clear hd
          simp only [e6]
          go_wp2_with fail
          refine (copyNode_any x ao x.kids.length c u (HK3.out.1.later hb) hreach).mono ?_; rintro e w1 ⟨v7, rfl, ⟨s7, rfl, hks⟩, hbel⟩; obtain ⟨a, c', rfl, hok⟩ := hks.ok (b0 := b0); go_wp2_with fail; exact ⟨rfl, _, rfl, hbel, a, c', rfl, hok⟩
        refine OpsIs.step (BdR b0 hh x) (Stab_bd _ _ _) ?_ ?_
        · intro vs u hb hd
          have e5 := hd ⟨5, .data⟩ (by simp) (by decide)
          simp at e5
          obtain ⟨a7, c7, e7, hk7⟩ := hd ⟨7, .data⟩ (by simp) (by decide)
          clear hd
          simp only [e5, e7]
          go_wp2_with fail
          exact ⟨rfl, _, rfl, Below.refl _ _, a7, c7, rfl, hk7⟩
        refine OpsIs.step (BsR b0 hh x) (Stab_bs _ _ _) ?_ ?_
        · intro vs u hb hd
          obtain ⟨a8, c8, e8, hk8⟩ := hd ⟨8, .data⟩ (by simp) (by decide)
          clear hd
          simp only [e8]
          go_wp2_with fail
          exact ⟨rfl, _, rfl, (Below.refl _ _).alloc (Nat.le_refl _) _, _, a8, c8, rfl, block_new _ _, hk8.later ((Below.refl _ _).alloc (Nat.le_refl _) _)⟩
        refine OpsIs.first ?_ ?_
        · intro vs u hb hdis hd
          have e4 := hd 4 (by simp)
          simp at e4
          obtain ⟨b9, a9, c9, e9, hb9, hk9⟩ := hd 9 (by simp)
          clear hd
          simp only [e4, e9]
          have HBU := Lib.hid (HB3.out.below hb)
          have HOW := Lib.hid HBU.out.a.1
          have HN9 := Lib.hid hb9
          have HK9 := Lib.hid hk9
          have HBB := Lib.hid hb
          have hszu := hb.size
          have hb0u : b0 ≤ u.heap.size := Nat.le_trans HH3.out hb.size
          clear hb9 hk9 hb
          go_wp2_with (at_builtin; refine wpList_append_own _ rfl _ _ 92 rfl b0 101 i0 (.agg #[.int .u64 0, .int .i64 0, .string ⟨#[]⟩, .slice none 0 0]) 4 56 Try.underlying92 hi0 hz0 hz1 hz2 rfl (by decide) _ M.length (flatR fKn M) rfl HOW.out ⟨b9, 0, none⟩ 1 _ (flatR fKn [⟨hh, x, a9, c9⟩]) rfl rfl (newsIt (k := ⟨hh, x, a9, c9⟩) HN9.out) (fKn_one _) ?c3 ?c4 ?c5 ?_)
          (case c3 => unfold maxLen; omega)
          (case c4 => omega)
          (case c5 => omega)
          intro v' w1 hown hgrow _
          have hown2 : w1.ownsRow b0 101 4 v' (M ++ [(⟨hh, x, a9, c9⟩ : Kn)]).length (flatR fKn (M ++ [⟨hh, x, a9, c9⟩])) := by rw [List.length_append, flatR_app]; exact hown
          obtain ⟨a1, c1, hv⟩ := own4_slice hown2
          rw [List.length_append] at hv
          have hv : v' = .slice a1 (M.length + 1) c1 := hv
          subst hv
          exact ⟨rfl, _, rfl, by
            unfold AfterIt
            obtain ⟨g1, g2, g3, g4⟩ := HBU.out.grown (Nat.le_trans HH3.out HBB.out.size) HOW.out hgrow
            refine ⟨a9, c9, a1, c1, rfl, ⟨hown2, fun k hk => ?_⟩, ?_, g2, (KeepB.of_below HH3.out HBB.out).trans g4⟩
            · rcases List.mem_append.1 hk with hk | hk
              · exact g3 k (HBU.out.a.2 k hk)
              · rw [List.mem_singleton.1 hk]; exact g3 ⟨hh, x, a9, c9⟩ ⟨HK9.out, HCK.out, HHR.out⟩
            · rw [if_pos rfl]; exact g1⟩
        apply OpsIs.pure
        · intro vs u hd
          obtain ⟨_, e0⟩ := hd ⟨0, .data⟩ (by simp) (by decide)
          simp at e0
          obtain ⟨_, e1⟩ := hd ⟨1, .phase⟩ (by simp) (by decide)
          simp at e1
          obtain ⟨_, e2⟩ := hd ⟨2, .phase⟩ (by simp) (by decide)
          simp at e2
          obtain ⟨_, e3⟩ := hd ⟨3, .phase⟩ (by simp) (by decide)
          simp at e3
          obtain ⟨_, e4⟩ := hd ⟨4, .phase⟩ (by simp) (by decide)
          simp at e4
          obtain ⟨_, e5⟩ := hd ⟨5, .phase⟩ (by simp) (by decide)
          simp at e5
          obtain ⟨_, e6⟩ := hd ⟨6, .phase⟩ (by simp) (by decide)
          simp at e6
          clear hd
          simp only [e0, e1, e2, e3, e4, e5, e6]
          go_wp2_with fail
          exact ⟨rfl, _, rfl, rfl, fun _ => rfl⟩
        apply OpsIs.pure
        · intro vs u hd
          obtain ⟨_, e11⟩ := hd ⟨11, .data⟩ (by simp) (by decide)
          simp at e11
          obtain ⟨_, e0⟩ := hd ⟨0, .phase⟩ (by simp) (by decide)
          simp at e0
          obtain ⟨_, e1⟩ := hd ⟨1, .phase⟩ (by simp) (by decide)
          simp at e1
          obtain ⟨_, e2⟩ := hd ⟨2, .phase⟩ (by simp) (by decide)
          simp at e2
          obtain ⟨_, e3⟩ := hd ⟨3, .phase⟩ (by simp) (by decide)
          simp at e3
          obtain ⟨_, e4⟩ := hd ⟨4, .phase⟩ (by simp) (by decide)
          simp at e4
          obtain ⟨_, e5⟩ := hd ⟨5, .phase⟩ (by simp) (by decide)
          simp at e5
          obtain ⟨_, e6⟩ := hd ⟨6, .phase⟩ (by simp) (by decide)
          simp at e6
          clear hd
          simp only [e11, e0, e1, e2, e3, e4, e5, e6]
          go_wp2_with fail
          exact ⟨rfl, _, rfl, rfl, fun _ => rfl⟩
        refine OpsIs.next ?_ ?_
        · intro vs u hE hd
          obtain ⟨_, e12⟩ := hd ⟨12, .data⟩ (by simp) (by decide)
          simp at e12
          obtain ⟨_, e0⟩ := hd ⟨0, .phase⟩ (by simp) (by decide)
          simp at e0
          obtain ⟨_, e1⟩ := hd ⟨1, .phase⟩ (by simp) (by decide)
          simp at e1
          obtain ⟨_, e2⟩ := hd ⟨2, .phase⟩ (by simp) (by decide)
          simp at e2
          obtain ⟨_, e3⟩ := hd ⟨3, .phase⟩ (by simp) (by decide)
          simp at e3
          obtain ⟨_, e4⟩ := hd ⟨4, .phase⟩ (by simp) (by decide)
          simp at e4
          obtain ⟨_, e5⟩ := hd ⟨5, .phase⟩ (by simp) (by decide)
          simp at e5
          obtain ⟨_, e6⟩ := hd ⟨6, .phase⟩ (by simp) (by decide)
          simp at e6
          obtain ⟨a, c', a1, c1, hv, hall, hx, hl, hkb⟩ := hE
          clear hd
          simp only [e12, e0, e1, e2, e3, e4, e5, e6, hv]
          have HV := Lib.hid hv
          clear hv
          rw [if_pos rfl] at hx
          have hx' := hx
          unfold cellsB at hx'
          have p1 := block_cell hx' 1
          have f1 := block_free hx' 1
          simp at p1
          have hlt' := block_lt hx
          have HX2 := Lib.hid hx
          have HAL2 := Lib.hid hall
          have HL2 := Lib.hid hl
          have HKB2 := Lib.hid hkb
          clear hx hx' hall hl hkb
          go_wp2_with fail
          exact ⟨rfl, undef, rfl, by
            unfold AfterIt
            obtain ⟨k1, k2, k3⟩ := core_set HX2.out HL2.out HAL2.out (HCF.out _ (.inl rfl)) 1 (.slice a1 (M.length + 1) c1)
            refine ⟨a, c', a1, c1, HV.out, k2, ?_, k1, HKB2.out.setP HCF.out 1 _⟩
            rw [if_neg (by decide)]; exact k3⟩
        refine OpsIs.done ?_
        intro vs12 u12 hE hS
        clear hS
        obtain ⟨a, c', a1, c1, -, hall, hx, hl, hkb⟩ := hE
        rw [if_neg (by decide)] at hx
        have HX5 := Lib.hid hx
        have HA5 := Lib.hid hall
        have HL5 := Lib.hid hl
        have HKB5 := Lib.hid hkb
        have hx5 := hx
        unfold cellsB at hx5
        (have q0 := block_cell hx5 0; have q1 := block_cell hx5 1; have q2 := block_cell hx5 2; have q3 := block_cell hx5 3; have q4 := block_cell hx5 4; have q5 := block_cell hx5 5; have q6 := block_cell hx5 6; have q7 := block_cell hx5 7; have q8 := block_cell hx5 8; have f0 := block_free hx5 0; have f1 := block_free hx5 1; have f2 := block_free hx5 2; have f3 := block_free hx5 3; have f4 := block_free hx5 4; have f5 := block_free hx5 5; have f6 := block_free hx5 6; have f7 := block_free hx5 7; have f8 := block_free hx5 8; have hz := block_lt hx5; simp at q0 q1 q2 q3 q4 q5 q6 q7 q8)
        clear hall hx hl hkb hx5
        go_wp2_with fail
        go_ret2
        obtain ⟨k1, k2, k3⟩ := core_set HX5.out HL5.out HA5.out (HCF.out _ (.inl rfl)) 6 (.int .i64 ((A.al : Int) + 1))
        refine ⟨.slice a1 (M.length + 1) c1, M ++ [⟨hh, x, a, c'⟩], by rw [HR.out]; rfl, ⟨?_, ?_, k2, ?_⟩, (HKP.out.trans HKB5.out).setP HCF.out 6 _⟩
        · rw [k3]
          unfold allocS
          rw [HR.out, if_neg (fun h => h rfl)]
          rfl
        · unfold allocS
          rw [HR.out, if_neg (fun h => h rfl)]
          exact k1
        · unfold allocS
          rw [HR.out, if_neg (fun h => h rfl), toIt_app]
          show _ = A.it ++ [(hh, x)]
          rw [HB.out.e]
    · have hq : (kidsE A x.h x.kids == 0) = false := by simpa using hke
      have HR := Lib.hid (allocR_kids HCK.out rfl hke)
      clear hke
      generalize kidsE A x.h x.kids = ke at *
      go_wp2_with fail
      go_ret2
      exact ⟨v, M, by rw [HR.out.1]; rfl, by rw [HR.out.2]; exact HB.out.below HB2.out, KeepB.of_below HH0.out HB2.out⟩
  · have hq : (checkN x == 0) = false := by simpa using hck
    have HR := Lib.hid (show allocR A x = (0, checkN x) from by unfold allocR; rw [if_pos hck])
    have HSS := Lib.hid (show allocS A x = A from allocS_no (by rw [HR.out]; exact hck))
    clear hck
    unfold aggN
    go_enter Try.func26, Try.ntmps26
    go_wp2_with fail
    refine (refCheck_any x ao x.kids.length c _ HK1.out.1).mono ?_; rintro e w1 ⟨rfl, hb1⟩
    have HB1 := Lib.hid (below_two HBX.out hb1)
    clear hb1
    generalize checkN x = ke at *
    go_wp2_with fail
    go_ret2
    exact ⟨v, M, by rw [HR.out]; rfl, by rw [HSS.out]; exact HB.out.below HB1.out, KeepB.of_below HH0.out HB1.out⟩
end Go.Proofs.Ytfgkbnnojogjpaa
