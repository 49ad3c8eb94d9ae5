/- The arena's reference: kids, Alloc, Get, Free. -/
import Derived.Test.YtfgkbnnojogjpaaQv
import Derived.BigRegion
import Derived.Maps.AppendAt
namespace Go.Proofs.Ytfgkbnnojogjpaa
open Go.RowKit
set_option linter.unusedVariables false

set_option maxRecDepth 100000 in
set_option maxHeartbeats 6000000 in
theorem refKidsA (C : CB) (A : AS) (v : Value) (M : List Kn) (b0 : Nat) (x : Nd) (ao : Option Addr) (n c : Nat) (w : World) (hb : IsB w b0 C A v M) (hi : AInv A) (hk : IsKs w ao n x.kids) (hc : checkN x = 0) :
    Calls Try.prog 52 #[.pointer (some ⟨C.p, 0, none⟩), aggN x.h x.text ao n c] w fun e w' => e = .returned (.int .i64 (kidsE A x.h x.kids)) ∧ Below w.heap.size w w' := by
  obtain ⟨aoM, cM, rfl⟩ := own4_slice hb.a.1
  have hn4 := kids4 hc
  have hkl := hk.1
  have hs := hb.small hi
  have HU := Lib.hid hk.2.1
  have HC := Lib.hid hc
  have HK := Lib.hid hk
  have HB := Lib.hid hb
  have HI := Lib.hid hi
  have HB0 := Lib.hid ((Below.refl w.heap.size w).alloc (Nat.le_refl _) (.cells #[.int .i64 x.h, .string x.text, .slice ao n c] 36))
  have HX0 := Lib.hid (block_new w (.cells #[.int .i64 x.h, .string x.text, .slice ao n c] 36))
  clear hb hk hc hi
  unfold aggN
  go_enter Try.func52, Try.ntmps52
  go_wp2_with fail
  go_loopw [5] (fun i wr => ∃ k : Nat, k ≤ n ∧ i = .int .i64 k ∧ kidsE A x.h (x.kids.drop k) = kidsE A x.h x.kids ∧ Below w.heap.size w wr ∧ wr.heap[w.heap.size]? = some (.cells #[.int .i64 x.h, .string x.text, .slice ao n c] 36 (0, 0))) (fun i _ => n - (intOf i).toNat)
  case atStart => exact ⟨0, Nat.zero_le _, rfl, rfl, HB0.out, HX0.out⟩
  case round =>
    obtain ⟨k, hkn, rfl, hke, hbr, hx⟩ := hrel
    have HBR := Lib.hid hbr
    have HX := Lib.hid hx
    have HKE := Lib.hid hke
    have HIB := Lib.hid (HB.out.below hbr)
    (have q0 := block_cell hx 0; have q1 := block_cell hx 1; have q2 := block_cell hx 2; have f0 := block_free hx 0; have f1 := block_free hx 1; have f2 := block_free hx 2; have hz := block_lt hx; simp at q0 q1 q2)
    by_cases hlt : k < n
    · have hkl2 : k < x.kids.length := by omega
      have hk1 : (k : Int) < (n : Int) := by omega
      have hxb := height_in HC.out (by omega)
      have hst := kidsE_step (A := A) (h := x.h) hkl2
      rw [hke] at hst
      have HUR := Lib.hid (HU.out _ (List.getElem_mem hkl2))
      obtain ⟨bb, off, rfl, hcell⟩ := HK.out.2.2 (by omega)
      have hbb := cellK_lt (hcell k hkl2)
      obtain ⟨e0, e1, e2, e3⟩ := cellK_below (hcell k hkl2) hbr hbb
      have hbb2 := Nat.lt_of_lt_of_le hbb hbr.size
      have HST := Lib.hid hst
      clear hst hke hcell hx hbr
      generalize x.kids[k] = kd at *
      obtain ⟨kat, m0, m1, m2⟩ := kd
      simp only at e0 e1 e2 e3
      by_cases hlv : liveL A.x kat
      · obtain ⟨i, hil, hh, hlk, hjj⟩ := HIB.out.find HI.out hlv
        have HFD := Lib.hid (refFind_yes C A _ M b0 kat wr HIB.out i hil hh hjj (by omega))
        have hst := HST.out
        simp only at hst
        rw [hlk] at hst
        simp only at hst
        have HST2 := Lib.hid hst
        obtain ⟨bM, rfl, hbM, s0, s1, s2, s3⟩ := own4_at HIB.out.a.1 hil
        have HKN := Lib.hid (HIB.out.a.2 _ (List.getElem_mem hil))
        have hp := HIB.out.p
        unfold cellsB at hp
        (have c1 := block_cell hp 1; have hpz := block_lt hp; simp at c1)
        have hil1 : (i : Int) < (M.length : Int) := by omega
        have hi0 : (0 : Int) ≤ (i : Int) := by omega
        have hii : decide ((i : Int) < 0) = false := decide_eq_false (by omega)
        clear hst hlv hh hlk hjj HST hp s0
        generalize M[i] = kn at *
        obtain ⟨hkk, nd, la, lc⟩ := kn
        simp only at s1 s2 s3 HST2
        have HOK := Lib.hid HKN.out.2.1
        have HIK := Lib.hid (HKN.out.1.1.later ((Below.refl _ _).alloc (Nat.le_refl _) (.cells #[.int .i64 nd.h, .string nd.text, .slice la nd.kids.length lc] 36)))
        simp only at HOK HIK
        have HY6 := Lib.hid (block_new wr (.cells #[.int .i64 nd.h, .string nd.text, .slice la nd.kids.length lc] 36))
        go_wp2_with fail
        refine (HFD.out).mono ?_; rintro e w5 ⟨rfl, rfl⟩
        go_wp2_with fail
        refine (refMeasure_any nd la nd.kids.length lc _ HIK.out).mono ?_; rintro e w7 ⟨rfl, hb7⟩
        rw [HOK.out]
        unfold aggM
        have HB7 := Lib.hid (below_two (HBR.out.alloc HBR.out.size (.cells #[.int .i64 nd.h, .string nd.text, .slice la nd.kids.length lc] 36)) hb7)
        have HW7 := Lib.hid (below_two ((Below.refl wr.heap.size wr).alloc (Nat.le_refl _) (.cells #[.int .i64 nd.h, .string nd.text, .slice la nd.kids.length lc] 36)) hb7)
        have HY7 := Lib.hid (block_below hb7 HY6.out (block_lt HY6.out))
        clear hb7 s1 s2 s3 c1 q0 q1 q2 f0 f1 f2 hz HIK HFD HY6
        generalize measN nd = mq at *
        obtain ⟨a0, a1, a2⟩ := mq
        try simp only at HST2
        simp only
        have hy7 := HY7.out
        (have q0 := block_cell hy7 0; have q1 := block_cell hy7 1; have q2 := block_cell hy7 2; have f0 := block_free hy7 0; have f1 := block_free hy7 1; have f2 := block_free hy7 2; have hz := block_lt hy7; simp at q0 q1 q2)
        clear hy7
        go_wp2_with fail
        have HB8 := Lib.hid (HB7.out.alloc HB7.out.size (.cells #[.int .i64 a0, .int .i64 a1, .int .i64 a2] 62))
        have HW8 := Lib.hid (HW7.out.alloc HW7.out.size (.cells #[.int .i64 a0, .int .i64 a1, .int .i64 a2] 62))
        have hy8 := block_alloc HY7.out (.cells #[.int .i64 a0, .int .i64 a1, .int .i64 a2] 62)
        have hm8 := block_new w7 (.cells #[.int .i64 a0, .int .i64 a1, .int .i64 a2] 62)
        generalize w7.alloc (.cells #[.int .i64 a0, .int .i64 a1, .int .i64 a2] 62) = w8 at *
        have hx8 := block_below HW8.out HX.out (block_lt HX.out)
        have HX8 := Lib.hid hx8
        have x1 := (HW8.out.cell (p := ⟨bb, _, none⟩) hbb2).trans e1
        have x2 := (HW8.out.cell (p := ⟨bb, _, none⟩) hbb2).trans e2
        have x3 := (HW8.out.cell (p := ⟨bb, _, none⟩) hbb2).trans e3
        clear e0 e1 e2 e3 q0 q1 q2 f0 f1 f2 hz
        have p0 := block_cell hy8 0
        have r0 := block_cell hm8 0
        have r1 := block_cell hm8 1
        have r2 := block_cell hm8 2
        simp at p0 r0 r1 r2
        (have q0 := block_cell hx8 0; have q1 := block_cell hx8 1; have q2 := block_cell hx8 2; have f0 := block_free hx8 0; have f1 := block_free hx8 1; have f2 := block_free hx8 2; have hz := block_lt hx8; simp at q0 q1 q2)
        clear hy8 hm8 hx8
        have HBE := Lib.hid (fun n => below_drewN HB8.out n)
        by_cases ch : nd.h = x.h - 1
        · have ch3 : (nd.h != x.h - 1) = false := by simpa using ch
          by_cases d0 : a0 = m0
          · by_cases d1 : a1 = m1
            · by_cases d2 : a2 = m2
              · subst d0 d1 d2
                have HS2 := Lib.hid (HST2.out.trans (if_pos ⟨ch, rfl⟩))
                clear ch
                go_quiet (fail)
                go_wp2_with fail
                go_roundw
                case rel => exact ⟨k + 1, by omega, by go_num, HS2.out.symm, HBE.out _, HX8.out⟩
                case measure => simp [intOf]; omega
              · have HE := Lib.hid (HST2.out.trans (if_neg (fun h => d2 (by have := h.2; injection this with _ this; injection this))))
                have hne : (a2 == m2) = false := by simpa using d2
                clear ch d2
                subst d0 d1
                go_quiet (fail)
                go_wp2_with fail
                go_ret
                exact ⟨by rw [HE.out]; rfl, HBE.out _⟩
            · have HE := Lib.hid (HST2.out.trans (if_neg (fun h => d1 (by have := h.2; injection this with _ this; injection this))))
              have hne : (a1 == m1) = false := by simpa using d1
              clear ch d1
              subst d0
              go_quiet (fail)
              go_wp2_with fail
              go_ret
              exact ⟨by rw [HE.out]; rfl, HBE.out _⟩
          · have HE := Lib.hid (HST2.out.trans (if_neg (fun h => d0 (by have := h.2; injection this))))
            have hne : (a0 == m0) = false := by simpa using d0
            clear ch d0
            go_quiet (fail)
            go_wp2_with fail
            go_ret
            exact ⟨by rw [HE.out]; rfl, HBE.out _⟩
        · have HE := Lib.hid (HST2.out.trans (if_neg (fun h => ch h.1)))
          have ch3 : (nd.h != x.h - 1) = true := by simpa using ch
          clear ch
          go_quiet (fail)
          go_wp2_with fail
          go_ret
          exact ⟨by rw [HE.out]; rfl, HBE.out _⟩
      · have hst := HST.out
        simp only at hst
        rw [(nodeOf_dead HI.out hlv).2] at hst
        simp only at hst
        have HE := Lib.hid hst
        have HFD := Lib.hid (refFind_no C A _ M b0 kat wr HIB.out (HIB.out.lost HI.out hlv) (by omega))
        clear hst hlv HST
        go_wp2_with fail
        refine (HFD.out).mono ?_; rintro e w5 ⟨rfl, rfl⟩
        go_wp2_with fail
        go_ret
        exact ⟨by rw [HE.out]; rfl, HBR.out⟩
    · obtain rfl : k = n := by omega
      have HE := Lib.hid (show kidsE A x.h x.kids = 0 by rw [← hke, List.drop_eq_nil_of_le (by omega)]; rfl)
      clear hke hx hbr HKE
      go_wp2_with fail
      go_ret
      exact ⟨by rw [HE.out]; rfl, HBR.out⟩

/-- what the reference's calls leave -/
def KeepB (b0 : Nat) (C : CB) (w w' : World) : Prop := Below b0 w w' ∧ ∀ q, q < w.heap.size → ¬ C.fix q → ¬ ItB w q → w'.heap[q]? = w.heap[q]?
theorem KeepB.refl (b0 : Nat) (C : CB) (w : World) : KeepB b0 C w w := ⟨Below.refl _ _, fun _ _ _ _ => rfl⟩
theorem KeepB.trans {b0 : Nat} {C : CB} {w w1 w2 : World} (h : KeepB b0 C w w1) (k : KeepB b0 C w1 w2) : KeepB b0 C w w2 :=
  ⟨h.1.trans k.1, fun q hq hf hi => by
    have e := h.2 q hq hf hi
    exact (k.2 q (Nat.lt_of_lt_of_le hq h.1.size) hf (fun ⟨cur, hc⟩ => hi ⟨cur, by rw [← e]; exact hc⟩)).trans e⟩
theorem KeepB.of_below {b0 : Nat} {C : CB} {w w1 : World} (h0 : b0 ≤ w.heap.size) (h : Below w.heap.size w w1) : KeepB b0 C w w1 := ⟨h.mono h0, fun q hq _ _ => h.block q hq⟩
theorem KeepB.drewN {b0 : Nat} {C : CB} {w w1 : World} (h : KeepB b0 C w w1) (n : Nat) : KeepB b0 C w (w1.drewN n) := ⟨below_drewN h.1 n, h.2⟩
theorem KeepB.of_list {b0 : Nat} {C : CB} {w w1 : World} (h0 : b0 ≤ w.heap.size) (hC : ∀ q, C.fix q → b0 ≤ q) (h : KeepL C.lb.toLB w w1) : KeepB b0 C w w1 :=
  ⟨h.1 b0 h0 (hC _ (.inr (.inl rfl))) (hC _ (.inr (.inr (.inl rfl)))) (hC _ (.inr (.inr (.inr (.inl rfl))))) (hC _ (.inr (.inr (.inr (.inr rfl))))),
    fun q hq hf _ => h.2 q hq (fun e => hf (.inr (.inl e))) (fun e => hf (.inr (.inr (.inl e)))) (fun e => hf (.inr (.inr (.inr (.inl e))))) (fun e => hf (.inr (.inr (.inr (.inr e)))))⟩
theorem KeepB.setP {b0 : Nat} {C : CB} {w w1 : World} (h : KeepB b0 C w w1) (hC : ∀ q, C.fix q → b0 ≤ q) (i : Nat) (v : Value) : KeepB b0 C w (w1.setCell ⟨C.p, i, none⟩ v) :=
  ⟨h.1.setCell (hC _ (.inl rfl)) v, fun q hq hf hi => (Below.heap_setCell _ _ _ _ (fun e => hf (.inl e))).trans (h.2 q hq hf hi)⟩
theorem KnOK.keep {b0 : Nat} {w w' : World} {k : Kn} (h : KnOK b0 w k) (hk : ∀ q, q < w.heap.size → (q < b0 ∨ Kb w q) → w'.heap[q]? = w.heap[q]?) : KnOK b0 w' k := ⟨h.1.keep hk, h.2⟩
theorem KsOK.turnB {b0 : Nat} {w w' : World} {ao : Option Addr} {n c : Nat} {l : List Kid} (h : KsOK b0 w ao n c l) {C : CB} {A : AS} {v : Value} {M : List Kn} (hb : IsB w b0 C A v M) (k : KeepB b0 C w w') : KsOK b0 w' ao n c l := h.keep fun q hq hc => by
  rcases hc with hc | hc
  · exact k.1.block q hc
  · refine k.2 q hq (fun hf => ?_) (fun ⟨cur, hi⟩ => ?_)
    · obtain ⟨cur, hc⟩ := hc
      obtain ⟨h0, ⟨l0, ⟨c1, l1, _⟩, ⟨c2, l2, _⟩, ⟨c3, l3, _⟩, _⟩, -, -⟩ := hb
      rcases hf with rfl | rfl | rfl | rfl | rfl
      · rw [h0] at hc; injection hc with hc; injection hc with _ hc; revert hc; decide
      · rw [l0] at hc; injection hc with hc; injection hc with _ hc; revert hc; decide
      · rw [l1] at hc; injection hc with hc; injection hc with _ hc; revert hc; decide
      · rw [l2] at hc; injection hc with hc; injection hc with _ hc; revert hc; decide
      · rw [l3] at hc; injection hc with hc; injection hc with _ hc; revert hc; decide
    · exact notKb hi (by decide) hc
theorem IsB.bound {w : World} {b0 : Nat} {C : CB} {A : AS} {v : Value} {M : List Kn} (h : IsB w b0 C A v M) : C.p ≠ C.lb.p ∧ C.p ≠ C.lb.s ∧ C.p ≠ C.lb.t ∧ C.p ≠ C.lb.g ∧ ¬ ItB w C.p ∧ ¬ Kb w C.p := by
  obtain ⟨h0, ⟨l0, ⟨c1, l1, _⟩, ⟨c2, l2, _⟩, ⟨c3, l3, _⟩, _⟩, -, -⟩ := h
  refine ⟨fun e => ?_, fun e => ?_, fun e => ?_, fun e => ?_, fun ⟨cur, hc⟩ => ?_, fun ⟨cur, hc⟩ => ?_⟩
  · rw [e, l0] at h0; injection h0 with hc; injection hc with _ hc; revert hc; decide
  · rw [e, l1] at h0; injection h0 with hc; injection hc with _ hc; revert hc; decide
  · rw [e, l2] at h0; injection h0 with hc; injection hc with _ hc; revert hc; decide
  · rw [e, l3] at h0; injection h0 with hc; injection hc with _ hc; revert hc; decide
  · rw [h0] at hc; injection hc with hc; injection hc with _ hc; revert hc; decide
  · rw [h0] at hc; injection hc with hc; injection hc with _ hc; revert hc; decide
theorem IsB.fixIt {w : World} {b0 : Nat} {C : CB} {A : AS} {v : Value} {M : List Kn} (h : IsB w b0 C A v M) {q : Nat} (hf : C.fix q) : ¬ ItB w q := by
  obtain ⟨h0, ⟨l0, ⟨c1, l1, _⟩, ⟨c2, l2, _⟩, ⟨c3, l3, _⟩, _⟩, -, -⟩ := h
  rintro ⟨cur, hc⟩
  rcases hf with rfl | rfl | rfl | rfl | rfl
  · rw [h0] at hc; injection hc with hc; injection hc with _ hc; revert hc; decide
  · rw [l0] at hc; injection hc with hc; injection hc with _ hc; revert hc; decide
  · rw [l1] at hc; injection hc with hc; injection hc with _ hc; revert hc; decide
  · rw [l2] at hc; injection hc with hc; injection hc with _ hc; revert hc; decide
  · rw [l3] at hc; injection hc with hc; injection hc with _ hc; revert hc; decide
/-- the list was turned -/
theorem IsB.list {w w' : World} {b0 : Nat} {C : CB} {A : AS} {v : Value} {M : List Kn} {y : FL} (h : IsB w b0 C A v M) (k : KeepB b0 C w w') (hl : IsY w' C.lb y) (kl : KeepL C.lb.toLB w w') : IsB w' b0 C { A with x := y } v M := by
  obtain ⟨n1, n2, n3, n4, n5, n6⟩ := h.bound
  refine ⟨(kl.2 _ (block_lt h.p) n1 n2 n3 n4).trans h.p, hl, ⟨own_keep4 h.a.1 fun q hq => ?_, fun x hx => ⟨(h.a.2 x hx).1.turnB h k, (h.a.2 x hx).2⟩⟩, h.e⟩
  obtain ⟨-, cur, hc⟩ := own_typ4 h.a.1 hq
  have hni : ∀ q', C.fix q' → q ≠ q' := fun q' hf e => h.fixIt hf ⟨cur, by rw [← e]; exact hc⟩
  exact kl.2 q (block_lt hc) (hni _ (.inr (.inl rfl))) (hni _ (.inr (.inr (.inl rfl)))) (hni _ (.inr (.inr (.inr (.inl rfl))))) (hni _ (.inr (.inr (.inr (.inr rfl)))))
/-- a cell of the struct is written -/
theorem IsB.setP {w : World} {b0 : Nat} {C : CB} {A A' : AS} {v v' : Value} {M : List Kn} (h : IsB w b0 C A v M) (hC : b0 ≤ C.p) (i : Nat) (y : Value) (hx : A'.x = A.x) (hi : A'.it = A.it) (ha : AllI b0 w v' M) (hv : (cellsB C v A).setIfInBounds i y = cellsB C v' A') : IsB (w.setCell ⟨C.p, i, none⟩ y) b0 C A' v' M := by
  obtain ⟨n1, n2, n3, n4, n5, n6⟩ := h.bound
  obtain ⟨h0, ⟨l0, l1, l2, l3, l4⟩, -, e⟩ := h
  refine ⟨?_, ?_, ⟨own_keep4 ha.1 fun q hq => ?_, fun x hx => (ha.2 x hx).keep fun q hq hc => ?_⟩, by rw [hi]; exact e⟩
  · have := block_setCell h0 i y
    rw [hv] at this
    exact this
  · rw [hx]
    exact ⟨block_setCell_other l0 (p := ⟨C.p, i, none⟩) n1 y, l1.other (p := ⟨C.p, i, none⟩) n2 y, l2.other (p := ⟨C.p, i, none⟩) n3 y, l3.other (p := ⟨C.p, i, none⟩) n4 y, l4⟩
  · obtain ⟨-, cur, hc⟩ := own_typ4 ha.1 hq
    exact Below.heap_setCell _ _ _ _ (fun e2 => n5 ⟨cur, by have e3 : q = C.p := e2; rw [← e3]; exact hc⟩)
  · exact Below.heap_setCell _ _ _ _ (fun e2 => by
      have e3 : q = C.p := e2
      rw [e3] at hc
      rcases hc with hc | hc
      · omega
      · exact n6 hc)
/-- the items grow -/
theorem IsB.grown {w w' : World} {b0 : Nat} {C : CB} {A : AS} {v : Value} {M : List Kn} (h : IsB w b0 C A v M) (h0 : b0 ≤ w.heap.size) {u : Value} {N : List Kn} (hu : w.ownsRow b0 101 4 u N.length (flatR fKn N)) (hg : w.grownBy w' u.ownBlock) :
    w'.heap[C.p]? = some (.cells (cellsB C v A) 94 (0, 0)) ∧ IsY w' C.lb A.x ∧ (∀ k, KnOK b0 w k → KnOK b0 w' k) ∧ KeepB b0 C w w' := by
  have hne : ∀ q, q < w.heap.size → ¬ ItB w q → w'.heap[q]? = w.heap[q]? := fun q hq hn => hg.block q hq (fun e => by
    obtain ⟨-, cur, hc⟩ := own_typ4 hu e.symm
    exact hn ⟨cur, hc⟩)
  have hf := fun q (hq : C.fix q) => h.fixIt hq
  obtain ⟨p0, ⟨l0, l1, l2, l3, l4⟩, -, -⟩ := h
  refine ⟨(hne _ (block_lt p0) (hf _ (.inl rfl))).trans p0, ⟨(hne _ (block_lt l0) (hf _ (.inr (.inl rfl)))).trans l0, l1.keep (hne _ l1.lt (hf _ (.inr (.inr (.inl rfl))))), l2.keep (hne _ l2.lt (hf _ (.inr (.inr (.inr (.inl rfl)))))), l3.keep (hne _ l3.lt (hf _ (.inr (.inr (.inr (.inr rfl)))))), l4⟩,
    fun k hk => hk.keep fun q hq hc => ?_, (Below.refl b0 w).grown hg h0 fun q hq => (own_typ4 hu hq).1, fun q hq _ hn => hne q hq hn⟩
  refine hg.block q hq (fun e => ?_)
  obtain ⟨hb, cur, hcur⟩ := own_typ4 hu e.symm
  rcases hc with hc | hc
  · omega
  · exact notKb hcur (by decide) hc
theorem toIt_app (M : List Kn) (k : Kn) : toIt (M ++ [k]) = toIt M ++ [(k.h, k.x)] := by unfold toIt; rw [List.map_append]; rfl
theorem infoIt : (Try.prog.info? 101).map (fun i => (i.zero, i.size, i.bytes)) = some (some (.agg #[.int .u64 0, .int .i64 0, .string ⟨#[]⟩, .slice none 0 0]), 4, 56) := by kernel_rfl
theorem newsIt {k : Kn} {w : World} {b : Nat} (h : w.heap[b]? = some (.cells #[.int .u64 k.h, .int .i64 k.x.h, .string k.x.text, .slice k.a k.x.kids.length k.c] 101 (0, 0))) : ∀ j u, (flatR fKn [k])[j]? = some u → w.cell? ((⟨b, 0, none⟩ : Addr).add j) = some u := by
  intro j u hj
  rw [add_to, block_cell h, Nat.zero_add, ← hj, flatR_one]
  exact (Array.getElem?_toList).symm
end Go.Proofs.Ytfgkbnnojogjpaa
