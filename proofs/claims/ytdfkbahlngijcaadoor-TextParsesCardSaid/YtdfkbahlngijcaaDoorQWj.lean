/- Text: the reader's methods: pick. (printed by slim.py.) -/
import Derived.Test.YtdfkbahlngijcaaDoorQWi
namespace Go.Proofs.YtdfkbahlngijcaaDoor
open Go.RowKit
set_option linter.unusedVariables false

def PickPost (B bR : Nat) (x : Rd) (n : Nat) (ws : List (List UInt8)) (w : World) (e : Ending) (w' : World) : Prop :=
  KeptR B bR w w' ∧ ((∃ y, pickP x ws = some y ∧ e = .returned (.bool true) ∧ RdS B bR y n w') ∨ (pickP x ws = none ∧ e = .returned (.bool false) ∧ RdS B bR x n w'))
theorem list3 {α : Type} (l : List α) (h : l.length = 3) : ∃ a b c, l = [a, b, c] := by
  match l, h with
  | [a, b, c], _ => exact ⟨a, b, c, rfl⟩
def BsI (a : Int) (v : Value) (u : World) : Prop := ∃ b9, v = .slice (some ⟨b9, 0, none⟩) 1 1 ∧ u.heap[b9]? = some (.cells #[.int .i64 a] 3 (0, 0))
theorem Stab_BsI (a : Int) : Stab (BsI a) := by
  rintro v w w' ⟨b, hv, h⟩ hb
  exact ⟨b, hv, block_below hb h (block_lt h)⟩
/-- the picks' row while the picks are written -/
structure PkS (B bR g : Nat) (c : Cf) (vP : Value) (ln last : Int) (ss : List Pg) (ps : List Int) (cur : Array Value) (wq : World) (W : World) : Prop where
  rd : ∃ aq cq, RdM B bR c vP (.slice aq ps.length cq) ln last ss ps W ∧ ∀ q, (Value.slice aq ps.length cq).ownBlock = some q → q ≠ g
  nums : W.heap[g]? = some (.cells cur 3 (0, 0))
  kept : KeptR B bR wq W
  size : B ≤ W.heap.size
theorem PkS.later {B bR g : Nat} {c : Cf} {vP : Value} {ln last : Int} {ss : List Pg} {ps : List Int} {cur : Array Value} {wq W W' : World} (h : PkS B bR g c vP ln last ss ps cur wq W) (hb : Below W.heap.size W W') : PkS B bR g c vP ln last ss ps cur wq W' := by
  obtain ⟨⟨aq, cq, h1, h2⟩, h3, h4, h5⟩ := h
  exact ⟨⟨aq, cq, h1.later hb, h2⟩, block_below hb h3 (block_lt h3), h4.trans (KeptR.of_below hb h5), Nat.le_trans h5 hb.size⟩
def AftP (B bR g : Nat) (c : Cf) (vP : Value) (ln last : Int) (ss : List Pg) (ps : List Int) (a0 : Int) (cur : Array Value) (wq : World) (p : Nat) (vs : Nat → Value) (u : World) : Prop :=
  if p = 1 then ∃ aq cq gg c4 W, vs 10 = .slice (some ⟨gg, 0, none⟩) (ps.length + 1) c4 ∧ RdM B bR c vP (.slice aq ps.length cq) ln last ss ps W ∧ (∀ q, (Value.slice aq ps.length cq).ownBlock = some q → q ≠ g) ∧ W.heap[g]? = some (.cells cur 3 (0, 0)) ∧ W.grownBy u (Value.slice aq ps.length cq).ownBlock ∧ u.ownsRow B 3 1 (.slice (some ⟨gg, 0, none⟩) (ps.length + 1) c4) (ps.length + 1) (flatR fI ps ++ [.int .i64 a0]) ∧ ((Value.slice aq ps.length cq).ownBlock = some gg ∨ W.heap.size ≤ gg) ∧ KeptR B bR wq W ∧ B ≤ W.heap.size
  else PkS B bR g c vP ln last ss (ps ++ [a0]) cur wq u
theorem AftP.two {B bR g : Nat} {c : Cf} {vP : Value} {ln last : Int} {ss : List Pg} {ps : List Int} {a0 : Int} {cur : Array Value} {wq u W : World} {aq : Option Addr} {cq gg c4 : Nat} (vs : Nat → Value) (hrm : RdM B bR c vP (.slice aq ps.length cq) ln last ss ps W) (hne : ∀ q, (Value.slice aq ps.length cq).ownBlock = some q → q ≠ g) (hcur : W.heap[g]? = some (.cells cur 3 (0, 0)))
    (hgr : W.grownBy u (Value.slice aq ps.length cq).ownBlock) (how : u.ownsRow B 3 1 (.slice (some ⟨gg, 0, none⟩) (ps.length + 1) c4) (ps.length + 1) (flatR fI ps ++ [.int .i64 a0])) (hat : (Value.slice aq ps.length cq).ownBlock = some gg ∨ W.heap.size ≤ gg) (hkr : KeptR B bR wq W) (hBW : B ≤ W.heap.size) :
    (∃ x, u.cell? ⟨bR, 9, none⟩ = some x) ∧ u.frozen? ⟨bR, 9, none⟩ = false ∧ AftP B bR g c vP ln last ss ps a0 cur wq 2 vs (u.setCell ⟨bR, 9, none⟩ (.slice (some ⟨gg, 0, none⟩) (ps.length + 1) c4)) := by
  have hc4 := keep_append hrm.ownQ hrm.cells (by decide) hgr hrm.cells
  have hBu : B ≤ u.heap.size := Nat.le_trans hBW hgr.size
  refine ⟨⟨_, (block_cell hc4 9).trans rfl⟩, block_free hc4 _, ?_⟩
  unfold AftP
  rw [if_neg (by decide)]
  have hgu : u.heap[g]? = some (.cells cur 3 (0, 0)) := by
    rw [hgr.block g (block_lt hcur) (fun e => hne g e.symm rfl)]; exact hcur
  have hgb : g ≠ bR := by
    rintro rfl
    rw [hrm.cells] at hcur
    injection hcur with hcur
    injection hcur with _ hcur _
    exact absurd hcur (by decide)
  have hp := hrm.pick hgr how
  refine ⟨⟨some ⟨gg, 0, none⟩, c4, by rw [List.length_append]; exact hp, fun q hq e => ?_⟩, block_setCell_other hgu (fun e => hgb e.symm) _, (hkr.trans (KeptR.own hgr hrm.ownQ hBW)).trans (KeptR.set hc4 (.inr rfl) hBu), ?_⟩
  · subst e
    have hq : some gg = some q := hq
    injection hq with hq
    rcases hat with hat | hat
    · exact hne gg hat hq
    · have := block_lt hcur; omega
  · exact Nat.le_trans hBu (grown_set2 _ _ _ _).size
set_option maxRecDepth 100000 in
set_option maxHeartbeats 2000000 in
theorem pick_any (B bR : Nat) (x : Rd) (n b : Nat) (ws : List (List UInt8)) (w : World) (hB : B ≤ w.heap.size) (h : RdS B bR x n w) (hw : WdAt w b ws) (hlen : ws.length ≤ 1000000) (hwl : ∀ y ∈ ws, y.length ≤ 1000000) (hN : x.ps.length ≤ 65535) :
    Calls Tryd.prog 48 #[.pointer (some ⟨bR, 0, none⟩), .slice (some ⟨b, 0, none⟩) ws.length ws.length] w (PickPost B bR x n ws w) := by
  obtain ⟨i0, hi0, hz0, hz1, hz2⟩ := info_parts infoInt
  have HNO := Lib.hid (show ∀ w', Below w.heap.size w w' → pickP x ws = none → PickPost B bR x n ws w (.returned (.bool false)) w' from fun w' hb hn => ⟨KeptR.of_below hb hB, .inr ⟨hn, rfl, h.later hb⟩⟩)
  by_cases h3 : ws.length = 3
  · obtain ⟨w0, w1, w_2, rfl⟩ := list3 ws h3
    have c0 : w.cell? ⟨b, 0, none⟩ = some (.string ⟨w0.toArray⟩) := hw.at (j := 0) (by simp)
    by_cases hc : w0 = pickN
    · subst hc
      obtain ⟨vP, vQ, ss, hM, hss⟩ := h
      have HM := Lib.hid hM
      have HYES := Lib.hid (show ∀ (w' : World) (y : Rd), KeptR B bR w w' → pickP x [pickN, w1, w_2] = some y → RdS B bR y n w' → PickPost B bR x n [pickN, w1, w_2] w (.returned (.bool true)) w' from fun w' y hk hc hr => ⟨hk, .inl ⟨y, hc, rfl, hr⟩⟩)
      have HSS := Lib.hid hss
      have HNU := Lib.hid (numbers_any [w1, w_2] b 1 2 2 w (fun j hj => by
        have hj2 : j < 2 := hj
        have := hw.at (j := 1 + j) (by simp; omega)
        rw [this]
        rcases (by omega : j = 0 ∨ j = 1) with rfl | rfl <;> rfl) hw.lt rfl (by decide) (fun y hy => by have := hwl y (List.mem_cons_of_mem _ hy); omega))
      have HCP := Lib.hid (show pickP x [pickN, w1, w_2] = match numsW [w1, w_2] with
          | some l => if 1 ≤ l.getD 1 0 ∧ l.getD 0 0 ≠ x.last ∧ l.getD 1 0 ≤ 65535 - (x.ps.length : Int) then some { x with ps := x.ps ++ List.replicate (l.getD 1 0).toNat (l.getD 0 0), last := l.getD 0 0 } else none
          | none => none by unfold pickP; rw [if_pos ⟨rfl, rfl⟩]; rfl)
      generalize PickPost B bR x n [pickN, w1, w_2] w = PP at *
      unfold pickN at c0
      obtain ⟨aq, cq, rfl, -⟩ := own_form hM.ownQ
      clear h3 hlen hM hss hw hwl
      go_enter Tryd.func48, Tryd.ntmps48
      go_wp2_with fail
      refine (HNU.out).mono ?_; rintro e2 w2 ⟨hnp, hb2⟩
      have HB2 := Lib.hid hb2
      have HM2 := Lib.hid (HM.out.later hb2)
      have hs2 := hb2.size
      have hbr := block_lt HM.out.cells
      unfold NumsPost at hnp
      clear hb2 HNU c0
      rcases hnw : numsW [w1, w_2] with _ | l
      · as_aux_lemma =>
          rw [hnw] at hnp
          have HX := Lib.hid (show pickP x [pickN, w1, w_2] = none by rw [HCP.out, hnw])
          replace hnp : e2 = .returned (.tuple #[.slice none 0 0, .bool false]) := hnp
          subst hnp
          clear hnw
          go_upto_region 4 with (fail)
          go_quiet (fail)
          go_wp2_with fail
          exact HNO.out _ (HB2.out.trans ⟨rfl, rfl, rfl, Nat.le_refl _, fun _ _ => rfl⟩) HX.out
      · rw [hnw] at hnp
        obtain ⟨v, hev, hov⟩ := hnp
        subst hev
        have hl2 := numsW_len hnw
        obtain ⟨a0, a1, rfl⟩ := list2 l hl2
        have hok0 := numsW_ok hnw a0 (by simp)
        have hok1 := numsW_ok hnw a1 (by simp)
        have HCP2 := Lib.hid (show pickP x [pickN, w1, w_2] = if 1 ≤ a1 ∧ a0 ≠ x.last ∧ a1 ≤ 65535 - (x.ps.length : Int) then some { x with ps := x.ps ++ List.replicate a1.toNat a0, last := a0 } else none by rw [HCP.out, hnw]; rfl)
        have HOV := Lib.hid hov
        obtain ⟨ao, cap, rfl, hao⟩ := own_form hov
        obtain ⟨g, rfl⟩ := hao (by simp)
        have d0 : w2.cell? ⟨g, 0, none⟩ = some (.int .i64 a0) := by have := hov.cells (g := g) rfl 0 (.int .i64 a0) rfl; rw [add_to] at this; simpa using this
        have d1 : w2.cell? ⟨g, 1, none⟩ = some (.int .i64 a1) := by have := hov.cells (g := g) rfl 1 (.int .i64 a1) rfl; rw [add_to] at this; simpa using this
        have c11 := rd_last HM2.out
        have c9 := rd_Q HM2.out
        clear hnw hov hao HCP hl2
        by_cases h1 : 1 ≤ a1
        · have g1 : decide (a1 < 1) = false := decide_eq_false (by omega)
          by_cases h2 : a0 = x.last
          · as_aux_lemma =>
              have g2 : (a0 == x.last) = true := by rw [h2]; exact beq_self_eq_true _
              have HX := Lib.hid (show pickP x [pickN, w1, w_2] = none by rw [HCP2.out, if_neg (fun k => k.2.1 h2)])
              clear h1 h2 hok0 hok1
              go_upto_region 4 with (fail)
              go_quiet (fail)
              go_wp2_with fail
              exact HNO.out _ (HB2.out.trans ⟨rfl, rfl, rfl, Nat.le_refl _, fun _ _ => rfl⟩) HX.out
          · have g2 : (a0 == x.last) = false := by rw [beq_eq_false_iff_ne]; exact h2
            by_cases h4 : a1 ≤ 65535 - (x.ps.length : Int)
            · have g4 : decide (65535 - (x.ps.length : Int) < a1) = false := decide_eq_false (by omega)
              have HX := Lib.hid (show pickP x [pickN, w1, w_2] = some { x with ps := x.ps ++ List.replicate a1.toNat a0, last := a0 } by rw [HCP2.out, if_pos ⟨h1, h2, h4⟩])
              have H1 := Lib.hid h1
              have H4 := Lib.hid h4
              have HNE : ∀ q, (Value.slice aq x.ps.length cq).ownBlock = some q → q ≠ g := fun q hq e => by
                obtain ⟨-, cu, hcu⟩ := own_typ1 HM.out.ownQ hq
                have h5 := block_lt hcu
                have h6 := (own_typ1 HOV.out (q := g) rfl).1
                omega
              obtain ⟨cur, hcur⟩ := (own_typ1 HOV.out (q := g) rfl).2
              have HU0 := Lib.hid (show cur[0]? = some (.int .i64 a0) from (block_cell hcur 0).symm.trans d0)
              have HU1 := Lib.hid (show cur[1]? = some (.int .i64 a1) from (block_cell hcur 1).symm.trans d1)
              have HG := Lib.hid hcur
              have HNQ := Lib.hid HNE
              clear h1 h2 h4 hcur HNE
              go_upto_region 4 with (fail)
              go_quiet (fail)
              have HB3 := Lib.hid (show Below w.heap.size w (w2.drewN nq) from HB2.out.trans ⟨rfl, rfl, rfl, Nat.le_refl _, fun _ _ => rfl⟩)
              have HM3 := Lib.hid (HM2.out.later (show Below w2.heap.size w2 (w2.drewN nq) from ⟨rfl, rfl, rfl, Nat.le_refl _, fun _ _ => rfl⟩))
              have HG3 := Lib.hid (show (w2.drewN nq).heap[g]? = some (.cells cur 3 (0, 0)) from HG.out)
              clear c11 c9 d0 d1 HM2 HB2 HG HOV g1 g2 g4
              generalize w2.drewN nq = w3 at *
              have d1 : w3.cell? ⟨g, 1, none⟩ = some (.int .i64 a1) := (block_cell HG3.out 1).trans HU1.out
              have hB3 : B ≤ w3.heap.size := by have := HB3.out.size; omega
              have HP0 := Lib.hid (show PkS B bR g x.c vP n x.last ss x.ps cur w w3 from ⟨⟨_, _, HM3.out, HNQ.out⟩, HG3.out, KeptR.of_below HB3.out hB, hB3⟩)
              clear HM3
              go_wp2_with fail
              go_loopw [56] (fun s56 wr => ∃ j : Nat, (j : Int) ≤ a1 ∧ s56 = .int .i64 j ∧ PkS B bR g x.c vP n x.last ss (x.ps ++ List.replicate j a0) cur w wr) (fun s56 _ => a1.toNat - (intOf s56).toNat)
              case atStart => exact ⟨0, by have := H1.out; omega, rfl, by rw [List.replicate_zero, List.append_nil]; exact HP0.out⟩
              case round =>
                obtain ⟨j, hj, rfl, hpk⟩ := hrel
                have HPK := Lib.hid hpk
                clear hpk HP0 d1
                by_cases hlt : (j : Int) < a1
                · have hj0 : (0 : Int) ≤ (j : Int) := by omega
                  have ha1 : a1 ≤ 65535 := by have := H4.out; omega
                  have hj1 : (j : Int) + 1 ≤ 65535 := by omega
                  have HPE := Lib.hid (show (x.ps ++ List.replicate j a0) ++ [a0] = x.ps ++ List.replicate (j + 1) a0 by rw [List.append_assoc, List.replicate_succ'])
                  have hpl : (x.ps ++ List.replicate j a0).length ≤ 65535 := by rw [List.length_append, List.length_replicate]; have := H4.out; omega
                  generalize x.ps ++ List.replicate j a0 = ps at *
                  obtain ⟨aq2, cq2, hrm2, hnq2⟩ := HPK.out.rd
                  have HRM := Lib.hid hrm2
                  have HN2 := Lib.hid hnq2
                  have HBR := Lib.hid (block_lt hrm2.cells)
                  have HGL := Lib.hid (block_lt HPK.out.nums)
                  have HDQ := Lib.hid (rd_Q hrm2)
                  have HDG := Lib.hid (show wr.cell? ⟨g, 0, none⟩ = some (.int .i64 a0) from (block_cell HPK.out.nums 0).trans HU0.out)
                  clear hrm2 hnq2
                  go_upto_region 8 with (fail)
                  -- R8 begin
                  refine wp_region_plan [.pure, .make, .make, .make, .make, .make, .make, .make, .make, .make, .write 0, .pure, .pure, .pure, .write 1] [1, 2, 3, 4, 5, 6, 7, 8, 9] 2 (AftP B bR g x.c vP n x.last ss ps a0 cur w) (by kernel_rfl) (by decide) (by kernel_rfl) (by kernel_rfl) (by kernel_rfl) (by kernel_rfl) (fun p vs vs' u h hE => by unfold AftP at hE ⊢; rw [← h 10 (by decide)] at hE; exact hE) ?_
                  simp only [fill, Act.put, List.setIfInBounds_toArray, List.set_cons_zero, List.set_cons_succ, Nat.zero_add, Nat.reduceAdd, List.zip_cons_cons, List.zip_nil_right]
                  apply OpsIs.pure
                  · intro vs u hd
                    clear hd
                    go_wp2_with fail
                    exact ⟨rfl, _, rfl, rfl, fun _ => rfl⟩
                  apply OpsIs.eq
                  · intro vs u hb hd
                    clear hd
                    go_wp2_with fail
                    exact ⟨rfl, _, rfl, Below.refl _ _, rfl⟩
                  apply OpsIs.eq
                  · intro vs u hb hd
                    have e1 := hd ⟨1, .data⟩ (by simp) (by decide)
                    simp at e1
                    clear hd
                    simp only [e1]
                    go_wp2_with fail
                    exact ⟨rfl, _, rfl, Below.refl _ _, rfl⟩
                  apply OpsIs.eq
                  · intro vs u hb hd
                    have e2 := hd ⟨2, .data⟩ (by simp) (by decide)
                    simp at e2
                    clear hd
                    simp only [e2]
                    go_wp2_with fail
                    exact ⟨rfl, _, rfl, Below.refl _ _, rfl⟩
                  apply OpsIs.eq
                  · intro vs u hb hd
                    have e3 := hd ⟨3, .data⟩ (by simp) (by decide)
                    simp at e3
                    clear hd
                    simp only [e3]
                    go_wp2_with fail
                    exact ⟨rfl, _, rfl, Below.refl _ _, rfl⟩
                  apply OpsIs.eq
                  · intro vs u hb hd
                    have e4 := hd ⟨4, .data⟩ (by simp) (by decide)
                    simp at e4
                    clear hd
                    simp only [e4]
                    have dq : u.cell? ⟨bR, 9, none⟩ = some (.slice aq2 ps.length cq2) := (hb.cell (p := ⟨bR, 9, none⟩) HBR.out).trans HDQ.out
                    go_wp2_with fail
                    exact ⟨rfl, _, rfl, Below.refl _ _, rfl⟩
                  apply OpsIs.eq
                  · intro vs u hb hd
                    clear hd
                    go_wp2_with fail
                    exact ⟨rfl, _, rfl, Below.refl _ _, rfl⟩
                  apply OpsIs.eq
                  · intro vs u hb hd
                    have e6 := hd ⟨6, .data⟩ (by simp) (by decide)
                    simp at e6
                    clear hd
                    simp only [e6]
                    go_wp2_with fail
                    exact ⟨rfl, _, rfl, Below.refl _ _, rfl⟩
                  apply OpsIs.eq
                  · intro vs u hb hd
                    have e7 := hd ⟨7, .data⟩ (by simp) (by decide)
                    simp at e7
                    clear hd
                    simp only [e7]
                    have dg : u.cell? ⟨g, 0, none⟩ = some (.int .i64 a0) := (hb.cell (p := ⟨g, 0, none⟩) HGL.out).trans HDG.out
                    go_wp2_with fail
                    exact ⟨rfl, _, rfl, Below.refl _ _, rfl⟩
                  refine OpsIs.step (BsI a0) (Stab_BsI _) ?_ ?_
                  · intro vs u hb hd
                    have e8 := hd ⟨8, .data⟩ (by simp) (by decide)
                    simp at e8
                    clear hd
                    simp only [e8]
                    go_wp2_with fail
                    exact ⟨rfl, _, rfl, (Below.refl _ _).alloc (Nat.le_refl _) _, _, rfl, block_new _ _⟩
                  refine OpsIs.first ?_ ?_
                  · intro vs u hb hdis hd
                    have e5 := hd 5 (by simp)
                    simp at e5
                    obtain ⟨b9, e9, hb9⟩ := hd 9 (by simp)
                    clear hd
                    simp only [e5, e9]
                    have HUM := Lib.hid (HRM.out.later hb)
                    have HOU := Lib.hid HUM.out.ownQ
                    have HUG := Lib.hid (block_below hb HPK.out.nums HGL.out)
                    have HN9 := Lib.hid hb9
                    have HKU := Lib.hid (HPK.out.kept.trans (KeptR.of_below (bR := bR) hb HPK.out.size))
                    have hBu : B ≤ u.heap.size := Nat.le_trans HPK.out.size hb.size
                    clear hb9 hb
                    go_wp2_with (at_builtin; refine wpList_append_lies _ rfl _ _ 40 rfl B 3 i0 _ 1 8 Tryd.underlying40 hi0 hz0 hz1 hz2 rfl (by decide) _ ps.length _ rfl HOU.out ⟨b9, 0, none⟩ 1 1 [.int .i64 a0] rfl rfl (World.news_of_block (cs := #[_]) (t := 3) (fr := (0, 0)) HN9.out) (by simp [Value.oneCell']) (by omega) (by unfold maxLen; omega) (by omega) (by omega) u.heap.size rfl ?c1)
                    case c1 =>
                      intro gg c4 w6 hown6 hgrow6 hat6 hlt6
                      have HA6 := Lib.hid (show AftP B bR g x.c vP n x.last ss ps a0 cur w 1 (upd vs 10 (.slice (some ⟨gg, 0, none⟩) (ps.length + 1) c4)) w6 from by
                        unfold AftP
                        rw [if_pos rfl]
                        refine ⟨aq2, cq2, gg, c4, u, rfl, HUM.out, HN2.out, HUG.out, hgrow6, hown6, ?_, HKU.out, hBu⟩
                        rcases hat6 with h | h
                        · exact .inl h
                        · exact .inr (by omega))
                      clear hown6 hgrow6 hat6 hlt6
                      go_wp2_with fail
                      exact ⟨rfl, _, rfl, HA6.out⟩
                  apply OpsIs.pure
                  · intro vs u hd
                    obtain ⟨_, e0⟩ := hd ⟨0, .data⟩ (by simp) (by decide)
                    simp at e0
                    obtain ⟨_, e1⟩ := hd ⟨1, .phase⟩ (by simp) (by decide)
                    simp at e1
                    obtain ⟨_, e2⟩ := hd ⟨2, .phase⟩ (by simp) (by decide)
                    simp at e2
                    obtain ⟨_, e3⟩ := hd ⟨3, .phase⟩ (by simp) (by decide)
                    simp at e3
                    obtain ⟨_, e4⟩ := hd ⟨4, .phase⟩ (by simp) (by decide)
                    simp at e4
                    obtain ⟨_, e5⟩ := hd ⟨5, .phase⟩ (by simp) (by decide)
                    simp at e5
                    obtain ⟨_, e6⟩ := hd ⟨6, .phase⟩ (by simp) (by decide)
                    simp at e6
                    obtain ⟨_, e7⟩ := hd ⟨7, .phase⟩ (by simp) (by decide)
                    simp at e7
                    obtain ⟨_, e8⟩ := hd ⟨8, .phase⟩ (by simp) (by decide)
                    simp at e8
                    clear hd
                    simp only [e0, e1, e2, e3, e4, e5, e6, e7, e8]
                    go_wp2_with fail
                    exact ⟨rfl, _, rfl, rfl, fun _ => rfl⟩
                  apply OpsIs.pure
                  · intro vs u hd
                    obtain ⟨_, e11⟩ := hd ⟨11, .data⟩ (by simp) (by decide)
                    simp at e11
                    obtain ⟨_, e0⟩ := hd ⟨0, .phase⟩ (by simp) (by decide)
                    simp at e0
                    obtain ⟨_, e1⟩ := hd ⟨1, .phase⟩ (by simp) (by decide)
                    simp at e1
                    obtain ⟨_, e2⟩ := hd ⟨2, .phase⟩ (by simp) (by decide)
                    simp at e2
                    obtain ⟨_, e3⟩ := hd ⟨3, .phase⟩ (by simp) (by decide)
                    simp at e3
                    obtain ⟨_, e4⟩ := hd ⟨4, .phase⟩ (by simp) (by decide)
                    simp at e4
                    obtain ⟨_, e5⟩ := hd ⟨5, .phase⟩ (by simp) (by decide)
                    simp at e5
                    obtain ⟨_, e6⟩ := hd ⟨6, .phase⟩ (by simp) (by decide)
                    simp at e6
                    obtain ⟨_, e7⟩ := hd ⟨7, .phase⟩ (by simp) (by decide)
                    simp at e7
                    obtain ⟨_, e8⟩ := hd ⟨8, .phase⟩ (by simp) (by decide)
                    simp at e8
                    clear hd
                    simp only [e11, e0, e1, e2, e3, e4, e5, e6, e7, e8]
                    go_wp2_with fail
                    exact ⟨rfl, _, rfl, rfl, fun _ => rfl⟩
                  apply OpsIs.pure
                  · intro vs u hd
                    obtain ⟨_, e12⟩ := hd ⟨12, .data⟩ (by simp) (by decide)
                    simp at e12
                    obtain ⟨_, e0⟩ := hd ⟨0, .phase⟩ (by simp) (by decide)
                    simp at e0
                    obtain ⟨_, e1⟩ := hd ⟨1, .phase⟩ (by simp) (by decide)
                    simp at e1
                    obtain ⟨_, e2⟩ := hd ⟨2, .phase⟩ (by simp) (by decide)
                    simp at e2
                    obtain ⟨_, e3⟩ := hd ⟨3, .phase⟩ (by simp) (by decide)
                    simp at e3
                    obtain ⟨_, e4⟩ := hd ⟨4, .phase⟩ (by simp) (by decide)
                    simp at e4
                    obtain ⟨_, e5⟩ := hd ⟨5, .phase⟩ (by simp) (by decide)
                    simp at e5
                    obtain ⟨_, e6⟩ := hd ⟨6, .phase⟩ (by simp) (by decide)
                    simp at e6
                    obtain ⟨_, e7⟩ := hd ⟨7, .phase⟩ (by simp) (by decide)
                    simp at e7
                    obtain ⟨_, e8⟩ := hd ⟨8, .phase⟩ (by simp) (by decide)
                    simp at e8
                    clear hd
                    simp only [e12, e0, e1, e2, e3, e4, e5, e6, e7, e8]
                    go_wp2_with fail
                    exact ⟨rfl, _, rfl, rfl, fun _ => rfl⟩
                  refine OpsIs.next ?_ ?_
                  · intro vs u hE hd
                    obtain ⟨_, e13⟩ := hd ⟨13, .data⟩ (by simp) (by decide)
                    simp at e13
                    obtain ⟨_, e0⟩ := hd ⟨0, .phase⟩ (by simp) (by decide)
                    simp at e0
                    obtain ⟨_, e1⟩ := hd ⟨1, .phase⟩ (by simp) (by decide)
                    simp at e1
                    obtain ⟨_, e2⟩ := hd ⟨2, .phase⟩ (by simp) (by decide)
                    simp at e2
                    obtain ⟨_, e3⟩ := hd ⟨3, .phase⟩ (by simp) (by decide)
                    simp at e3
                    obtain ⟨_, e4⟩ := hd ⟨4, .phase⟩ (by simp) (by decide)
                    simp at e4
                    obtain ⟨_, e5⟩ := hd ⟨5, .phase⟩ (by simp) (by decide)
                    simp at e5
                    obtain ⟨_, e6⟩ := hd ⟨6, .phase⟩ (by simp) (by decide)
                    simp at e6
                    obtain ⟨_, e7⟩ := hd ⟨7, .phase⟩ (by simp) (by decide)
                    simp at e7
                    obtain ⟨_, e8⟩ := hd ⟨8, .phase⟩ (by simp) (by decide)
                    simp at e8
                    unfold AftP at hE
                    rw [if_pos rfl] at hE
                    obtain ⟨aq3, cq3, gg, c4, W, hv, hrm, hne, hcu, hgr, how, hat, hkr, hBW⟩ := hE
                    clear hd
                    simp only [e13, e0, e1, e2, e3, e4, e5, e6, e7, e8, hv]
                    obtain ⟨⟨x9, hx9⟩, hf9, ha9⟩ := AftP.two (upd vs 14 undef) hrm hne hcu hgr how hat hkr hBW
                    have HA9 := Lib.hid ha9
                    clear hrm hne hcu hgr how hat hkr hBW ha9
                    go_wp2_with fail
                    exact ⟨rfl, undef, rfl, HA9.out⟩
                  refine OpsIs.done ?_
                  intro vs u hE hS
                  clear hS
                  -- R8 end
                  unfold AftP at hE
                  rw [if_neg (by decide)] at hE
                  have HP2 := Lib.hid hE
                  clear hE
                  go_wp2_with fail
                  go_roundw
                  case rel => exact ⟨j + 1, by omega, by first | go_num | (rw [IntKind.wrap_i64]; congr 1; omega) | simp, by rw [← HPE.out]; exact HP2.out⟩
                  case measure => (simp [intOf] <;> omega)
                · have HJ := Lib.hid (show a1.toNat = j by omega)
                  obtain ⟨aq2, cq2, hrm2, hnq2⟩ := HPK.out.rd
                  have HRM := Lib.hid hrm2
                  have d0 : wr.cell? ⟨g, 0, none⟩ = some (.int .i64 a0) := (block_cell HPK.out.nums 0).trans HU0.out
                  have p11 := rd_last hrm2
                  have f11 := block_free hrm2.cells 11
                  have HY := Lib.hid (HYES.out (wr.setCell ⟨bR, 11, none⟩ (.int .i64 a0)) _ (HPK.out.kept.trans (KeptR.set hrm2.cells (.inr rfl) HPK.out.size)) HX.out ⟨_, _, ss, by
                    rw [HJ.out]
                    exact hrm2.put (c' := x.c) (ln' := n) (last' := a0) (grown_set2 _ _ 11 _) (block_setCell hrm2.cells 11 (.int .i64 a0)), HSS.out⟩)
                  clear hrm2 hnq2
                  go_wp2_with fail
                  exact HY.out
            · as_aux_lemma =>
                have g4 : decide (65535 - (x.ps.length : Int) < a1) = true := decide_eq_true (by omega)
                have HX := Lib.hid (show pickP x [pickN, w1, w_2] = none by rw [HCP2.out, if_neg (fun k => h4 k.2.2)])
                clear h1 h2 h4
                go_upto_region 4 with (fail)
                go_quiet (fail)
                go_wp2_with fail
                exact HNO.out _ (HB2.out.trans ⟨rfl, rfl, rfl, Nat.le_refl _, fun _ _ => rfl⟩) HX.out
        · as_aux_lemma =>
            have g1 : decide (a1 < 1) = true := decide_eq_true (by omega)
            have HX := Lib.hid (show pickP x [pickN, w1, w_2] = none by rw [HCP2.out, if_neg (fun k => h1 k.1)])
            clear h1 hok0 hok1
            go_upto_region 4 with (fail)
            go_quiet (fail)
            go_wp2_with fail
            exact HNO.out _ (HB2.out.trans ⟨rfl, rfl, rfl, Nat.le_refl _, fun _ _ => rfl⟩) HX.out
    · have HX := Lib.hid (HNO.out w (Below.refl _ _) (by unfold pickP; rw [if_neg (fun k => hc k.2)]))
      have hb : ((⟨w0.toArray⟩ : ByteArray).toList == [112, 105, 99, 107]) = false := by
        rw [ByteArray.toList_eq, beq_eq_false_iff_ne]
        exact hc
      have hb2 : (w0 == [112, 105, 99, 107]) = false := by rw [beq_eq_false_iff_ne]; exact hc
      clear hc h hw hwl
      go_enter Tryd.func48, Tryd.ntmps48
      go_wp2_with fail
      go_ret
      exact HX.out
  · have HX := Lib.hid (HNO.out w (Below.refl _ _) (by unfold pickP; rw [if_neg (fun k => h3 k.1)]))
    generalize ws.length = m at *
    have hb : ((m : Int) == 3) = false := by rw [beq_eq_false_iff_ne]; omega
    have hb2 : ((m : Int) != 3) = true := by rw [bne_iff_ne]; omega
    have hm9 : ¬ (m = 3) := h3
    have HM9 := Lib.hid hm9
    clear h3 h hw hwl hm9 HNO
    go_enter Tryd.func48, Tryd.ntmps48
    go_wp2_with fail
    go_ret
    exact HX.out
end Go.Proofs.YtdfkbahlngijcaaDoor

