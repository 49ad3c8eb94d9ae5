/- Text: the reference's reader in memory (printed by gen/clone_n.py out of the program's). (printed by slim.py.) -/
import Derived.Test.YtdfkbahlngijcaaDoorQWk
namespace Go.Proofs.YtdfkbahlngijcaaDoor
open Go.RowKit
set_option linter.unusedVariables false

/-- the reader in memory -/
structure RnM (B bR : Nat) (c : Cf) (vP vQ : Value) (ln last : Int) (ss : List Pg) (ps : List Int) (W : World) : Prop where
  cells : W.heap[bR]? = some (.cells (rdC c vP vQ ln last) 96 (0, 0))
  ownP : W.ownsRow B 60 1 vP ss.length (flatR fPg ss)
  ownQ : W.ownsRow B 3 1 vQ ps.length (flatR fI ps)
  rows : ∀ s ∈ ss, W.ownsRow B 51 7 (pgV s) s.n (flatR fO s.l) ∧ s.l.length = s.n
  apart : ss.Pairwise fun s t => Apart (pgV s) (pgV t)
section
variable {B bR : Nat} {c : Cf} {vP vQ : Value} {ln last : Int} {ss : List Pg} {ps : List Int} {W W' : World}
theorem RnM.later (h : RnM B bR c vP vQ ln last ss ps W) (hb : Below W.heap.size W W') : RnM B bR c vP vQ ln last ss ps W' :=
  ⟨block_below hb h.cells (block_lt h.cells), own_below h.ownP hb, own_below h.ownQ hb, fun s hs => ⟨own_below (h.rows s hs).1 hb, (h.rows s hs).2⟩, h.apart⟩
/-- the reader's own block is turned, the rows as they are -/
theorem RnM.put (h : RnM B bR c vP vQ ln last ss ps W) {c' : Cf} {ln' last' : Int} (hg : W.grownBy W' (some bR)) (hc : W'.heap[bR]? = some (.cells (rdC c' vP vQ ln' last') 96 (0, 0))) : RnM B bR c' vP vQ ln' last' ss ps W' :=
  ⟨hc, own_away h.ownP hg (own_not h.ownP h.cells (by decide)), own_away h.ownQ hg (own_not h.ownQ h.cells (by decide)), fun s hs => ⟨own_away (h.rows s hs).1 hg (own_not (h.rows s hs).1 h.cells (by decide)), (h.rows s hs).2⟩, h.apart⟩

/-- a client more -/
theorem RnM.client (h : RnM B bR c vP vQ ln last ss ps W) {W4 : World} {v4 : Value} (hg : W.grownBy W4 vP.ownBlock) (ho : W4.ownsRow B 60 1 v4 (ss.length + 1) (flatR fPg ss ++ [.slice none 0 0])) :
    RnM B bR c v4 vQ ln last (ss ++ [⟨none, 0, 0, []⟩]) ps (W4.setCell ⟨bR, 8, none⟩ v4) := by
  have hc4 := keep_append h.ownP h.cells (by decide) hg h.cells
  have hq4 := own_away h.ownQ hg (fun q hq => own_not_own h.ownQ h.ownP (by decide) q hq)
  have hr4 : ∀ s ∈ ss, W4.ownsRow B 51 7 (pgV s) s.n (flatR fO s.l) := fun s hs => own_away (h.rows s hs).1 hg (fun q hq => own_not_own (h.rows s hs).1 h.ownP (by decide) q hq)
  refine ⟨block_setCell hc4 8 v4, own_set (by rw [flatR_app, flatR_one, List.length_append]; exact ho) hc4 (by decide) 8 v4, own_set hq4 hc4 (by decide) 8 v4, fun s hs => ?_, ?_⟩
  · rcases List.mem_append.1 hs with hs | hs
    · exact ⟨own_set (hr4 s hs) hc4 (by decide) 8 v4, (h.rows s hs).2⟩
    · rw [List.mem_singleton] at hs
      subst hs
      exact ⟨⟨rfl, .inl ⟨rfl, rfl⟩⟩, rfl⟩
  · rw [List.pairwise_append]
    refine ⟨h.apart, List.pairwise_singleton .., fun s _ t ht => ?_⟩
    rw [List.mem_singleton] at ht
    subst ht
    exact fun q _ e => by cases e
/-- a pick more -/
theorem RnM.pick (h : RnM B bR c vP vQ ln last ss ps W) {W4 : World} {v4 : Value} {q : Int} (hg : W.grownBy W4 vQ.ownBlock) (ho : W4.ownsRow B 3 1 v4 (ps.length + 1) (flatR fI ps ++ [.int .i64 q])) :
    RnM B bR c vP v4 ln last ss (ps ++ [q]) (W4.setCell ⟨bR, 9, none⟩ v4) := by
  have hc4 := keep_append h.ownQ h.cells (by decide) hg h.cells
  have hp4 := own_away h.ownP hg (fun q hq => own_not_own h.ownP h.ownQ (by decide) q hq)
  have hr4 : ∀ s ∈ ss, W4.ownsRow B 51 7 (pgV s) s.n (flatR fO s.l) := fun s hs => own_away (h.rows s hs).1 hg (fun q hq => own_not_own (h.rows s hs).1 h.ownQ (by decide) q hq)
  exact ⟨block_setCell hc4 9 v4, own_set hp4 hc4 (by decide) 9 v4, own_set (by rw [flatI_app, flatI_one, List.length_append]; exact ho) hc4 (by decide) 9 v4, fun s hs => ⟨own_set (hr4 s hs) hc4 (by decide) 9 v4, (h.rows s hs).2⟩, h.apart⟩

/-- an operation more at the last client -/
theorem RnM.op {g cap : Nat} {ss0 : List Pg} {s : Pg} (h : RnM B bR c (.slice (some ⟨g, 0, none⟩) (ss0.length + 1) cap) vQ ln last (ss0 ++ [s]) ps W) {W4 : World} {a4 : Option Addr} {c4 : Nat} {o : Ov}
    (hg : W.grownBy W4 (pgV s).ownBlock) (ho : W4.ownsRow B 51 7 (.slice a4 (s.n + 1) c4) (s.n + 1) (flatR fO s.l ++ fO o)) (hn : (Value.slice a4 (s.n + 1) c4).ownBlock = (pgV s).ownBlock ∨ ∃ q, (Value.slice a4 (s.n + 1) c4).ownBlock = some q ∧ W.heap.size ≤ q) :
    RnM B bR c (.slice (some ⟨g, 0, none⟩) (ss0.length + 1) cap) vQ ln last (ss0 ++ [⟨a4, s.n + 1, c4, s.l ++ [o]⟩]) ps (W4.setCell ⟨g, ss0.length, none⟩ (.slice a4 (s.n + 1) c4)) := by
  have hsm : s ∈ ss0 ++ [s] := by simp
  obtain ⟨hos, hls⟩ := h.rows s hsm
  have hP4 := own_away h.ownP hg (fun q hq => own_not_own h.ownP hos (by decide) q hq)
  have hQ4 := own_away h.ownQ hg (fun q hq => own_not_own h.ownQ hos (by decide) q hq)
  have hc4 := keep_append hos h.cells (by decide) hg h.cells
  obtain ⟨-, cur, hgc⟩ := own_typ1 hP4 (q := g) rfl
  have hap := List.pairwise_append.1 h.apart
  have hr4 : ∀ x ∈ ss0, W4.ownsRow B 51 7 (pgV x) x.n (flatR fO x.l) := fun x hx => own_away (h.rows x (by simp [hx])).1 hg (fun q hq e => hap.2.2 x hx s (by simp) q hq e)
  have hne : g ≠ bR := by
    rintro rfl
    rw [hgc] at hc4
    injection hc4 with hc4
    injection hc4 with _ hc4 _
    exact absurd hc4 (by decide)
  refine ⟨block_setCell_other hc4 hne _, ?_, own_set hQ4 hgc (by decide) _ _, fun x hx => ?_, ?_⟩
  · have hput := own_put (j := ss0.length) (by rw [List.length_append] at hP4; exact hP4) (by simp) (.slice a4 (s.n + 1) c4)
    have e1 : (flatR fPg (ss0 ++ [s])).set ss0.length (.slice a4 (s.n + 1) c4) = flatR fPg (ss0 ++ [⟨a4, s.n + 1, c4, s.l ++ [o]⟩]) := by
      have hfl : (flatR fPg ss0).length = ss0.length := by rw [flatR_len fPg_len]; omega
      rw [flatR_app, flatR_app, flatR_one, flatR_one, List.set_append_right _ _ (by rw [hfl]; exact Nat.le_refl _), hfl, Nat.sub_self]
      rfl
    rw [e1] at hput
    rw [List.length_append]
    exact hput
  · rcases List.mem_append.1 hx with hx | hx
    · exact ⟨own_set (hr4 x hx) hgc (by decide) _ _, (h.rows x (by simp [hx])).2⟩
    · rw [List.mem_singleton] at hx
      subst hx
      exact ⟨own_set (by rw [flatR_app, flatR_one]; exact ho) hgc (by decide) _ _, by rw [List.length_append, hls]; rfl⟩
  · rw [List.pairwise_append]
    refine ⟨hap.1, List.pairwise_singleton .., fun x hx t ht => ?_⟩
    rw [List.mem_singleton] at ht
    subst ht
    intro q hq e
    rcases hn with hn | ⟨r, hn, hr⟩
    · exact hap.2.2 x hx s (by simp) q hq (hn.symm.trans e)
    · have e2 : q = r := by
        have := e.symm.trans hn
        injection this
      obtain ⟨-, cur2, hc2⟩ := own_typ1 (h.rows x (by simp [hx])).1 hq
      have := block_lt hc2
      omega
end

/-- the configuration is written -/
theorem store8N {B bR : Nat} {c : Cf} {vP vQ : Value} {ln last : Int} {ss : List Pg} {ps : List Int} {W : World} (h : RnM B bR c vP vQ ln last ss ps W) (a0 a1 a2 a3 a4 a5 a6 : Int) (t : ByteArray) (hB : B ≤ W.heap.size) :
    RnM B bR ⟨a0, a1, a2, a3, a4, a5, a6, t⟩ vP vQ ln last ss ps ((((((((W.setCell ⟨bR, 0, none⟩ (.int .i64 a0)).setCell ⟨bR, 1, none⟩ (.int .u64 a1)).setCell ⟨bR, 2, none⟩ (.int .i64 a2)).setCell ⟨bR, 3, none⟩ (.int .i64 a3)).setCell ⟨bR, 4, none⟩ (.int .i64 a4)).setCell ⟨bR, 5, none⟩ (.int .i64 a5)).setCell ⟨bR, 6, none⟩ (.int .i64 a6)).setCell ⟨bR, 7, none⟩ (.string t)) ∧
    KeptR B bR W ((((((((W.setCell ⟨bR, 0, none⟩ (.int .i64 a0)).setCell ⟨bR, 1, none⟩ (.int .u64 a1)).setCell ⟨bR, 2, none⟩ (.int .i64 a2)).setCell ⟨bR, 3, none⟩ (.int .i64 a3)).setCell ⟨bR, 4, none⟩ (.int .i64 a4)).setCell ⟨bR, 5, none⟩ (.int .i64 a5)).setCell ⟨bR, 6, none⟩ (.int .i64 a6)).setCell ⟨bR, 7, none⟩ (.string t)) := by
  obtain ⟨s0, s1, s2, s3, s4, s5, s6, st⟩ := c
  have sz : ∀ (X : World) (i : Nat) (v : Value), B ≤ X.heap.size → B ≤ (X.setCell ⟨bR, i, none⟩ v).heap.size := fun X i v hx => Nat.le_trans hx (grown_set2 X bR i v).size
  have h0 := h.put (c' := ⟨a0, s1, s2, s3, s4, s5, s6, st⟩) (ln' := ln) (last' := last) (grown_set2 _ _ 0 _) (block_setCell h.cells 0 (.int .i64 a0))
  have h1 := h0.put (c' := ⟨a0, a1, s2, s3, s4, s5, s6, st⟩) (ln' := ln) (last' := last) (grown_set2 _ _ 1 _) (block_setCell h0.cells 1 (.int .u64 a1))
  have h2 := h1.put (c' := ⟨a0, a1, a2, s3, s4, s5, s6, st⟩) (ln' := ln) (last' := last) (grown_set2 _ _ 2 _) (block_setCell h1.cells 2 (.int .i64 a2))
  have h3 := h2.put (c' := ⟨a0, a1, a2, a3, s4, s5, s6, st⟩) (ln' := ln) (last' := last) (grown_set2 _ _ 3 _) (block_setCell h2.cells 3 (.int .i64 a3))
  have h4 := h3.put (c' := ⟨a0, a1, a2, a3, a4, s5, s6, st⟩) (ln' := ln) (last' := last) (grown_set2 _ _ 4 _) (block_setCell h3.cells 4 (.int .i64 a4))
  have h5 := h4.put (c' := ⟨a0, a1, a2, a3, a4, a5, s6, st⟩) (ln' := ln) (last' := last) (grown_set2 _ _ 5 _) (block_setCell h4.cells 5 (.int .i64 a5))
  have h6 := h5.put (c' := ⟨a0, a1, a2, a3, a4, a5, a6, st⟩) (ln' := ln) (last' := last) (grown_set2 _ _ 6 _) (block_setCell h5.cells 6 (.int .i64 a6))
  have h7 := h6.put (c' := ⟨a0, a1, a2, a3, a4, a5, a6, t⟩) (ln' := ln) (last' := last) (grown_set2 _ _ 7 _) (block_setCell h6.cells 7 (.string t))
  refine ⟨h7, ?_⟩
  have k0 := KeptR.set (i := 0) (v := .int .i64 a0) h.cells (.inr rfl) hB
  have b0 := sz _ 0 (.int .i64 a0) hB
  have k1 := KeptR.set (i := 1) (v := .int .u64 a1) h0.cells (.inr rfl) b0
  have b1 := sz _ 1 (.int .u64 a1) b0
  have k2 := KeptR.set (i := 2) (v := .int .i64 a2) h1.cells (.inr rfl) b1
  have b2 := sz _ 2 (.int .i64 a2) b1
  have k3 := KeptR.set (i := 3) (v := .int .i64 a3) h2.cells (.inr rfl) b2
  have b3 := sz _ 3 (.int .i64 a3) b2
  have k4 := KeptR.set (i := 4) (v := .int .i64 a4) h3.cells (.inr rfl) b3
  have b4 := sz _ 4 (.int .i64 a4) b3
  have k5 := KeptR.set (i := 5) (v := .int .i64 a5) h4.cells (.inr rfl) b4
  have b5 := sz _ 5 (.int .i64 a5) b4
  have k6 := KeptR.set (i := 6) (v := .int .i64 a6) h5.cells (.inr rfl) b5
  have b6 := sz _ 6 (.int .i64 a6) b5
  have k7 := KeptR.set (i := 7) (v := .string t) h6.cells (.inr rfl) b6
  exact ((((((k0.trans k1).trans k2).trans k3).trans k4).trans k5).trans k6).trans k7

theorem rd_thereN {B bR : Nat} {c : Cf} {vP vQ : Value} {ln last : Int} {ss : List Pg} {ps : List Int} {W : World} (h : RnM B bR c vP vQ ln last ss ps W) : W.there bR 0 8 := by
  intro j hj
  rw [Nat.zero_add, block_cell h.cells, block_free h.cells]
  refine ⟨?_, rfl⟩
  rcases (by omega : j = 0 ∨ j = 1 ∨ j = 2 ∨ j = 3 ∨ j = 4 ∨ j = 5 ∨ j = 6 ∨ j = 7) with rfl | rfl | rfl | rfl | rfl | rfl | rfl | rfl <;> rfl

theorem rd_lastN {B bR : Nat} {c : Cf} {vP vQ : Value} {ln last : Int} {ss : List Pg} {ps : List Int} {W : World} (h : RnM B bR c vP vQ ln last ss ps W) : W.cell? ⟨bR, 11, none⟩ = some (.int .i64 last) := (block_cell h.cells 11).trans rfl
theorem rd_PN {B bR : Nat} {c : Cf} {vP vQ : Value} {ln last : Int} {ss : List Pg} {ps : List Int} {W : World} (h : RnM B bR c vP vQ ln last ss ps W) : W.cell? ⟨bR, 8, none⟩ = some vP := (block_cell h.cells 8).trans rfl
theorem rd_QN {B bR : Nat} {c : Cf} {vP vQ : Value} {ln last : Int} {ss : List Pg} {ps : List Int} {W : World} (h : RnM B bR c vP vQ ln last ss ps W) : W.cell? ⟨bR, 9, none⟩ = some vQ := (block_cell h.cells 9).trans rfl

def AftON (B bR g cap : Nat) (c : Cf) (vQ : Value) (ln last : Int) (ss0 : List Pg) (s : Pg) (ps : List Int) (o : Ov) (w3 : World) (p : Nat) (vs : Nat → Value) (u : World) : Prop :=
  if p = 1 then ∃ gg c4 W, vs 6 = .slice (some ⟨gg, 0, none⟩) (s.n + 1) c4 ∧ RnM B bR c (.slice (some ⟨g, 0, none⟩) (ss0.length + 1) cap) vQ ln last (ss0 ++ [s]) ps W ∧ W.grownBy u (pgV s).ownBlock ∧ u.ownsRow B 51 7 (.slice (some ⟨gg, 0, none⟩) (s.n + 1) c4) (s.n + 1) (flatR fO s.l ++ fO o) ∧ ((pgV s).ownBlock = some gg ∨ W.heap.size ≤ gg) ∧ KeptR B bR w3 W ∧ B ≤ W.heap.size
  else ∃ vP y, RnM B bR c vP vQ ln last (ss0 ++ [y]) ps u ∧ y.l = s.l ++ [o] ∧ KeptR B bR w3 u
/-- the second write -/
theorem AftON.two {B bR g cap : Nat} {c : Cf} {vQ : Value} {ln last : Int} {ss0 : List Pg} {s : Pg} {ps : List Int} {o : Ov} {w3 u W : World} {gg c4 : Nat} (vs : Nat → Value) (hrm : RnM B bR c (.slice (some ⟨g, 0, none⟩) (ss0.length + 1) cap) vQ ln last (ss0 ++ [s]) ps W) (hgr : W.grownBy u (pgV s).ownBlock)
    (how : u.ownsRow B 51 7 (.slice (some ⟨gg, 0, none⟩) (s.n + 1) c4) (s.n + 1) (flatR fO s.l ++ fO o)) (hat : (pgV s).ownBlock = some gg ∨ W.heap.size ≤ gg) (hkr : KeptR B bR w3 W) (hBW : B ≤ W.heap.size) :
    (∃ x, u.cell? ⟨g, ss0.length, none⟩ = some x) ∧ u.frozen? ⟨g, ss0.length, none⟩ = false ∧ AftON B bR g cap c vQ ln last ss0 s ps o w3 2 vs (u.setCell ⟨g, ss0.length, none⟩ (.slice (some ⟨gg, 0, none⟩) (s.n + 1) c4)) := by
  have hsm : s ∈ ss0 ++ [s] := by simp
  have hP4 := own_away hrm.ownP hgr (fun q hq => own_not_own hrm.ownP (hrm.rows s hsm).1 (by decide) q hq)
  have hgB := (own_typ1 hP4 (q := g) rfl).1
  obtain ⟨-, cur, hgc⟩ := own_typ1 hP4 (q := g) rfl
  have hcell : u.cell? ⟨g, ss0.length, none⟩ = some (pgV s) := by
    have hfl : (flatR fPg ss0).length = ss0.length := by rw [flatR_len fPg_len]; omega
    have := hP4.cells (g := g) rfl ss0.length (pgV s) (by rw [flatR_app, flatR_one, List.getElem?_append_right (by rw [hfl]; exact Nat.le_refl _), hfl, Nat.sub_self]; rfl)
    rw [add_to] at this
    simpa using this
  have hBu : B ≤ u.heap.size := Nat.le_trans hBW hgr.size
  refine ⟨⟨_, hcell⟩, block_free hgc _, ?_⟩
  unfold AftON
  rw [if_neg (by decide)]
  refine ⟨_, _, RnM.op hrm hgr how ?_, rfl, (hkr.trans (KeptR.own hgr (hrm.rows s hsm).1 hBW)).trans (KeptR.set hgc (.inl hgB) hBu)⟩
  rcases hat with hat | hat
  · exact .inl (hat ▸ rfl)
  · exact .inr ⟨gg, rfl, hat⟩

/-- the picks' row while the picks are written -/
structure PkSN (B bR g : Nat) (c : Cf) (vP : Value) (ln last : Int) (ss : List Pg) (ps : List Int) (cur : Array Value) (wq : World) (W : World) : Prop where
  rd : ∃ aq cq, RnM B bR c vP (.slice aq ps.length cq) ln last ss ps W ∧ ∀ q, (Value.slice aq ps.length cq).ownBlock = some q → q ≠ g
  nums : W.heap[g]? = some (.cells cur 3 (0, 0))
  kept : KeptR B bR wq W
  size : B ≤ W.heap.size
theorem PkSN.later {B bR g : Nat} {c : Cf} {vP : Value} {ln last : Int} {ss : List Pg} {ps : List Int} {cur : Array Value} {wq W W' : World} (h : PkSN B bR g c vP ln last ss ps cur wq W) (hb : Below W.heap.size W W') : PkSN B bR g c vP ln last ss ps cur wq W' := by
  obtain ⟨⟨aq, cq, h1, h2⟩, h3, h4, h5⟩ := h
  exact ⟨⟨aq, cq, h1.later hb, h2⟩, block_below hb h3 (block_lt h3), h4.trans (KeptR.of_below hb h5), Nat.le_trans h5 hb.size⟩
def AftPN (B bR g : Nat) (c : Cf) (vP : Value) (ln last : Int) (ss : List Pg) (ps : List Int) (a0 : Int) (cur : Array Value) (wq : World) (p : Nat) (vs : Nat → Value) (u : World) : Prop :=
  if p = 1 then ∃ aq cq gg c4 W, vs 10 = .slice (some ⟨gg, 0, none⟩) (ps.length + 1) c4 ∧ RnM B bR c vP (.slice aq ps.length cq) ln last ss ps W ∧ (∀ q, (Value.slice aq ps.length cq).ownBlock = some q → q ≠ g) ∧ W.heap[g]? = some (.cells cur 3 (0, 0)) ∧ W.grownBy u (Value.slice aq ps.length cq).ownBlock ∧ u.ownsRow B 3 1 (.slice (some ⟨gg, 0, none⟩) (ps.length + 1) c4) (ps.length + 1) (flatR fI ps ++ [.int .i64 a0]) ∧ ((Value.slice aq ps.length cq).ownBlock = some gg ∨ W.heap.size ≤ gg) ∧ KeptR B bR wq W ∧ B ≤ W.heap.size
  else PkSN B bR g c vP ln last ss (ps ++ [a0]) cur wq u
theorem AftPN.two {B bR g : Nat} {c : Cf} {vP : Value} {ln last : Int} {ss : List Pg} {ps : List Int} {a0 : Int} {cur : Array Value} {wq u W : World} {aq : Option Addr} {cq gg c4 : Nat} (vs : Nat → Value) (hrm : RnM B bR c vP (.slice aq ps.length cq) ln last ss ps W) (hne : ∀ q, (Value.slice aq ps.length cq).ownBlock = some q → q ≠ g) (hcur : W.heap[g]? = some (.cells cur 3 (0, 0)))
    (hgr : W.grownBy u (Value.slice aq ps.length cq).ownBlock) (how : u.ownsRow B 3 1 (.slice (some ⟨gg, 0, none⟩) (ps.length + 1) c4) (ps.length + 1) (flatR fI ps ++ [.int .i64 a0])) (hat : (Value.slice aq ps.length cq).ownBlock = some gg ∨ W.heap.size ≤ gg) (hkr : KeptR B bR wq W) (hBW : B ≤ W.heap.size) :
    (∃ x, u.cell? ⟨bR, 9, none⟩ = some x) ∧ u.frozen? ⟨bR, 9, none⟩ = false ∧ AftPN B bR g c vP ln last ss ps a0 cur wq 2 vs (u.setCell ⟨bR, 9, none⟩ (.slice (some ⟨gg, 0, none⟩) (ps.length + 1) c4)) := by
  have hc4 := keep_append hrm.ownQ hrm.cells (by decide) hgr hrm.cells
  have hBu : B ≤ u.heap.size := Nat.le_trans hBW hgr.size
  refine ⟨⟨_, (block_cell hc4 9).trans rfl⟩, block_free hc4 _, ?_⟩
  unfold AftPN
  rw [if_neg (by decide)]
  have hgu : u.heap[g]? = some (.cells cur 3 (0, 0)) := by
    rw [hgr.block g (block_lt hcur) (fun e => hne g e.symm rfl)]; exact hcur
  have hgb : g ≠ bR := by
    rintro rfl
    rw [hrm.cells] at hcur
    injection hcur with hcur
    injection hcur with _ hcur _
    exact absurd hcur (by decide)
  have hp := hrm.pick hgr how
  refine ⟨⟨some ⟨gg, 0, none⟩, c4, by rw [List.length_append]; exact hp, fun q hq e => ?_⟩, block_setCell_other hgu (fun e => hgb e.symm) _, (hkr.trans (KeptR.own hgr hrm.ownQ hBW)).trans (KeptR.set hc4 (.inr rfl) hBu), ?_⟩
  · subst e
    have hq : some gg = some q := hq
    injection hq with hq
    rcases hat with hat | hat
    · exact hne gg hat hq
    · have := block_lt hcur; omega
  · exact Nat.le_trans hBu (grown_set2 _ _ _ _).size

/-- a block that is not the reader's is turned -/
theorem RnM.turn {B bR : Nat} {c : Cf} {vP vQ : Value} {ln last : Int} {ss : List Pg} {ps : List Int} {W W' : World} (h : RnM B bR c vP vQ ln last ss ps W) {r : Nat} (hg : W.grownBy W' (some r)) (hr : (r < B ∧ r ≠ bR) ∨ (∀ o, W.heap[r]? = some o → o.isCells = false)) : RnM B bR c vP vQ ln last ss ps W' := by
  have own : ∀ {t : TypeId} {s n : Nat} {v : Value} {xs : List Value}, W.ownsRow B t s v n xs → W'.ownsRow B t s v n xs := fun ho => own_away ho hg fun q hq e => by
    injection e with e
    subst e
    obtain ⟨hb, cur, hc⟩ := own_typ1 ho hq
    rcases hr with hr | hr
    · omega
    · have := hr _ hc; cases this
  refine ⟨?_, own h.ownP, own h.ownQ, fun s hs => ⟨own (h.rows s hs).1, (h.rows s hs).2⟩, h.apart⟩
  rw [hg.block bR (block_lt h.cells) (fun e => by
    injection e with e
    subst e
    rcases hr with hr | hr
    · exact hr.2 rfl
    · have := hr _ h.cells; cases this)]
  exact h.cells

/-- the reference's state -/
def stOf (x : Rd) (n : Nat) : Int := if n = 0 then 0 else if 0 ≤ x.last then 3 else if x.ss = [] then 1 else 2
def laOf (x : Rd) : Int := if 0 ≤ x.last then x.last else 0
/-- the reference's reader has read x, in n lines -/
def RnS (B bR : Nat) (x : Rd) (n : Nat) (W : World) : Prop := ∃ vP vQ ss, RnM B bR x.c vP vQ (stOf x n) (laOf x) ss x.ps W ∧ ss.map (·.l) = x.ss
theorem RnS.later {B bR : Nat} {x : Rd} {n : Nat} {w w' : World} (h : RnS B bR x n w) (hb : Below w.heap.size w w') : RnS B bR x n w' := by
  obtain ⟨vP, vQ, ss, hM, hs⟩ := h
  exact ⟨vP, vQ, ss, hM.later hb, hs⟩
end Go.Proofs.YtdfkbahlngijcaaDoor

