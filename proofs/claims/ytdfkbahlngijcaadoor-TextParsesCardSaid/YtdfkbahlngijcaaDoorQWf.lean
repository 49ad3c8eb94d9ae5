/- Text: the reader's state in memory, and what its steps keep. (printed by slim.py.) -/
import Derived.Test.YtdfkbahlngijcaaDoorQWe
namespace Go.Proofs.YtdfkbahlngijcaaDoor
open Go.RowKit
set_option linter.unusedVariables false

def pgV (s : Pg) : Value := .slice s.a s.n s.c
/-- two rows of the call's own in two blocks -/
def Apart (v u : Value) : Prop := ∀ q, v.ownBlock = some q → u.ownBlock ≠ some q
theorem Apart.symm {v u : Value} (h : Apart v u) : Apart u v := fun q h1 h2 => h q h2 h1
theorem own_away {w w' : World} {B s : Nat} {t : TypeId} {u : Value} {n : Nat} {l : List Value} {r : Option Nat} (hu : w.ownsRow B t s u n l) (hg : w.grownBy w' r) (ha : ∀ q, u.ownBlock = some q → r ≠ some q) : w'.ownsRow B t s u n l := by
  obtain ⟨h1, h2⟩ := hu
  refine ⟨h1, ?_⟩
  rcases h2 with h2 | ⟨g, cap, cur, e, hb, hgg, hr⟩
  · exact .inl h2
  · refine .inr ⟨g, cap, cur, e, hb, ?_, hr⟩
    rw [hg.block g (block_lt hgg) (fun k => ha g (by rw [e]; rfl) k.symm)]
    exact hgg
/-- the block of an own row is of its type -/
theorem own_not {w : World} {B s n r : Nat} {t T : TypeId} {v : Value} {xs : List Value} {cs : Array Value} {fr : Nat × Nat} (h : w.ownsRow B t s v n xs) (hx : w.heap[r]? = some (.cells cs T fr)) (ht : t ≠ T) : ∀ q, v.ownBlock = some q → some r ≠ some q := by
  intro q hq e
  injection e with e
  subst e
  obtain ⟨-, cur, hc⟩ := own_typ1 h hq
  rw [hc] at hx
  injection hx with hx
  injection hx with _ hx _
  exact ht hx
theorem own_not_own {w : World} {B B' s s' n n' : Nat} {t t' : TypeId} {v v' : Value} {xs xs' : List Value} (h : w.ownsRow B t s v n xs) (h' : w.ownsRow B' t' s' v' n' xs') (ht : t ≠ t') : ∀ q, v.ownBlock = some q → v'.ownBlock ≠ some q := by
  intro q hq e
  obtain ⟨-, cur, hc⟩ := own_typ1 h' e
  exact own_not h hc ht q hq rfl
def rdC (c : Cf) (vP vQ : Value) (ln last : Int) : Array Value := #[.int .i64 c.slots, .int .u64 c.gens, .int .i64 c.clients, .int .i64 c.readers, .int .i64 c.queue, .int .i64 c.batch, .int .i64 c.feed, .string c.t, vP, vQ, .int .i64 ln, .int .i64 last]
/-- the reader in memory -/
structure RdM (B bR : Nat) (c : Cf) (vP vQ : Value) (ln last : Int) (ss : List Pg) (ps : List Int) (W : World) : Prop where
  cells : W.heap[bR]? = some (.cells (rdC c vP vQ ln last) 87 (0, 0))
  ownP : W.ownsRow B 60 1 vP ss.length (flatR fPg ss)
  ownQ : W.ownsRow B 3 1 vQ ps.length (flatR fI ps)
  rows : ∀ s ∈ ss, W.ownsRow B 51 7 (pgV s) s.n (flatR fO s.l) ∧ s.l.length = s.n
  apart : ss.Pairwise fun s t => Apart (pgV s) (pgV t)
section
variable {B bR : Nat} {c : Cf} {vP vQ : Value} {ln last : Int} {ss : List Pg} {ps : List Int} {W W' : World}
theorem RdM.later (h : RdM B bR c vP vQ ln last ss ps W) (hb : Below W.heap.size W W') : RdM B bR c vP vQ ln last ss ps W' :=
  ⟨block_below hb h.cells (block_lt h.cells), own_below h.ownP hb, own_below h.ownQ hb, fun s hs => ⟨own_below (h.rows s hs).1 hb, (h.rows s hs).2⟩, h.apart⟩
/-- the reader's own block is turned, the rows as they are -/
theorem RdM.put (h : RdM B bR c vP vQ ln last ss ps W) {c' : Cf} {ln' last' : Int} (hg : W.grownBy W' (some bR)) (hc : W'.heap[bR]? = some (.cells (rdC c' vP vQ ln' last') 87 (0, 0))) : RdM B bR c' vP vQ ln' last' ss ps W' :=
  ⟨hc, own_away h.ownP hg (own_not h.ownP h.cells (by decide)), own_away h.ownQ hg (own_not h.ownQ h.cells (by decide)), fun s hs => ⟨own_away (h.rows s hs).1 hg (own_not (h.rows s hs).1 h.cells (by decide)), (h.rows s hs).2⟩, h.apart⟩
theorem grown_set2 (W : World) (b i : Nat) (v : Value) : W.grownBy (W.setCell ⟨b, i, none⟩ v) (some b) :=
  ⟨rfl, rfl, rfl, by show W.heap.size ≤ (W.heap.modify _ _).size; rw [Array.size_modify]; exact Nat.le_refl _, fun k _ hk => Below.heap_setCell _ _ _ k (fun e => hk (by rw [e]))⟩
/-- a client more -/
theorem RdM.client (h : RdM B bR c vP vQ ln last ss ps W) {W4 : World} {v4 : Value} (hg : W.grownBy W4 vP.ownBlock) (ho : W4.ownsRow B 60 1 v4 (ss.length + 1) (flatR fPg ss ++ [.slice none 0 0])) :
    RdM B bR c v4 vQ ln last (ss ++ [⟨none, 0, 0, []⟩]) ps (W4.setCell ⟨bR, 8, none⟩ v4) := by
  have hc4 := keep_append h.ownP h.cells (by decide) hg h.cells
  have hq4 := own_away h.ownQ hg (fun q hq => own_not_own h.ownQ h.ownP (by decide) q hq)
  have hr4 : ∀ s ∈ ss, W4.ownsRow B 51 7 (pgV s) s.n (flatR fO s.l) := fun s hs => own_away (h.rows s hs).1 hg (fun q hq => own_not_own (h.rows s hs).1 h.ownP (by decide) q hq)
  refine ⟨block_setCell hc4 8 v4, own_set (by rw [flatR_app, flatR_one, List.length_append]; exact ho) hc4 (by decide) 8 v4, own_set hq4 hc4 (by decide) 8 v4, fun s hs => ?_, ?_⟩
  · rcases List.mem_append.1 hs with hs | hs
    · exact ⟨own_set (hr4 s hs) hc4 (by decide) 8 v4, (h.rows s hs).2⟩
    · rw [List.mem_singleton] at hs
      subst hs
      exact ⟨⟨rfl, .inl ⟨rfl, rfl⟩⟩, rfl⟩
  · rw [List.pairwise_append]
    refine ⟨h.apart, List.pairwise_singleton .., fun s _ t ht => ?_⟩
    rw [List.mem_singleton] at ht
    subst ht
    exact fun q _ e => by cases e
/-- a pick more -/
theorem RdM.pick (h : RdM B bR c vP vQ ln last ss ps W) {W4 : World} {v4 : Value} {q : Int} (hg : W.grownBy W4 vQ.ownBlock) (ho : W4.ownsRow B 3 1 v4 (ps.length + 1) (flatR fI ps ++ [.int .i64 q])) :
    RdM B bR c vP v4 ln last ss (ps ++ [q]) (W4.setCell ⟨bR, 9, none⟩ v4) := by
  have hc4 := keep_append h.ownQ h.cells (by decide) hg h.cells
  have hp4 := own_away h.ownP hg (fun q hq => own_not_own h.ownP h.ownQ (by decide) q hq)
  have hr4 : ∀ s ∈ ss, W4.ownsRow B 51 7 (pgV s) s.n (flatR fO s.l) := fun s hs => own_away (h.rows s hs).1 hg (fun q hq => own_not_own (h.rows s hs).1 h.ownQ (by decide) q hq)
  exact ⟨block_setCell hc4 9 v4, own_set hp4 hc4 (by decide) 9 v4, own_set (by rw [flatI_app, flatI_one, List.length_append]; exact ho) hc4 (by decide) 9 v4, fun s hs => ⟨own_set (hr4 s hs) hc4 (by decide) 9 v4, (h.rows s hs).2⟩, h.apart⟩
/-- an element of an own row is turned -/
theorem own_put {w : World} {B s g n cap j : Nat} {t : TypeId} {xs : List Value} (h : w.ownsRow B t s (.slice (some ⟨g, 0, none⟩) n cap) n xs) (hj : j < n * s) (x : Value) : (w.setCell ⟨g, j, none⟩ x).ownsRow B t s (.slice (some ⟨g, 0, none⟩) n cap) n (xs.set j x) := by
  obtain ⟨h1, h2⟩ := h
  refine ⟨by rw [List.length_set]; exact h1, ?_⟩
  rcases h2 with ⟨e, _⟩ | ⟨g', cap', cur, e, hb, hg, hc, hm, hs, htk⟩
  · cases e
  · injection e with e1 e2 e3
    injection e1 with e1
    injection e1 with e1
    subst e1 e3
    refine .inr ⟨g, cap, cur.setIfInBounds j x, rfl, hb, block_setCell hg j x, hc, hm, by simpa using hs, ?_⟩
    rw [Array.toList_setIfInBounds, List.take_set, htk]
/-- an operation more at the last client -/
theorem RdM.op {g cap : Nat} {ss0 : List Pg} {s : Pg} (h : RdM B bR c (.slice (some ⟨g, 0, none⟩) (ss0.length + 1) cap) vQ ln last (ss0 ++ [s]) ps W) {W4 : World} {a4 : Option Addr} {c4 : Nat} {o : Ov}
    (hg : W.grownBy W4 (pgV s).ownBlock) (ho : W4.ownsRow B 51 7 (.slice a4 (s.n + 1) c4) (s.n + 1) (flatR fO s.l ++ fO o)) (hn : (Value.slice a4 (s.n + 1) c4).ownBlock = (pgV s).ownBlock ∨ ∃ q, (Value.slice a4 (s.n + 1) c4).ownBlock = some q ∧ W.heap.size ≤ q) :
    RdM B bR c (.slice (some ⟨g, 0, none⟩) (ss0.length + 1) cap) vQ ln last (ss0 ++ [⟨a4, s.n + 1, c4, s.l ++ [o]⟩]) ps (W4.setCell ⟨g, ss0.length, none⟩ (.slice a4 (s.n + 1) c4)) := by
  have hsm : s ∈ ss0 ++ [s] := by simp
  obtain ⟨hos, hls⟩ := h.rows s hsm
  have hP4 := own_away h.ownP hg (fun q hq => own_not_own h.ownP hos (by decide) q hq)
  have hQ4 := own_away h.ownQ hg (fun q hq => own_not_own h.ownQ hos (by decide) q hq)
  have hc4 := keep_append hos h.cells (by decide) hg h.cells
  obtain ⟨-, cur, hgc⟩ := own_typ1 hP4 (q := g) rfl
  have hap := List.pairwise_append.1 h.apart
  have hr4 : ∀ x ∈ ss0, W4.ownsRow B 51 7 (pgV x) x.n (flatR fO x.l) := fun x hx => own_away (h.rows x (by simp [hx])).1 hg (fun q hq e => hap.2.2 x hx s (by simp) q hq e)
  have hne : g ≠ bR := by
    rintro rfl
    rw [hgc] at hc4
    injection hc4 with hc4
    injection hc4 with _ hc4 _
    exact absurd hc4 (by decide)
  refine ⟨block_setCell_other hc4 hne _, ?_, own_set hQ4 hgc (by decide) _ _, fun x hx => ?_, ?_⟩
  · have hput := own_put (j := ss0.length) (by rw [List.length_append] at hP4; exact hP4) (by simp) (.slice a4 (s.n + 1) c4)
    have e1 : (flatR fPg (ss0 ++ [s])).set ss0.length (.slice a4 (s.n + 1) c4) = flatR fPg (ss0 ++ [⟨a4, s.n + 1, c4, s.l ++ [o]⟩]) := by
      have hfl : (flatR fPg ss0).length = ss0.length := by rw [flatR_len fPg_len]; omega
      rw [flatR_app, flatR_app, flatR_one, flatR_one, List.set_append_right _ _ (by rw [hfl]; exact Nat.le_refl _), hfl, Nat.sub_self]
      rfl
    rw [e1] at hput
    rw [List.length_append]
    exact hput
  · rcases List.mem_append.1 hx with hx | hx
    · exact ⟨own_set (hr4 x hx) hgc (by decide) _ _, (h.rows x (by simp [hx])).2⟩
    · rw [List.mem_singleton] at hx
      subst hx
      exact ⟨own_set (by rw [flatR_app, flatR_one]; exact ho) hgc (by decide) _ _, by rw [List.length_append, hls]; rfl⟩
  · rw [List.pairwise_append]
    refine ⟨hap.1, List.pairwise_singleton .., fun x hx t ht => ?_⟩
    rw [List.mem_singleton] at ht
    subst ht
    intro q hq e
    rcases hn with hn | ⟨r, hn, hr⟩
    · exact hap.2.2 x hx s (by simp) q hq (hn.symm.trans e)
    · have e2 : q = r := by
        have := e.symm.trans hn
        injection this
      obtain ⟨-, cur2, hc2⟩ := own_typ1 (h.rows x (by simp [hx])).1 hq
      have := block_lt hc2
      omega
end
/-- the reader has read x, in n lines -/
def RdS (B bR : Nat) (x : Rd) (n : Nat) (W : World) : Prop := ∃ vP vQ ss, RdM B bR x.c vP vQ n x.last ss x.ps W ∧ ss.map (·.l) = x.ss
end Go.Proofs.YtdfkbahlngijcaaDoor

