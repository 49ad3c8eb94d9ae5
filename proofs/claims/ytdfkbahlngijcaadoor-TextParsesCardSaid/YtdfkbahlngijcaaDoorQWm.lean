/- Text: Parse: its walk (under way: XWl is not clean yet). (printed by slim.py.) -/
import Derived.Test.YtdfkbahlngijcaaDoorQWl
import Derived.Test.YtdfkbahlngijcaaDoorQUj
import Derived.Shelf.Abstract
import Derived.Shelf.RegionOpen
import Derived.WalkKit
import Derived.OwnWalkIn
import Derived.TacticsInMore
import Derived.LoopNIn
import Derived.LoopIn
import Derived.Scope
import Derived.Test.YtdfkbahlngijcaaDoorQRegI
import Derived.Test.YtdfkbahlngijcaaDoorQKh
import Derived.Test.YtdfkbahlngijcaaDoorQWq
namespace Go.Proofs.YtdfkbahlngijcaaDoor
open Go.RowKit Go.Shelf
set_option linter.unusedVariables false
attribute [local go_sem] Oper.semAt_some

theorem KeptR.from {B bR : Nat} {W W' : World} (h : KeptR B bR W W') (B' : Nat) : KeepsFrom B' W W' := ⟨h.size, fun i o _ hi ho => h.nc i o hi ho⟩
theorem KeptR.keepB {b0 : Nat} {W W' : World} (h : KeptR (b0 + 8) (b0 + 3) W W') : KeepB (b0 + 5) W W' := ⟨h.block _ (by omega) (by omega), h.block _ (by omega) (by omega), h.block _ (by omega) (by omega)⟩
theorem setCell_same {w : World} {b i : Nat} {v : Value} {cs : Array Value} {T : TypeId} {fr : Nat × Nat} (h : w.heap[b]? = some (.cells cs T fr)) (hi : cs[i]? = some v) : w.setCell ⟨b, i, none⟩ v = w := by
  have e : (w.setCell ⟨b, i, none⟩ v).heap = w.heap := by
    apply Array.ext_getElem?
    intro k
    by_cases hk : k = b
    · subst hk
      rw [block_setCell h i v, h]
      obtain ⟨hlt, hv⟩ := Array.getElem?_eq_some_iff.1 hi
      subst hv
      rw [Array.setIfInBounds_def, dif_pos hlt, Array.set_getElem_self]
    · exact Below.heap_setCell w ⟨b, i, none⟩ v k hk
  have e2 : w.setCell ⟨b, i, none⟩ v = { w with heap := (w.setCell ⟨b, i, none⟩ v).heap } := rfl
  rw [e2, e]
theorem setCells_same {w : World} {b : Nat} {cs : Array Value} {T : TypeId} {fr : Nat × Nat} (h : w.heap[b]? = some (.cells cs T fr)) : ∀ (vs : List Value) (o : Nat), (∀ (j : Nat) (v : Value), vs[j]? = some v → cs[o + j]? = some v) → w.setCells b o vs = w
  | [], _, _ => rfl
  | v :: r, o, hv => by
    show (w.setCell ⟨b, o, none⟩ v).setCells b (o + 1) r = w
    have h0 : cs[o]? = some v := hv 0 v rfl
    rw [setCell_same h h0]
    exact setCells_same h r (o + 1) fun j u hj => by rw [show o + 1 + j = o + (j + 1) by omega]; exact hv (j + 1) u hj
/-- a store of what lies there -/
theorem store_same {w : World} {b : Nat} {T : TypeId} (h : w.heap[b]? = some (.cells zCf T (0, 0))) : (Instr.storeAt 42 (.pointer (some ⟨b, 0, none⟩)) (.agg #[.int .i64 0, .int .u64 0, .int .i64 0, .int .i64 0, .int .i64 0, .int .i64 0, .int .i64 0, .string ⟨#[]⟩, .slice none 0 0, .slice none 0 0])).run Tryd.prog w = .ok () w := by
  have hth : w.there b 0 10 := by
    intro j hj
    rw [Nat.zero_add, block_cell h, block_free h]
    refine ⟨?_, rfl⟩
    rcases (by omega : j = 0 ∨ j = 1 ∨ j = 2 ∨ j = 3 ∨ j = 4 ∨ j = 5 ∨ j = 6 ∨ j = 7 ∨ j = 8 ∨ j = 9) with rfl | rfl | rfl | rfl | rfl | rfl | rfl | rfl | rfl | rfl <;> rfl
  have := run_storeAt_mid (P := Tryd.prog) w b 0 42 #[.int .i64 0, .int .u64 0, .int .i64 0, .int .i64 0, .int .i64 0, .int .i64 0, .int .i64 0, .string ⟨#[]⟩, .slice none 0 0, .slice none 0 0] hth (by kernel_rfl) (by simp [Value.oneCell'])
  rw [this, setCells_same h _ 0 fun j v hj => by rw [Nat.zero_add, ← Array.getElem?_toList]; exact hj]
theorem KeptR.low {B B' bR : Nat} {w w' : World} (h : KeptR B bR w w') (hB : B' ≤ B) : KeptR B' bR w w' := ⟨h.os, h.tape, h.output, h.size, fun k hk hn => h.block k (by omega) hn, h.nc⟩
/-- the results behind a wrong line -/
structure StopI (s : List UInt8) (b0 : Nat) (w W : World) : Prop where
  fold : ∃ (x : Rd) (k : Nat), foldP zeroRd 0 (segs s) = (x, k, false) ∧ W.heap[b0 + 1]? = some (.cells #[.int .i64 k] 3 (0, 0))
  x : W.heap[b0]? = some (.cells zCf 42 (0, 0))
  err : W.heap[b0 + 2]? = some (.cells #[.int .i64 4] 22 (0, 0))
  below : Below b0 w W
theorem StopI.turn {s : List UInt8} {b0 : Nat} {w W W' : World} (h : StopI s b0 w W) {r : Nat} (hg : W.grownBy W' (some r)) (hr : b0 + 3 ≤ r) : StopI s b0 w W' := by
  have hk : ∀ k, k < b0 + 3 → k < W.heap.size → W'.heap[k]? = W.heap[k]? := fun k hk hs => hg.block k hs (fun e => by injection e with e; omega)
  have h2 := block_lt h.err
  obtain ⟨x, k, h1, h3⟩ := h.fold
  exact ⟨⟨x, k, h1, (hk _ (by omega) (by omega)).trans h3⟩, (hk _ (by omega) (by omega)).trans h.x, (hk _ (by omega) h2).trans h.err, h.below.grown hg (by omega) fun q hq => by injection hq with hq; omega⟩
/-- what stands behind the writes of a wrong line -/
def AftN (b0 : Nat) (k : Int) (w3 : World) (p : Nat) (_ : Nat → Value) (u : World) : Prop :=
  if p = 1 then ∃ v, Below w3.heap.size w3 v ∧ u = v.setCell ⟨b0 + 1, 0, none⟩ (.int .i64 k)
  else ∃ v, Below w3.heap.size w3 v ∧ u = (v.setCell ⟨b0 + 1, 0, none⟩ (.int .i64 k)).setCell ⟨b0 + 1 + 1, 0, none⟩ (.int .i64 4)
/-- the three results as they lie -/
structure ResZ (b0 : Nat) (W : World) : Prop where
  x : W.heap[b0]? = some (.cells zCf 42 (0, 0))
  line : W.heap[b0 + 1]? = some (.cells #[.int .i64 0] 3 (0, 0))
  err : W.heap[b0 + 1 + 1]? = some (.cells #[.int .i64 0] 22 (0, 0))
  v : W.cell? ⟨b0 + 1 + 1 + 1 + 1, 0, none⟩ = some (.pointer (some ⟨b0 + 1 + 1 + 1, 0, none⟩))
  size : b0 + 8 ≤ W.heap.size
theorem ResZ.of {s : List UInt8} {S : ByteArray} {b0 : Nat} {w W0 W w3 : World} {pre : List (List UInt8)} {x : Rd} {n : Nat} (h : LoopI s b0 W0 pre x n W) (hp : ParW S b0 w W0) (hk : KeptR (b0 + 8) (b0 + 3) W w3) : ResZ b0 w3 := by
  have k : ∀ j, j < 3 ∨ j = 4 → w3.heap[b0 + j]? = W0.heap[b0 + j]? := fun j hj => (hk.block (b0 + j) (by omega) (by omega)).trans (h.res j hj)
  exact ⟨(k 0 (.inl (by omega))).trans hp.x, (k 1 (.inl (by omega))).trans hp.line, (k 2 (.inl (by omega))).trans hp.err, (block_cell ((k 4 (.inr rfl)).trans hp.v) 0).trans rfl, Nat.le_trans h.size hk.size⟩
theorem ResZ.below {b0 : Nat} {W u : World} (h : ResZ b0 W) (hb : Below W.heap.size W u) : ResZ b0 u := by
  have hs := h.size
  exact ⟨block_below hb h.x (by omega), block_below hb h.line (by omega), block_below hb h.err (by omega), (hb.cell (p := ⟨b0 + 1 + 1 + 1 + 1, 0, none⟩) (by show b0 + 1 + 1 + 1 + 1 < _; omega)).trans h.v, Nat.le_trans hs hb.size⟩
/-- the end of a round at a wrong line -/
theorem stop_end {s : List UInt8} {S : ByteArray} {b0 : Nat} {w W0 W w3 v : World} {pre rest : List (List UInt8)} {p : List UInt8} {x : Rd} {n : Nat} (h : LoopI s b0 W0 pre x n W) (hp : ParW S b0 w W0) (hk : KeptR (b0 + 8) (b0 + 3) W w3) (hb : Below w3.heap.size w3 v)
    (hL : segs s = pre ++ p :: rest) (hne : p ≠ []) (hs : stepP x n p = none) (B : Nat) :
    KeepsFrom B W ((v.setCell ⟨b0 + 1, 0, none⟩ (.int .i64 ((n + 1 : Nat) : Int))).setCell ⟨b0 + 1 + 1, 0, none⟩ (.int .i64 4)) ∧ StopI s b0 w ((v.setCell ⟨b0 + 1, 0, none⟩ (.int .i64 ((n + 1 : Nat) : Int))).setCell ⟨b0 + 1 + 1, 0, none⟩ (.int .i64 4)) := by
  have hz := (ResZ.of h hp hk).below hb
  have hsz := h.size
  have h3 := hk.size
  have hv := hz.size
  have e1 : (v.setCell ⟨b0 + 1, 0, none⟩ (.int .i64 ((n + 1 : Nat) : Int))).heap[b0 + 1]? = some (.cells #[.int .i64 ((n + 1 : Nat) : Int)] 3 (0, 0)) := block_setCell hz.line 0 _
  have e2 : (v.setCell ⟨b0 + 1, 0, none⟩ (.int .i64 ((n + 1 : Nat) : Int))).heap[b0 + 1 + 1]? = _ := block_setCell_other hz.err (by show b0 + 1 ≠ b0 + 1 + 1; omega) _
  have e0 : (v.setCell ⟨b0 + 1, 0, none⟩ (.int .i64 ((n + 1 : Nat) : Int))).heap[b0]? = _ := block_setCell_other hz.x (by show b0 + 1 ≠ b0; omega) _
  have k1 : KeptR b0 (b0 + 3) W v := (hk.low (by omega)).trans (KeptR.of_below hb (by omega))
  have k2 := k1.trans (KeptR.set (i := 0) (v := .int .i64 ((n + 1 : Nat) : Int)) hz.line (.inl (by omega)) (by omega))
  have k3 := k2.trans (KeptR.set (i := 0) (v := .int .i64 4) e2 (.inl (by omega)) (by have := k2.size; omega))
  refine ⟨k3.from B, ⟨x, n + 1, ?_, block_setCell_other e1 (by show b0 + 1 + 1 ≠ b0 + 1; omega) _⟩, block_setCell_other e0 (by show b0 + 1 + 1 ≠ b0; omega) _, block_setCell e2 0 _, ?_⟩
  · rw [h.fold (p :: rest) hL]
    show (if p = [] then foldP x n rest else match stepP x n p with | some y => foldP y (n + 1) rest | none => (x, n + 1, false)) = _
    rw [if_neg hne, hs]
  · have hw := hp.below
    exact ⟨(k3.os.trans h.os).trans hw.os, (k3.tape.trans h.tape).trans hw.tape, (k3.output.trans h.output).trans hw.output, by have := hp.size; have := hw.size; have := k3.size; omega, fun k hk => ((k3.block k hk (by omega)).trans (h.low k hk)).trans (hw.block k hk)⟩
/-- three results in memory, the first of ten cells -/
theorem res10 {P : Program} {fn : Func} {p q r : Tmp} {t1 t2 t3 : TypeId} (hr : fn.results = #[.cell p t1, .cell q t2, .cell r t3]) {tmps : Array Value} {W : World} {b b1 b2 : Nat} {x0 x1 x2 x3 x4 x5 x6 x7 x8 x9 k e : Value} {T T1 T2 : TypeId} {fr fr1 fr2 : Nat × Nat}
    (hg : (isAgg t1).run P W = .ok true W) (hs : (sizeOf t1).run P W = .ok 10 W) (hg2 : (isAgg t2).run P W = .ok false W) (hg3 : (isAgg t3).run P W = .ok false W) (ht : tmps.getD p undef = .pointer (some ⟨b, 0, none⟩)) (hq : tmps.getD q undef = .pointer (some ⟨b1, 0, none⟩)) (hr2 : tmps.getD r undef = .pointer (some ⟨b2, 0, none⟩))
    (hb : W.heap[b]? = some (.cells #[x0, x1, x2, x3, x4, x5, x6, x7, x8, x9] T fr)) (hb1 : W.heap[b1]? = some (.cells #[k] T1 fr1)) (hb2 : W.heap[b2]? = some (.cells #[e] T2 fr2)) : (results fn tmps).run P W = .ok (.tuple #[.agg #[x0, x1, x2, x3, x4, x5, x6, x7, x8, x9], k, e]) W := by
  have h0 : W.cell? ⟨b, 0, none⟩ = some x0 := block_cell hb 0
  have h1 : W.cell? ⟨b, 1, none⟩ = some x1 := block_cell hb 1
  have h2 : W.cell? ⟨b, 2, none⟩ = some x2 := block_cell hb 2
  have h3 : W.cell? ⟨b, 3, none⟩ = some x3 := block_cell hb 3
  have h4 : W.cell? ⟨b, 4, none⟩ = some x4 := block_cell hb 4
  have h5 : W.cell? ⟨b, 5, none⟩ = some x5 := block_cell hb 5
  have h6 : W.cell? ⟨b, 6, none⟩ = some x6 := block_cell hb 6
  have h7 : W.cell? ⟨b, 7, none⟩ = some x7 := block_cell hb 7
  have h8 : W.cell? ⟨b, 8, none⟩ = some x8 := block_cell hb 8
  have h9 : W.cell? ⟨b, 9, none⟩ = some x9 := block_cell hb 9
  have g1 : W.cell? ⟨b1, 0, none⟩ = some k := block_cell hb1 0
  have g2 : W.cell? ⟨b2, 0, none⟩ = some e := block_cell hb2 0
  have ht' : tmps[p]?.getD undef = .pointer (some ⟨b, 0, none⟩) := by simpa using ht
  have hq' : tmps[q]?.getD undef = .pointer (some ⟨b1, 0, none⟩) := by simpa using hq
  have hr' : tmps[r]?.getD undef = .pointer (some ⟨b2, 0, none⟩) := by simpa using hr2
  simp only [results, hr]
  simp [ht', hq', hr', hg, hs, hg2, hg3, h0, h1, h2, h3, h4, h5, h6, h7, h8, h9, g1, g2, go_sem]
/-- a script's rows in memory -/
structure ScrV (B : Nat) (vP vQ : Value) (ss : List Pg) (ps : List Int) (W : World) : Prop where
  ownP : W.ownsRow B 60 1 vP ss.length (flatR fPg ss)
  ownQ : W.ownsRow B 3 1 vQ ps.length (flatR fI ps)
  rows : ∀ s ∈ ss, W.ownsRow B 51 7 (pgV s) s.n (flatR fO s.l) ∧ s.l.length = s.n
theorem ScrV.zero (B : Nat) (W : World) : ScrV B (.slice none 0 0) (.slice none 0 0) [] [] W := ⟨⟨rfl, .inl ⟨rfl, rfl⟩⟩, ⟨rfl, .inl ⟨rfl, rfl⟩⟩, fun s hs => by cases hs⟩
theorem ScrV.later {B : Nat} {vP vQ : Value} {ss : List Pg} {ps : List Int} {W W' : World} (h : ScrV B vP vQ ss ps W) (hb : Below W.heap.size W W') : ScrV B vP vQ ss ps W' :=
  ⟨own_below h.ownP hb, own_below h.ownQ hb, fun s hs => ⟨own_below (h.rows s hs).1 hb, (h.rows s hs).2⟩⟩
def scrC (c : Cf) (vP vQ : Value) : Array Value := #[.int .i64 c.slots, .int .u64 c.gens, .int .i64 c.clients, .int .i64 c.readers, .int .i64 c.queue, .int .i64 c.batch, .int .i64 c.feed, .string c.t, vP, vQ]
/-- what Parse returns -/
def ParsePost (S : ByteArray) (w : World) (e : Ending) (w' : World) : Prop :=
  Below w.heap.size w w' ∧ ∃ B vP vQ ss, ScrV B vP vQ ss (prsR S.data.toList).1.ps w' ∧ ss.map (·.l) = (prsR S.data.toList).1.ss ∧
    e = .returned (.tuple #[.agg (scrC (prsR S.data.toList).1.c vP vQ), .int .i64 ((prsR S.data.toList).2.1 : Nat), .int .i64 (prsR S.data.toList).2.2])
theorem parse_zero {S : ByteArray} {w w' : World} {k : Nat} {er : Int} (hb : Below w.heap.size w w') (h : prsR S.data.toList = (zeroRd, k, er)) : ParsePost S w (.returned (.tuple #[.agg #[.int .i64 0, .int .u64 0, .int .i64 0, .int .i64 0, .int .i64 0, .int .i64 0, .int .i64 0, .string ⟨#[]⟩, .slice none 0 0, .slice none 0 0], .int .i64 k, .int .i64 er])) w' := by
  refine ⟨hb, 0, .slice none 0 0, .slice none 0 0, [], ?_, ?_, ?_⟩
  · rw [h]; exact ScrV.zero _ _
  · rw [h]; rfl
  · rw [h]; rfl
theorem ret_plain {F : Fence} {n : Nat} {P : Program} {fn : Func} {R : Ending → World → Prop} {tmps : Array Value} {W : World} {v : Value} (h : (results fn tmps).run P W = .ok v W) (hR : R (.returned v) W) : bodyPostM F n P fn R Exit.ret { tmps := tmps, defers := [] } W := ⟨v, h, hR⟩
theorem ret_mark {F : Fence} {n : Nat} {P : Program} {fn : Func} {R : Ending → World → Prop} {tmps : Array Value} {W : World} {D : Nat} {v : Value} (hK : W.heap[D]? = some (.deferred (some []))) (h : (results fn tmps).run P (W.putObj D (.deferred none)) = .ok v (W.putObj D (.deferred none))) (hR : R (.returned v) (W.putObj D (.deferred none))) :
    bodyPostM F n P fn R Exit.ret { tmps := tmps, defers := [{ target := .collected D, args := #[] }] } W := ⟨by simp, .inl ⟨_, _, rfl, run_takeDeferred hK, v, h, hR⟩⟩
set_option maxRecDepth 100000 in
set_option maxHeartbeats 1000000 in
theorem parse_long (S : ByteArray) (w : World) (h1 : 65536 < S.size) : Calls Tryd.prog 18 #[.string S] w (ParsePost S w) := by
  have hd : decide ((65536 : Int) < (S.size : Int)) = true := decide_eq_true (by omega)
  have HP := Lib.hid (fun (w' : World) (hb : Below w.heap.size w w') => parse_zero (S := S) (k := 0) (er := 5) hb (by unfold prsR; rw [if_pos (by rw [Array.length_toList]; exact h1)]))
  generalize ParsePost S w = PP at *
  refine (callsIn_wide (n := 3)).1 ?_
  refine callsIn_of_wp_marks Tryd.func18 rfl trivial ?_ rfl
  simp only [Tryd.ntmps18, List.size_toArray, List.length_cons, List.length_nil, Nat.reduceAdd, Nat.reduceSub, Array.replicate_succ, Array.replicate_zero, List.push_toArray, List.append_toArray, List.nil_append, List.cons_append]
  gi_wp2
  refine wpIn_wide.2 (wp_scope_straight ((wpIn_wide (n := 3)).1 ?_))
  gi_wp2
  refine ret_plain (res10 Tryd.results18 (Tryd.isAgg42 _) (Tryd.sizeOf42 _) (Tryd.isAgg3 _) (Tryd.isAgg22 _) rfl rfl rfl (at_old (at_old (at_new rfl))) (at_old (at_new (by simp))) (at_new (by simp))) (HP.out _ ?_)
  exact (((Below.refl _ _).alloc (Nat.le_refl _) _).alloc (by simp) _).alloc (by simp; omega) _
set_option maxRecDepth 100000 in
set_option maxHeartbeats 1000000 in
theorem parse_empty (S : ByteArray) (w : World) (h0 : S = ⟨#[]⟩) : Calls Tryd.prog 18 #[.string S] w (ParsePost S w) := by
  subst h0
  have HP := Lib.hid (fun (w' : World) (hb : Below w.heap.size w w') => parse_zero (S := ⟨#[]⟩) (k := 1) (er := 4) hb (by rfl))
  generalize ParsePost ⟨#[]⟩ w = PP at *
  refine (callsIn_wide (n := 3)).1 ?_
  refine callsIn_of_wp_marks Tryd.func18 rfl trivial ?_ rfl
  simp only [Tryd.ntmps18, List.size_toArray, List.length_cons, List.length_nil, Nat.reduceAdd, Nat.reduceSub, Array.replicate_succ, Array.replicate_zero, List.push_toArray, List.append_toArray, List.nil_append, List.cons_append]
  gi_wp2
  refine wpIn_wide.2 (wp_scope_straight ((wpIn_wide (n := 3)).1 ?_))
  gi_wp2
  refine ret_plain (res10 Tryd.results18 (Tryd.isAgg42 _) (Tryd.sizeOf42 _) (Tryd.isAgg3 _) (Tryd.isAgg22 _) rfl rfl rfl (at_old (at_old (at_new rfl))) (at_old (at_new (by simp))) (at_new (by simp))) (HP.out _ ?_)
  exact (((Below.refl _ _).alloc (Nat.le_refl _) _).alloc (by simp) _).alloc (by simp; omega) _
theorem setCells_other {b k : Nat} (hk : k ≠ b) : ∀ (vs : List Value) (o : Nat) (w : World), (w.setCells b o vs).heap[k]? = w.heap[k]?
  | [], _, _ => rfl
  | v :: r, o, w => (setCells_other hk r (o + 1) (w.setCell ⟨b, o, none⟩ v)).trans (Below.heap_setCell w ⟨b, o, none⟩ v k hk)
theorem setCells_below {B b : Nat} {w0 : World} (hB : B ≤ b) : ∀ (vs : List Value) (o : Nat) (w : World), Below B w0 w → Below B w0 (w.setCells b o vs)
  | [], _, _, h => h
  | v :: r, o, w, h => setCells_below hB r (o + 1) _ (h.setCell (p := ⟨b, o, none⟩) hB v)
theorem set10 {w : World} {b : Nat} {c0 c1 c2 c3 c4 c5 c6 c7 c8 c9 : Value} {T : TypeId} {fr : Nat × Nat} (h : w.heap[b]? = some (.cells #[c0, c1, c2, c3, c4, c5, c6, c7, c8, c9] T fr)) (v0 v1 v2 v3 v4 v5 v6 v7 v8 v9 : Value) :
    (w.setCells b 0 [v0, v1, v2, v3, v4, v5, v6, v7, v8, v9]).heap[b]? = some (.cells #[v0, v1, v2, v3, v4, v5, v6, v7, v8, v9] T fr) := by
  show ((((((((((w.setCell ⟨b, 0, none⟩ v0).setCell ⟨b, 1, none⟩ v1).setCell ⟨b, 2, none⟩ v2).setCell ⟨b, 3, none⟩ v3).setCell ⟨b, 4, none⟩ v4).setCell ⟨b, 5, none⟩ v5).setCell ⟨b, 6, none⟩ v6).setCell ⟨b, 7, none⟩ v7).setCell ⟨b, 8, none⟩ v8).setCell ⟨b, 9, none⟩ v9).heap[b]? = _
  have h0 : (w.setCell ⟨b, 0, none⟩ v0).heap[b]? = some (.cells #[v0, c1, c2, c3, c4, c5, c6, c7, c8, c9] T fr) := block_setCell h 0 v0
  generalize w.setCell ⟨b, 0, none⟩ v0 = w1 at *
  have h1 : (w1.setCell ⟨b, 1, none⟩ v1).heap[b]? = some (.cells #[v0, v1, c2, c3, c4, c5, c6, c7, c8, c9] T fr) := block_setCell h0 1 v1
  generalize w1.setCell ⟨b, 1, none⟩ v1 = w2 at *
  have h2 : (w2.setCell ⟨b, 2, none⟩ v2).heap[b]? = some (.cells #[v0, v1, v2, c3, c4, c5, c6, c7, c8, c9] T fr) := block_setCell h1 2 v2
  generalize w2.setCell ⟨b, 2, none⟩ v2 = w3 at *
  have h3 : (w3.setCell ⟨b, 3, none⟩ v3).heap[b]? = some (.cells #[v0, v1, v2, v3, c4, c5, c6, c7, c8, c9] T fr) := block_setCell h2 3 v3
  generalize w3.setCell ⟨b, 3, none⟩ v3 = w4 at *
  have h4 : (w4.setCell ⟨b, 4, none⟩ v4).heap[b]? = some (.cells #[v0, v1, v2, v3, v4, c5, c6, c7, c8, c9] T fr) := block_setCell h3 4 v4
  generalize w4.setCell ⟨b, 4, none⟩ v4 = w5 at *
  have h5 : (w5.setCell ⟨b, 5, none⟩ v5).heap[b]? = some (.cells #[v0, v1, v2, v3, v4, v5, c6, c7, c8, c9] T fr) := block_setCell h4 5 v5
  generalize w5.setCell ⟨b, 5, none⟩ v5 = w6 at *
  have h6 : (w6.setCell ⟨b, 6, none⟩ v6).heap[b]? = some (.cells #[v0, v1, v2, v3, v4, v5, v6, c7, c8, c9] T fr) := block_setCell h5 6 v6
  generalize w6.setCell ⟨b, 6, none⟩ v6 = w7 at *
  have h7 : (w7.setCell ⟨b, 7, none⟩ v7).heap[b]? = some (.cells #[v0, v1, v2, v3, v4, v5, v6, v7, c8, c9] T fr) := block_setCell h6 7 v7
  generalize w7.setCell ⟨b, 7, none⟩ v7 = w8 at *
  have h8 : (w8.setCell ⟨b, 8, none⟩ v8).heap[b]? = some (.cells #[v0, v1, v2, v3, v4, v5, v6, v7, v8, c9] T fr) := block_setCell h7 8 v8
  generalize w8.setCell ⟨b, 8, none⟩ v8 = w9 at *
  exact block_setCell h8 9 v9
/-- a store of ten cells -/
theorem store10 {w : World} {b : Nat} {c0 c1 c2 c3 c4 c5 c6 c7 c8 c9 : Value} {T : TypeId} (h : w.heap[b]? = some (.cells #[c0, c1, c2, c3, c4, c5, c6, c7, c8, c9] T (0, 0))) : w.there b 0 10 := by
  intro j hj
  rw [Nat.zero_add, block_cell h, block_free h]
  refine ⟨?_, rfl⟩
  rcases (by omega : j = 0 ∨ j = 1 ∨ j = 2 ∨ j = 3 ∨ j = 4 ∨ j = 5 ∨ j = 6 ∨ j = 7 ∨ j = 8 ∨ j = 9) with rfl | rfl | rfl | rfl | rfl | rfl | rfl | rfl | rfl | rfl <;> rfl
theorem wpListIn_store10 {F : Fence} {n : Nat} {P : Program} {ops : Array Oper} {rest : List Oper} {op : Oper} {a : Act} {w : World} {Q : Exit → Act → World → Prop} (hgd : op.guard = none) (ty : TypeId) (x y : Operand) (ho : op.op = .store ty x y) (b : Nat) (l : List Value) (hx : a.eval x = .pointer (some ⟨b, 0, none⟩)) (hy : a.eval y = .agg l.toArray)
    (ht : w.there b 0 l.toArray.size) (hi : (P.info? ty).map (·.size) = some l.toArray.size) (h1 : l.toArray.all (·.oneCell') = true) (h : wpListIn F n P ops Q rest (a.put op.dst undef) (w.setCells b 0 l)) : wpListIn F n P ops Q (op :: rest) a w := by
  refine wpListIn_plain hgd fun K hK => ⟨fun f hf => (by unfold Oper.about at hf; rw [ho] at hf; cases hf), ?_⟩
  rw [Oper.semAt_eq _ _ _ (fun c e => by rw [ho] at e; cases e)]
  have hr := run_storeAt_mid (P := P) w b 0 ty l.toArray ht hi h1
  rw [List.toList_toArray] at hr
  unfold execOp
  simp only [ho, hx, hy, Sem.run_bind, hr]
  exact hK _ _ h
theorem setCells_grown {b : Nat} : ∀ (vs : List Value) (o : Nat) (w : World), w.grownBy (w.setCells b o vs) (some b)
  | [], _, _ => ⟨rfl, rfl, rfl, Nat.le_refl _, fun _ _ _ => rfl⟩
  | v :: r, o, w => by
    have h1 := grown_set2 w b o v
    have h2 := setCells_grown (b := b) r (o + 1) (w.setCell ⟨b, o, none⟩ v)
    exact ⟨h2.os.trans h1.os, h2.tape.trans h1.tape, h2.output.trans h1.output, Nat.le_trans h1.size h2.size, fun k hk hn => (h2.block k (Nat.lt_of_lt_of_le hk h1.size) hn).trans (h1.block k hk hn)⟩
/-- the world behind the last stores -/
def fin3 (b0 : Nat) (vs : List Value) (er : Int) (w : World) : World := ((w.setCells b0 0 vs).setCell ⟨b0 + 1, 0, none⟩ (.int .i64 0)).setCell ⟨b0 + 1 + 1, 0, none⟩ (.int .i64 er)
structure Fin3 (b0 D : Nat) (v0 v1 v2 v3 v4 v5 v6 v7 v8 v9 : Value) (er : Int) (w0 U : World) : Prop where
  d : U.heap[D]? = some (.deferred (some []))
  x : (U.putObj D (.deferred none)).heap[b0]? = some (.cells #[v0, v1, v2, v3, v4, v5, v6, v7, v8, v9] 42 (0, 0))
  line : (U.putObj D (.deferred none)).heap[b0 + 1]? = some (.cells #[.int .i64 0] 3 (0, 0))
  err : (U.putObj D (.deferred none)).heap[b0 + 1 + 1]? = some (.cells #[.int .i64 er] 22 (0, 0))
  below : Below b0 w0 (U.putObj D (.deferred none))
theorem Fin3.of {b0 D : Nat} (v0 v1 v2 v3 v4 v5 v6 v7 v8 v9 : Value) (er : Int) {w0 w : World} (h : ResZ b0 w) (hb : Below b0 w0 w) (hd : w.heap[D]? = some (.deferred (some []))) (hD : b0 + 8 ≤ D) : Fin3 b0 D v0 v1 v2 v3 v4 v5 v6 v7 v8 v9 er w0 (fin3 b0 [v0, v1, v2, v3, v4, v5, v6, v7, v8, v9] er w) := by
  unfold fin3
  have x1 := set10 h.x v0 v1 v2 v3 v4 v5 v6 v7 v8 v9
  have l1 := (setCells_other (show b0 + 1 ≠ b0 by omega) [v0, v1, v2, v3, v4, v5, v6, v7, v8, v9] 0 w).trans h.line
  have e1 := (setCells_other (show b0 + 1 + 1 ≠ b0 by omega) [v0, v1, v2, v3, v4, v5, v6, v7, v8, v9] 0 w).trans h.err
  have d1 := (setCells_other (show D ≠ b0 by omega) [v0, v1, v2, v3, v4, v5, v6, v7, v8, v9] 0 w).trans hd
  have b1 := setCells_below (Nat.le_refl b0) [v0, v1, v2, v3, v4, v5, v6, v7, v8, v9] 0 w hb
  generalize w.setCells b0 0 [v0, v1, v2, v3, v4, v5, v6, v7, v8, v9] = w1 at *
  have x2 := block_setCell_other x1 (show (⟨b0 + 1, 0, none⟩ : Addr).block ≠ b0 by show b0 + 1 ≠ b0; omega) (.int .i64 0)
  have l2 := block_setCell l1 0 (.int .i64 0)
  have e2 := block_setCell_other e1 (show (⟨b0 + 1, 0, none⟩ : Addr).block ≠ b0 + 1 + 1 by show b0 + 1 ≠ b0 + 1 + 1; omega) (.int .i64 0)
  have d2 := (Below.heap_setCell w1 ⟨b0 + 1, 0, none⟩ (.int .i64 0) D (by show D ≠ b0 + 1; omega)).trans d1
  have b2 := b1.setCell (p := ⟨b0 + 1, 0, none⟩) (by show b0 ≤ b0 + 1; omega) (.int .i64 0)
  generalize w1.setCell ⟨b0 + 1, 0, none⟩ (.int .i64 0) = w2 at *
  have x3 := block_setCell_other x2 (show (⟨b0 + 1 + 1, 0, none⟩ : Addr).block ≠ b0 by show b0 + 1 + 1 ≠ b0; omega) (.int .i64 er)
  have l3 := block_setCell_other l2 (show (⟨b0 + 1 + 1, 0, none⟩ : Addr).block ≠ b0 + 1 by show b0 + 1 + 1 ≠ b0 + 1; omega) (.int .i64 er)
  have e3 := block_setCell e2 0 (.int .i64 er)
  have d3 := (Below.heap_setCell w2 ⟨b0 + 1 + 1, 0, none⟩ (.int .i64 er) D (by show D ≠ b0 + 1 + 1; omega)).trans d2
  have b3 := b2.setCell (p := ⟨b0 + 1 + 1, 0, none⟩) (by show b0 ≤ b0 + 1 + 1; omega) (.int .i64 er)
  generalize w2.setCell ⟨b0 + 1 + 1, 0, none⟩ (.int .i64 er) = w3 at *
  have hs := block_lt x3
  exact ⟨d3, (World.putObj_heap_other (by omega)).trans x3, (World.putObj_heap_other (by omega)).trans l3, (World.putObj_heap_other (by omega)).trans e3, b3.grown (grownBy_putObj' w3 D _) (by omega) fun q hq => by injection hq with hq; omega⟩
/-- the reader's rows behind the last stores -/
theorem fin3_rows {b0 D : Nat} {vs : List Value} {er : Int} {w : World} {c : Cf} {vP vQ : Value} {ln last : Int} {ss : List Pg} {ps : List Int} (h : RdM (b0 + 8) (b0 + 3) c vP vQ ln last ss ps w) (hd : (fin3 b0 vs er w).heap[D]? = some (.deferred (some []))) : ScrV (b0 + 8) vP vQ ss ps ((fin3 b0 vs er w).putObj D (.deferred none)) := by
  have h1 := h.turn (setCells_grown (b := b0) vs 0 w) (.inl ⟨by omega, by omega⟩)
  have h2 := h1.turn (grown_set2 _ (b0 + 1) 0 (.int .i64 0)) (.inl ⟨by omega, by omega⟩)
  have h3 := h2.turn (grown_set2 _ (b0 + 1 + 1) 0 (.int .i64 er)) (.inl ⟨by omega, by omega⟩)
  have h4 := h3.turn (grownBy_putObj' _ D (.deferred none)) (.inr fun o ho => by
    have h5 : (fin3 b0 vs er w).heap[D]? = some o := ho
    rw [hd] at h5
    injection h5 with h5
    rw [← h5]; rfl)
  exact ⟨h4.ownP, h4.ownQ, h4.rows⟩
theorem segs_count : ∀ l : List UInt8, (segs l).length ≤ l.length + 1
  | [] => Nat.le_refl _
  | c :: l => by
    have ih := segs_count l
    rw [segs_cons, List.length_cons]
    split
    · rw [List.length_cons]; omega
    · rcases h : segs l with _ | ⟨x, r⟩
      · simp
      · rw [h] at ih
        simpa using Nat.le_succ_of_le ih
theorem flat_part : ∀ (L : List (List UInt8)) (x : List UInt8), x ∈ L → x.length ≤ L.flatten.length
  | [], x, h => by cases h
  | a :: L, x, h => by
    rw [List.flatten_cons, List.length_append]
    rcases List.mem_cons.1 h with rfl | h
    · omega
    · have := flat_part L x h; omega
theorem splitW_few (q : List UInt8) : (splitW q).length ≤ q.length + 1 := by
  rw [splitW_len]
  have : q.count 32 ≤ q.length := List.count_le_length
  omega
set_option maxRecDepth 100000 in
set_option maxHeartbeats 16000000 in
theorem parse_go (S : ByteArray) (w : World) (h1 : S.size ≤ 65536) (h2 : (S.toList == []) = false) (h3 : S.toList.isEmpty = false) : Calls Tryd.prog 18 #[.string S] w (ParsePost S w) := by
  have hne : S.data.toList ≠ [] := by
    intro e
    rw [ByteArray.toList_eq, e] at h2
    cases h2
  have HNE := Lib.hid hne
  have HPR := Lib.hid (show prsR S.data.toList = match foldP zeroRd 0 (segs S.data.toList) with
    | (x, n, true) => if scE x.c (x.ss.map pgOf) x.ps = 0 then (x, 0, 0) else (zeroRd, 0, scE x.c (x.ss.map pgOf) x.ps)
    | (_, n, false) => (zeroRd, n, 4) by
      unfold prsR
      rw [if_neg (by rw [Array.length_toList]; show ¬ 65536 < S.size; omega), if_neg hne]
      rfl)
  have HP := Lib.hid (fun (w' : World) (k : Nat) (er : Int) (hb : Below w.heap.size w w') (h : prsR S.data.toList = (zeroRd, k, er)) => parse_zero (S := S) hb h)
  have HPF := Lib.hid (show ∀ e w', ParsePost S w e w' → ParsePost S w e w' from fun _ _ h => h)
  clear hne
  have hd : decide ((65536 : Int) < (S.size : Int)) = false := decide_eq_false (by omega)
  refine (callsIn_wide (n := 3)).1 ?_
  refine callsIn_of_wp_marks Tryd.func18 rfl trivial ?_ rfl
  simp only [Tryd.ntmps18, List.size_toArray, List.length_cons, List.length_nil, Nat.reduceAdd, Nat.reduceSub, Array.replicate_succ, Array.replicate_zero, List.push_toArray, List.append_toArray, List.nil_append, List.cons_append]
  gi_wp2
  refine wpIn_wide.2 (wp_scope_straight ((wpIn_wide (n := 3)).1 ?_))
  gi_wp2
  refine wpIn_label ?_
  rename_i K hK
  refine hK _ _ ?_
  clear hK K
  gi_wp2_with (refine ⟨trivial, ?_⟩; gi_at_call 42; refine (callsIn_wide.2 (splitAfterSeq_any _ _)).mono ?_; rintro e w' ⟨rfl, rfl⟩)
  change Code.wpIn _ _ _ _ _ _ (parW S w)
  have HPW := Lib.hid (parW_is S w)
  generalize parW S w = W0 at *
  have HLI := Lib.hid (show S = ⟨S.data.toList.toArray⟩ by rw [Array.toArray_toList])
  have HSEQ := Lib.hid (segs_seq S.data.toList (by rw [Array.length_toList]; show S.size ≤ _; omega) (w.heap.size + 5) W0 HPW.out.boxes (by rw [HPW.out.size]; omega))
  have HZ := Lib.hid HPW.out.size
  refine wpIn_rangeSeq (gf := 102) (lb := #[.pointer (some ⟨w.heap.size + 5 + 1, 0, none⟩), .pointer (some ⟨w.heap.size + 5, 0, none⟩), .pointer (some ⟨w.heap.size + 5 + 2, 0, none⟩)]) rfl (enters_of Tryd.func102 (by kernel_rfl) rfl) HSEQ.out ?kt ?kb (by rw [HZ.out]; omega) (fun _ => rfl) (fun pre W => ∃ x n, LoopI S.data.toList w.heap.size W0 pre x n W) (fun pre W => StopI S.data.toList w.heap.size w W) ?bI ?bIx ?start (fun x => { tmps := #[.string S, undef, .pointer (some ⟨w.heap.size, 0, none⟩), .pointer (some ⟨w.heap.size + 1, 0, none⟩), .pointer (some ⟨w.heap.size + 1 + 1, 0, none⟩), .pointer (some ⟨w.heap.size + 1 + 1 + 1 + 1, 0, none⟩), .string ⟨x.toArray⟩, undef, undef, undef, undef, .string S, .int .i64 S.size, .bool false, undef, .string S, .bool false, undef, .agg #[.int .i64 0, .int .u64 0, .int .i64 0, .int .i64 0, .int .i64 0, .int .i64 0, .int .i64 0, .string ⟨#[]⟩, .slice none 0 0, .slice none 0 0, .int .i64 0, .int .i64 (-1)], .pointer (some ⟨w.heap.size + 1 + 1 + 1, 0, none⟩), .string S, seqV (w.heap.size + 1 + 1 + 1 + 1 + 1), .string ⟨x.toArray⟩, undef, undef, undef, undef, undef, undef, undef, undef, undef, undef, undef, undef, undef, undef, undef, undef, undef, undef, undef, undef, undef, undef, undef, undef, undef, undef, undef, undef, undef, undef, undef, undef, undef, undef, undef, undef, undef, undef, undef, undef, undef, undef, undef, undef, undef, undef, undef, undef, undef, undef, undef, undef, undef, undef, undef, undef, undef, undef, undef, undef], defers := [] }) ?assign ?body ?done ?stop
  case assign =>
    intro l x W K hK
    gi_wp2
    exact hK
  case kt => exact fun h k => ⟨k.1.trans h.1, k.2.1.trans h.2.1, k.2.2.trans h.2.2⟩
  case kb =>
    intro W l o' hl
    have := HZ.out
    exact ⟨World.putObj_heap_other (by omega), World.putObj_heap_other (by omega), World.putObj_heap_other (by omega)⟩
  case bI => exact fun pre A B r ⟨x, n, h⟩ hg hr => ⟨x, n, h.turn hg (hr.imp id fun h => ⟨by have := h.1; have := HZ.out; omega, h.2⟩)⟩
  case bIx => exact fun pre A B r h hg hr => h.turn hg (by have := HZ.out; omega)
  case start => exact ⟨zeroRd, 0, HPW.out.start⟩
  case stop =>
    rintro D pre W hD hpre hI hdef
    have hz := HZ.out
    have hI2 := hI.turn (r := D) (grownBy_putObj' W D (.deferred none)) (by omega)
    obtain ⟨x, k, hf, hl⟩ := hI2.fold
    exact ret_mark hdef (res10 Tryd.results18 (Tryd.isAgg42 _) (Tryd.sizeOf42 _) (Tryd.isAgg3 _) (Tryd.isAgg22 _) rfl rfl rfl hI2.x hl hI2.err) (HP.out _ k 4 hI2.below (by rw [HPR.out, hf]))
  case done =>
    rintro D W hD ⟨x, n, hI⟩ hdef
    have hfold : foldP zeroRd 0 (segs S.data.toList) = (x, n, true) := by rw [hI.fold [] (by rw [List.append_nil])]; rfl
    obtain ⟨hfl, hops⟩ := fold_back HNE.out hfold
    have HPX := Lib.hid (show prsR S.data.toList = if scE x.c (x.ss.map pgOf) x.ps = 0 then (x, 0, 0) else (zeroRd, 0, scE x.c (x.ss.map pgOf) x.ps) by rw [HPR.out, hfold])
    have hct : x.c.t.size ≤ 65536 := by
      have h5 := fmt_text (c := x.c) (ss := x.ss.map pgOf) (ps := x.ps)
      have h7 : S.data.toList.length = S.size := Array.length_toList ..
      rw [hfl, h7] at h5
      omega
    obtain ⟨vP, vQ, ss, hM, hss⟩ := hI.rd
    obtain ⟨po, pc, rfl, hp, -, -⟩ := IsR.owned fPg_len rfl hM.ownP
    obtain ⟨qo, qc, rfl, hq, -, -⟩ := IsR.owned (f := fI) (s := 1) (fun _ => rfl) rfl hM.ownQ
    have hrow : ∀ s ∈ ss, IsR fO W s.a s.n s.l := by
      intro s hs
      obtain ⟨ao, ac, e, h5, -, -⟩ := IsR.owned fO_len (hM.rows s hs).2 (hM.rows s hs).1
      injection e with e1 e2 e3
      rw [← e1] at h5
      exact h5
    have hse : scE x.c ss x.ps = scE x.c (x.ss.map pgOf) x.ps := by rw [scE_lists fun s hs => (hM.rows s hs).2, hss]
    have hpn : ss.length ≤ 140737488355328 := by
      have h5 := hI.lim.ss
      have h6 : ss.length = x.ss.length := by rw [← hss, List.length_map]
      have h8 := hI.cnt
      have h9 := segs_count S.data.toList
      have h7 : S.data.toList.length = S.size := Array.length_toList ..
      omega
    have HCK := Lib.hid (check_sc x.c po ss.length pc qo x.ps.length qc ss x.ps W ⟨hp, hrow⟩ hq (by omega) (fun s hs o ho => by
      have h5 := plain_text (hops s.l (by rw [← hss]; exact List.mem_map_of_mem hs) o ho).2
      omega) hpn (by have := hI.lim.ps; omega))
    rw [hse] at HCK
    have HM := Lib.hid hM
    have HSS := Lib.hid hss
    have HI := Lib.hid hI
    have HZ3 := Lib.hid (ResZ.of hI HPW.out (KeptR.refl _ _ W))
    have HDF := Lib.hid hdef
    have c4 := HZ3.out.v
    have q0 : W.cell? ⟨w.heap.size + 1 + 1 + 1, 0, none⟩ = some (.int .i64 x.c.slots) := block_cell hM.cells 0
    have q1 : W.cell? ⟨w.heap.size + 1 + 1 + 1, 1, none⟩ = some (.int .u64 x.c.gens) := block_cell hM.cells 1
    have q2 : W.cell? ⟨w.heap.size + 1 + 1 + 1, 2, none⟩ = some (.int .i64 x.c.clients) := block_cell hM.cells 2
    have q3 : W.cell? ⟨w.heap.size + 1 + 1 + 1, 3, none⟩ = some (.int .i64 x.c.readers) := block_cell hM.cells 3
    have q4 : W.cell? ⟨w.heap.size + 1 + 1 + 1, 4, none⟩ = some (.int .i64 x.c.queue) := block_cell hM.cells 4
    have q5 : W.cell? ⟨w.heap.size + 1 + 1 + 1, 5, none⟩ = some (.int .i64 x.c.batch) := block_cell hM.cells 5
    have q6 : W.cell? ⟨w.heap.size + 1 + 1 + 1, 6, none⟩ = some (.int .i64 x.c.feed) := block_cell hM.cells 6
    have q7 : W.cell? ⟨w.heap.size + 1 + 1 + 1, 7, none⟩ = some (.string x.c.t) := block_cell hM.cells 7
    have q8 : W.cell? ⟨w.heap.size + 1 + 1 + 1, 8, none⟩ = some (.slice po ss.length pc) := block_cell hM.cells 8
    have q9 : W.cell? ⟨w.heap.size + 1 + 1 + 1, 9, none⟩ = some (.slice qo x.ps.length qc) := block_cell hM.cells 9
    clear hfold hfl hops hct hM hp hq hrow hse hpn hss hI hdef
    obtain ⟨er, her⟩ : ∃ er, er = scE x.c (x.ss.map pgOf) x.ps := ⟨_, rfl⟩
    rw [← her] at HCK HPX
    have HBW := Lib.hid (show Below w.heap.size w W from HPW.out.below.trans ⟨HI.out.os, HI.out.tape, HI.out.output, by have := HI.out.size; have := HZ.out; omega, HI.out.low⟩)
    clear her
    gi_wp2
    refine ⟨trivial, ?_⟩
    refine (callsIn_wide.2 HCK.out).mono ?_
    rintro e5 w5 ⟨rfl, hb5⟩
    have HZ5 := Lib.hid (HZ3.out.below hb5)
    have HM5 := Lib.hid (HM.out.later hb5)
    have HB5 := Lib.hid (HBW.out.trans (hb5.mono (by have := HI.out.size; omega)))
    have HD5 := Lib.hid (block_below hb5 HDF.out (block_lt HDF.out))
    have c5 := HZ5.out.v
    have hDD : w.heap.size + 8 ≤ D := by have := HZ.out; omega
    clear c4 q0 q1 q2 q3 q4 q5 q6 q7 q8 q9 hb5 HCK
    by_cases h0 : er = 0
    · subst h0
      have q0 : w5.cell? ⟨w.heap.size + 1 + 1 + 1, 0, none⟩ = some (.int .i64 x.c.slots) := block_cell HM5.out.cells 0
      have q1 : w5.cell? ⟨w.heap.size + 1 + 1 + 1, 1, none⟩ = some (.int .u64 x.c.gens) := block_cell HM5.out.cells 1
      have q2 : w5.cell? ⟨w.heap.size + 1 + 1 + 1, 2, none⟩ = some (.int .i64 x.c.clients) := block_cell HM5.out.cells 2
      have q3 : w5.cell? ⟨w.heap.size + 1 + 1 + 1, 3, none⟩ = some (.int .i64 x.c.readers) := block_cell HM5.out.cells 3
      have q4 : w5.cell? ⟨w.heap.size + 1 + 1 + 1, 4, none⟩ = some (.int .i64 x.c.queue) := block_cell HM5.out.cells 4
      have q5 : w5.cell? ⟨w.heap.size + 1 + 1 + 1, 5, none⟩ = some (.int .i64 x.c.batch) := block_cell HM5.out.cells 5
      have q6 : w5.cell? ⟨w.heap.size + 1 + 1 + 1, 6, none⟩ = some (.int .i64 x.c.feed) := block_cell HM5.out.cells 6
      have q7 : w5.cell? ⟨w.heap.size + 1 + 1 + 1, 7, none⟩ = some (.string x.c.t) := block_cell HM5.out.cells 7
      have q8 : w5.cell? ⟨w.heap.size + 1 + 1 + 1, 8, none⟩ = some (.slice po ss.length pc) := block_cell HM5.out.cells 8
      have q9 : w5.cell? ⟨w.heap.size + 1 + 1 + 1, 9, none⟩ = some (.slice qo x.ps.length qc) := block_cell HM5.out.cells 9
      have g1 : (w5.setCells w.heap.size 0 [.int .i64 x.c.slots, .int .u64 x.c.gens, .int .i64 x.c.clients, .int .i64 x.c.readers, .int .i64 x.c.queue, .int .i64 x.c.batch, .int .i64 x.c.feed, .string x.c.t, .slice po ss.length pc, .slice qo x.ps.length qc]).cell? ⟨w.heap.size + 1, 0, none⟩ = some (.int .i64 0) := block_cell ((setCells_other (show w.heap.size + 1 ≠ w.heap.size by omega) _ 0 _).trans HZ5.out.line) 0
      have g2 : (w5.setCells w.heap.size 0 [.int .i64 x.c.slots, .int .u64 x.c.gens, .int .i64 x.c.clients, .int .i64 x.c.readers, .int .i64 x.c.queue, .int .i64 x.c.batch, .int .i64 x.c.feed, .string x.c.t, .slice po ss.length pc, .slice qo x.ps.length qc]).frozen? ⟨w.heap.size + 1, 0, none⟩ = false := block_free ((setCells_other (show w.heap.size + 1 ≠ w.heap.size by omega) _ 0 _).trans HZ5.out.line) 0
      have g3 : (w5.setCells w.heap.size 0 [.int .i64 x.c.slots, .int .u64 x.c.gens, .int .i64 x.c.clients, .int .i64 x.c.readers, .int .i64 x.c.queue, .int .i64 x.c.batch, .int .i64 x.c.feed, .string x.c.t, .slice po ss.length pc, .slice qo x.ps.length qc]).cell? ⟨w.heap.size + 1 + 1, 0, none⟩ = some (.int .i64 0) := block_cell ((setCells_other (show w.heap.size + 1 + 1 ≠ w.heap.size by omega) _ 0 _).trans HZ5.out.err) 0
      have g4 : (w5.setCells w.heap.size 0 [.int .i64 x.c.slots, .int .u64 x.c.gens, .int .i64 x.c.clients, .int .i64 x.c.readers, .int .i64 x.c.queue, .int .i64 x.c.batch, .int .i64 x.c.feed, .string x.c.t, .slice po ss.length pc, .slice qo x.ps.length qc]).frozen? ⟨w.heap.size + 1 + 1, 0, none⟩ = false := block_free ((setCells_other (show w.heap.size + 1 + 1 ≠ w.heap.size by omega) _ 0 _).trans HZ5.out.err) 0
      have HFN := Lib.hid (Fin3.of (.int .i64 x.c.slots) (.int .u64 x.c.gens) (.int .i64 x.c.clients) (.int .i64 x.c.readers) (.int .i64 x.c.queue) (.int .i64 x.c.batch) (.int .i64 x.c.feed) (.string x.c.t) (.slice po ss.length pc) (.slice qo x.ps.length qc) 0 HZ5.out HB5.out HD5.out hDD)
      have HSR := Lib.hid (fin3_rows HM5.out HFN.out.d)
      have HPZ := Lib.hid (show prsR S.data.toList = (x, 0, 0) by rw [HPX.out, if_pos rfl])
      gi_wp2_with (refine wpListIn_store10 rfl 42 _ _ rfl w.heap.size [.int .i64 x.c.slots, .int .u64 x.c.gens, .int .i64 x.c.clients, .int .i64 x.c.readers, .int .i64 x.c.queue, .int .i64 x.c.batch, .int .i64 x.c.feed, .string x.c.t, .slice po ss.length pc, .slice qo x.ps.length qc] rfl rfl (store10 HZ5.out.x) (by kernel_rfl) (by simp [Value.oneCell']) ?_; generalize hU : w5.setCells w.heap.size 0 [.int .i64 x.c.slots, .int .u64 x.c.gens, .int .i64 x.c.clients, .int .i64 x.c.readers, .int .i64 x.c.queue, .int .i64 x.c.batch, .int .i64 x.c.feed, .string x.c.t, .slice po ss.length pc, .slice qo x.ps.length qc] = U5 at *; have HU := Lib.hid hU; clear hU)
      have hU := HU.out
      subst hU
      exact ret_mark HFN.out.d (res10 Tryd.results18 (Tryd.isAgg42 _) (Tryd.sizeOf42 _) (Tryd.isAgg3 _) (Tryd.isAgg22 _) rfl rfl rfl HFN.out.x HFN.out.line HFN.out.err) ⟨HFN.out.below, _, _, _, ss, by rw [HPZ.out]; exact HSR.out, by rw [HPZ.out]; exact HSS.out, by rw [HPZ.out]; rfl⟩
    · have h01 : (er == 0) = false := by rw [beq_eq_false_iff_ne]; exact h0
      have h02 : (er != 0) = true := by rw [bne_iff_ne]; exact h0
      have g1 : (w5.setCells w.heap.size 0 [.int .i64 0, .int .u64 0, .int .i64 0, .int .i64 0, .int .i64 0, .int .i64 0, .int .i64 0, .string ⟨#[]⟩, .slice none 0 0, .slice none 0 0]).cell? ⟨w.heap.size + 1, 0, none⟩ = some (.int .i64 0) := block_cell ((setCells_other (show w.heap.size + 1 ≠ w.heap.size by omega) _ 0 _).trans HZ5.out.line) 0
      have g2 : (w5.setCells w.heap.size 0 [.int .i64 0, .int .u64 0, .int .i64 0, .int .i64 0, .int .i64 0, .int .i64 0, .int .i64 0, .string ⟨#[]⟩, .slice none 0 0, .slice none 0 0]).frozen? ⟨w.heap.size + 1, 0, none⟩ = false := block_free ((setCells_other (show w.heap.size + 1 ≠ w.heap.size by omega) _ 0 _).trans HZ5.out.line) 0
      have g3 : (w5.setCells w.heap.size 0 [.int .i64 0, .int .u64 0, .int .i64 0, .int .i64 0, .int .i64 0, .int .i64 0, .int .i64 0, .string ⟨#[]⟩, .slice none 0 0, .slice none 0 0]).cell? ⟨w.heap.size + 1 + 1, 0, none⟩ = some (.int .i64 0) := block_cell ((setCells_other (show w.heap.size + 1 + 1 ≠ w.heap.size by omega) _ 0 _).trans HZ5.out.err) 0
      have g4 : (w5.setCells w.heap.size 0 [.int .i64 0, .int .u64 0, .int .i64 0, .int .i64 0, .int .i64 0, .int .i64 0, .int .i64 0, .string ⟨#[]⟩, .slice none 0 0, .slice none 0 0]).frozen? ⟨w.heap.size + 1 + 1, 0, none⟩ = false := block_free ((setCells_other (show w.heap.size + 1 + 1 ≠ w.heap.size by omega) _ 0 _).trans HZ5.out.err) 0
      have HFN := Lib.hid (Fin3.of (.int .i64 0) (.int .u64 0) (.int .i64 0) (.int .i64 0) (.int .i64 0) (.int .i64 0) (.int .i64 0) (.string ⟨#[]⟩) (.slice none 0 0) (.slice none 0 0) er HZ5.out HB5.out HD5.out hDD)
      have HPZ := Lib.hid (show prsR S.data.toList = (zeroRd, 0, er) by rw [HPX.out, if_neg h0])
      have H0 := Lib.hid h0
      clear h0
      gi_wp2_with (refine wpListIn_store10 rfl 42 _ _ rfl w.heap.size [.int .i64 0, .int .u64 0, .int .i64 0, .int .i64 0, .int .i64 0, .int .i64 0, .int .i64 0, .string ⟨#[]⟩, .slice none 0 0, .slice none 0 0] rfl rfl (store10 HZ5.out.x) (by kernel_rfl) (by simp [Value.oneCell']) ?_; generalize hU : w5.setCells w.heap.size 0 [.int .i64 0, .int .u64 0, .int .i64 0, .int .i64 0, .int .i64 0, .int .i64 0, .int .i64 0, .string ⟨#[]⟩, .slice none 0 0, .slice none 0 0] = U5 at *; have HU := Lib.hid hU; clear hU)
      have hU := HU.out
      subst hU
      exact ret_mark HFN.out.d (res10 Tryd.results18 (Tryd.isAgg42 _) (Tryd.sizeOf42 _) (Tryd.isAgg3 _) (Tryd.isAgg22 _) rfl rfl rfl HFN.out.x HFN.out.line HFN.out.err) (HP.out _ 0 er HFN.out.below HPZ.out)
  case body =>
    rintro l pre x rest W hL ⟨y, n, hI⟩
    have HIV := Lib.hid hI
    have c4 : W.cell? ⟨w.heap.size + 1 + 1 + 1 + 1, 0, none⟩ = some (.pointer (some ⟨w.heap.size + 1 + 1 + 1, 0, none⟩)) := (block_cell ((hI.res 4 (.inr rfl)).trans HPW.out.v) 0).trans rfl
    clear hI
    by_cases hx : x = []
    · subst hx
      gi_wp2
      exact ⟨KeepsFrom.refl _ _, ⟨rfl, rfl, rfl⟩, y, n, HIV.out.skip⟩
    · obtain ⟨q, c, rfl⟩ : ∃ q c, x = q ++ [c] := ⟨x.dropLast, x.getLast hx, (List.dropLast_concat_getLast hx).symm⟩
      obtain ⟨vP, vQ, ss, hM, hss⟩ := HIV.out.rd
      have HRM := Lib.hid hM
      have p10 : W.cell? ⟨w.heap.size + 1 + 1 + 1, 10, none⟩ = some (.int .i64 n) := (block_cell hM.cells 10).trans rfl
      have f10 : W.frozen? ⟨w.heap.size + 1 + 1 + 1, 10, none⟩ = false := block_free hM.cells 10
      have HNB := Lib.hid (show n ≤ 65537 by
        have h5 := HIV.out.cnt
        have h6 := segs_count S.data.toList
        have h9 : (pre ++ (q ++ [c]) :: rest).length = pre.length + (rest.length + 1) := by rw [List.length_append, List.length_cons]
        rw [hL, h9] at h6
        have h7 : S.data.toList.length = S.size := Array.length_toList ..
        omega)
      have hn : (n : Int) ≤ 1000000 := by have := HNB.out; omega
      have hq : q.length + 1 ≤ 65536 := by
        have h6 := flat_part (segs S.data.toList) (q ++ [c]) (by rw [hL]; simp)
        have h7 : S.data.toList.length = S.size := Array.length_toList ..
        have h8 : (q ++ [c]).length = q.length + 1 := by rw [List.length_append, List.length_singleton]
        rw [segs_flat, h8, h7] at h6
        exact Nat.le_trans h6 h1
      have HWL := Lib.hid (fun (wd : List UInt8) (h : wd ∈ splitW q) => Nat.le_trans (splitW_word q wd h) (show q.length ≤ 65536 by omega))
      have HWC := Lib.hid (Nat.le_trans (splitW_few q) hq)
      have HCU := Lib.hid (fun u => cutSuffix_any q c u (by omega))
      have hne : ((⟨(q ++ [c]).toArray⟩ : ByteArray).toList == []) = false := by rw [ByteArray.toList_eq, beq_eq_false_iff_ne]; simp
      have hne2 : (⟨(q ++ [c]).toArray⟩ : ByteArray).toList.isEmpty = false := by rw [ByteArray.toList_eq]; cases q <;> rfl
      clear hM hx
      by_cases hc : c = 10
      · subst hc
        rw [if_pos rfl] at HCU
        have HSP := Lib.hid (fun u => split_any ⟨q.toArray⟩ u (by show q.toArray.size < _; rw [List.size_toArray]; omega))
        rw [show (⟨q.toArray⟩ : ByteArray).data.toList = q from List.toList_toArray ..] at HSP
        generalize (⟨(q ++ [10]).toArray⟩ : ByteArray) = X at *
        have HOP := Lib.hid (fun (u : World) (h1 : w.heap.size + 8 ≤ u.heap.size) (h2 : RdS (w.heap.size + 8) (w.heap.size + 3) y (n + 1) u) => op_any (fun s u h => parseOp_any s u h) (w.heap.size + 8) (w.heap.size + 3) y (n + 1) q u h1 h2 (by omega) (by have := HIV.out.lim.ss; have := HNB.out; omega) (fun l hl => by have := HIV.out.lim.ops l hl; have := HNB.out; omega))
        generalize (⟨q.toArray⟩ : ByteArray) = Y at *
        gi_wp2_with (refine ⟨trivial, ?_⟩; gi_at_call 43; refine (CallsIn.inRound l (callsIn_wide.2 (HCU.out _))).mono ?_; rintro e1 w1 ⟨rfl, rfl⟩)
        refine ⟨trivial, ?_⟩
        refine (CallsIn.inRound l (callsIn_wide.2 (HSP.out _))).mono ?_
        rintro e2 w2 ⟨rfl, hwd, hb2⟩
        have hsz : (W.setCell ⟨w.heap.size + 1 + 1 + 1, 10, none⟩ (.int .i64 ((n : Int) + 1))).heap.size = W.heap.size := by simp
        rw [hsz] at hwd
        clear hsz
        have HWD := Lib.hid hwd
        have hk1 := KeptR.set (B := w.heap.size + 8) (bR := w.heap.size + 3) (i := 10) (v := .int .i64 ((n : Int) + 1)) HRM.out.cells (.inr rfl) HIV.out.size
        have hB1 := Nat.le_trans HIV.out.size hk1.size
        have HK2 := Lib.hid (hk1.trans (KeptR.of_below (bR := w.heap.size + 3) hb2 hB1))
        have HRM2 := Lib.hid ((HRM.out.put (c' := y.c) (ln' := (n : Int) + 1) (last' := y.last) (grown_set2 _ _ 10 _) (block_setCell HRM.out.cells 10 (.int .i64 ((n : Int) + 1)))).later hb2)
        have HS2 := Lib.hid (show RdS (w.heap.size + 8) (w.heap.size + 3) y (n + 1) w2 from ⟨vP, vQ, ss, HRM2.out, hss⟩)
        have HB2 := Lib.hid (show w.heap.size + 8 ≤ w2.heap.size from Nat.le_trans hB1 hb2.size)
        have c4b : w2.cell? ⟨w.heap.size + 1 + 1 + 1 + 1, 0, none⟩ = some (.pointer (some ⟨w.heap.size + 1 + 1 + 1, 0, none⟩)) := by
          have h4 := HK2.out.block (w.heap.size + 4) (by omega) (by omega)
          have h5 := (h4.trans (HIV.out.res 4 (.inr rfl))).trans HPW.out.v
          exact (block_cell h5 0).trans rfl
        have p10b : w2.cell? ⟨w.heap.size + 1 + 1 + 1, 10, none⟩ = some (.int .i64 ((n : Int) + 1)) := (block_cell HRM2.out.cells 10).trans rfl
        clear hwd hb2 c4 p10 f10 hk1 hB1
        by_cases h0 : n = 0
        · subst h0
          have HCF := Lib.hid (show Calls Tryd.prog 45 #[.pointer (some ⟨w.heap.size + 1 + 1 + 1, 0, none⟩), .slice (some ⟨W.heap.size, 0, none⟩) (splitW q).length (splitW q).length] w2 (CfgPost (w.heap.size + 8) (w.heap.size + 3) y 1 (splitW q) w2) from config_any (w.heap.size + 8) (w.heap.size + 3) y 1 W.heap.size (splitW q) w2 HB2.out HS2.out HWD.out (by have := HWC.out; omega) (fun u hu => by have := HWL.out u hu; omega))
          have hz1 : ((((0 : Nat) : Int) + 1) == 1) = true := rfl
          gi_wp2_with (refine ⟨trivial, ?_⟩; gi_at_call 45; refine (CallsIn.inRound l (callsIn_wide.2 HCF.out)).mono ?_)
          rintro e3 w3 ⟨hk3, (⟨cf, hcf, rfl, hs3⟩ | ⟨hcf, rfl, hs3⟩)⟩
          · have HST := Lib.hid (show stepP y 0 (q ++ [10]) = some { y with c := cf } by
              unfold stepP
              rw [if_pos (by simp), if_pos rfl, List.dropLast_concat, hcf]
              rfl)
            have HK3 := Lib.hid (HK2.out.trans hk3)
            have HS3 := Lib.hid hs3
            clear hk3 hs3 hcf
            gi_wp2
            exact ⟨HK3.out.from _, HK3.out.keepB, _, 1, HIV.out.step HK3.out HS3.out (by simp) HST.out (lim_cfg HIV.out.lim cf)⟩
          · have HST := Lib.hid (show stepP y 0 (q ++ [10]) = none by
              unfold stepP
              rw [if_pos (by simp), if_pos rfl, List.dropLast_concat, hcf]
              rfl)
            have HK3 := Lib.hid (HK2.out.trans hk3)
            obtain ⟨vP3, vQ3, ss3, hM3, -⟩ := hs3
            have HP3 := Lib.hid (show w3.cell? ⟨w.heap.size + 1 + 1 + 1, 10, none⟩ = some (.int .i64 1) from (block_cell hM3.cells 10).trans rfl)
            have HZ3 := Lib.hid (ResZ.of HIV.out HPW.out HK3.out)
            have HEND := Lib.hid (fun v hb => stop_end HIV.out HPW.out HK3.out (v := v) hb hL (by simp) HST.out W0.heap.size)
            clear hk3 hM3 hcf c4b p10b
            gi_wp2
            -- NO w3 1 begin
            refine wpIn_region_plan [.make, .make, .make, .make, .make, .make, .write 0, .write 1] [0, 1, 2, 3, 4, 5] 2 (AftN w.heap.size 1 w3) (by intro o ho; simp only [List.mem_cons, List.not_mem_nil, or_false] at ho; rcases ho with rfl | rfl | rfl | rfl | rfl | rfl | rfl | rfl <;> first | exact plain_build rfl | exact plain_load rfl | exact plain_nil rfl | exact plain_field rfl | exact plain_store rfl) (by kernel_rfl) (by decide) (by kernel_rfl) (by kernel_rfl) (by kernel_rfl) (by kernel_rfl) (fun p vs vs' u h hE => hE) ?_
            simp only [fill, Act.put, List.setIfInBounds_toArray, List.set_cons_zero, List.set_cons_succ, Nat.zero_add, Nat.reduceAdd, List.zip_cons_cons, List.zip_nil_right]
            apply OpsIs.eq
            · intro vs u hb hd
              clear hd
              go_wp2_with fail
              exact ⟨rfl, _, rfl, Below.refl _ _, rfl⟩
            apply OpsIs.eq
            · intro vs u hb hd
              clear hd
              have hzu := (HZ3.out.below hb).v
              go_wp2_with fail
              exact ⟨rfl, _, rfl, Below.refl _ _, rfl⟩
            apply OpsIs.eq
            · intro vs u hb hd
              have e1 := hd ⟨1, .data⟩ (by simp) (by decide)
              simp at e1
              clear hd
              simp only [e1]
              go_wp2_with fail
              exact ⟨rfl, _, rfl, Below.refl _ _, rfl⟩
            apply OpsIs.eq
            · intro vs u hb hd
              have e2 := hd ⟨2, .data⟩ (by simp) (by decide)
              simp at e2
              clear hd
              simp only [e2]
              go_wp2_with fail
              exact ⟨rfl, _, rfl, Below.refl _ _, rfl⟩
            apply OpsIs.eq
            · intro vs u hb hd
              have e3 := hd ⟨3, .data⟩ (by simp) (by decide)
              simp at e3
              clear hd
              simp only [e3]
              have hpu : u.cell? ⟨w.heap.size + 1 + 1 + 1, 10, none⟩ = some (.int .i64 1) := (hb.cell (p := ⟨w.heap.size + 1 + 1 + 1, 10, none⟩) (by have := HZ3.out.size; show w.heap.size + 1 + 1 + 1 < _; omega)).trans HP3.out
              go_wp2_with fail
              exact ⟨rfl, _, rfl, Below.refl _ _, rfl⟩
            apply OpsIs.eq
            · intro vs u hb hd
              have e0 := hd ⟨0, .data⟩ (by simp) (by decide)
              simp at e0
              clear hd
              simp only [e0]
              have hzx := (HZ3.out.below hb).x
              exact goes_stays rfl rfl (store_same hzx)
            refine OpsIs.first ?_ ?_
            · intro vs u hb hdis hd
              have e4 := hd 4 (by simp)
              simp at e4
              clear hd
              simp only [e4]
              have hzl := (HZ3.out.below hb).line
              have hl0 := block_cell hzl 0
              have hl1 := block_free hzl 0
              simp at hl0
              clear hzl
              go_wp2_with fail
              exact ⟨rfl, undef, rfl, by unfold AftN; rw [if_pos rfl]; exact ⟨u, hb, rfl⟩⟩
            refine OpsIs.next ?_ ?_
            · intro vs u hE hd
              obtain ⟨_, e0⟩ := hd ⟨0, .phase⟩ (by simp) (by decide)
              simp at e0
              obtain ⟨_, e1⟩ := hd ⟨1, .phase⟩ (by simp) (by decide)
              simp at e1
              obtain ⟨_, e2⟩ := hd ⟨2, .phase⟩ (by simp) (by decide)
              simp at e2
              obtain ⟨_, e3⟩ := hd ⟨3, .phase⟩ (by simp) (by decide)
              simp at e3
              obtain ⟨_, e4⟩ := hd ⟨4, .phase⟩ (by simp) (by decide)
              simp at e4
              obtain ⟨_, e5⟩ := hd ⟨5, .phase⟩ (by simp) (by decide)
              simp at e5
              unfold AftN at hE
              rw [if_pos rfl] at hE
              obtain ⟨v, hbv, rfl⟩ := hE
              clear hd
              simp only [e0, e1, e2, e3, e4]
              have HBV := Lib.hid hbv
              have hze := (HZ3.out.below hbv).err
              have he1 := block_setCell_other hze (show w.heap.size + 1 ≠ w.heap.size + 1 + 1 by omega) (.int .i64 1) (p := ⟨w.heap.size + 1, 0, none⟩)
              have hl0 := block_cell he1 0
              have hl1 := block_free he1 0
              simp at hl0 hl1
              clear hze he1 hbv
              go_wp2_with fail
              exact ⟨rfl, undef, rfl, by unfold AftN; rw [if_neg (by decide)]; exact ⟨v, HBV.out, rfl⟩⟩
            refine OpsIs.done ?_
            intro vs u hE hS
            clear hS
            unfold AftN at hE
            rw [if_neg (by decide)] at hE
            obtain ⟨v, hbv, rfl⟩ := hE
            have HE := Lib.hid (HEND.out v hbv)
            clear hbv
            gi_wp2
            exact HE.out
            -- NO end
        · have hz1 : (((n : Int) + 1) == 1) = false := by rw [beq_eq_false_iff_ne]; omega
          have HN0 := Lib.hid h0
          have HCL := Lib.hid (show Calls Tryd.prog 46 #[.pointer (some ⟨w.heap.size + 1 + 1 + 1, 0, none⟩), .slice (some ⟨W.heap.size, 0, none⟩) (splitW q).length (splitW q).length] w2 (ClientPost (w.heap.size + 8) (w.heap.size + 3) y (n + 1) (splitW q) w2) from client_any (w.heap.size + 8) (w.heap.size + 3) y (n + 1) W.heap.size (splitW q) w2 HB2.out HS2.out HWD.out (by have := HWC.out; omega) (fun u hu => by have := HWL.out u hu; omega) (by have := HIV.out.lim.ss; have := HNB.out; omega))
          clear h0
          gi_wp2_with (refine ⟨trivial, ?_⟩; gi_at_call 46; refine (CallsIn.inRound l (callsIn_wide.2 HCL.out)).mono ?_)
          rintro e3 w3 ⟨hk3, (⟨y1, hc1, rfl, hs3⟩ | ⟨hc1, rfl, hs3, hbw3⟩)⟩
          · have HST := Lib.hid (show stepP y n (q ++ [10]) = some y1 by
              unfold stepP
              rw [if_pos (by simp), if_neg HN0.out, List.dropLast_concat]
              unfold lineP
              rw [hc1])
            have HLM := Lib.hid (lim_client HIV.out.lim hc1)
            have HK3 := Lib.hid (HK2.out.trans hk3)
            have HS3 := Lib.hid hs3
            clear hk3 hs3 hc1
            gi_wp2
            refine ⟨trivial, ?_⟩
            gi_wp2
            refine ⟨trivial, ?_⟩
            gi_wp2
            exact ⟨HK3.out.from _, HK3.out.keepB, _, n + 1, HIV.out.step HK3.out HS3.out (by simp) HST.out HLM.out⟩
          · have HK3 := Lib.hid (HK2.out.trans hk3)
            have HB3 := Lib.hid (Nat.le_trans HB2.out hk3.size)
            have HWD3 := Lib.hid (HWD.out.below hbw3 HWD.out.lt)
            clear hbw3
            have HO := Lib.hid (show Calls Tryd.prog 47 #[.pointer (some ⟨w.heap.size + 1 + 1 + 1, 0, none⟩), .string Y] w3 (OpPost (w.heap.size + 8) (w.heap.size + 3) y (n + 1) q w3) from HOP.out w3 HB3.out hs3)
            have HC1 := Lib.hid hc1
            have c4c : w3.cell? ⟨w.heap.size + 1 + 1 + 1 + 1, 0, none⟩ = some (.pointer (some ⟨w.heap.size + 1 + 1 + 1, 0, none⟩)) := by
              have h4 := HK3.out.block (w.heap.size + 4) (by omega) (by omega)
              have h5 := (h4.trans (HIV.out.res 4 (.inr rfl))).trans HPW.out.v
              exact (block_cell h5 0).trans rfl
            clear hk3 hs3 hc1 c4b p10b
            gi_wp2
            refine ⟨trivial, ?_⟩
            refine (CallsIn.inRound l (callsIn_wide.2 HO.out)).mono ?_
            rintro e4 w4 ⟨hk4, (⟨y2, hc2, rfl, hs4⟩ | ⟨hc2, rfl, hs4, hbw4⟩)⟩
            · have HST := Lib.hid (show stepP y n (q ++ [10]) = some y2 by
                unfold stepP
                rw [if_pos (by simp), if_neg HN0.out, List.dropLast_concat]
                unfold lineP
                rw [HC1.out, hc2])
              have HLM := Lib.hid (lim_op HIV.out.lim hc2)
              have HK4 := Lib.hid (HK3.out.trans hk4)
              have HS4 := Lib.hid hs4
              clear hk4 hs4 hc2
              gi_wp2
              refine ⟨trivial, ?_⟩
              gi_wp2
              exact ⟨HK4.out.from _, HK4.out.keepB, _, n + 1, HIV.out.step HK4.out HS4.out (by simp) HST.out HLM.out⟩
            · have HK4 := Lib.hid (HK3.out.trans hk4)
              have HB4 := Lib.hid (Nat.le_trans HB3.out hk4.size)
              have HWD4 := Lib.hid (HWD3.out.below hbw4 HWD3.out.lt)
              have HPI := Lib.hid (show Calls Tryd.prog 48 #[.pointer (some ⟨w.heap.size + 1 + 1 + 1, 0, none⟩), .slice (some ⟨W.heap.size, 0, none⟩) (splitW q).length (splitW q).length] w4 (PickPost (w.heap.size + 8) (w.heap.size + 3) y (n + 1) (splitW q) w4) from pick_any (w.heap.size + 8) (w.heap.size + 3) y (n + 1) W.heap.size (splitW q) w4 HB4.out hs4 HWD4.out (by have := HWC.out; omega) (fun u hu => by have := HWL.out u hu; omega) HIV.out.lim.ps)
              have HC2 := Lib.hid hc2
              have c4d := (ResZ.of HIV.out HPW.out HK4.out).v
              clear hk4 hs4 hc2 hbw4 c4c
              gi_wp2
              refine ⟨trivial, ?_⟩
              refine (CallsIn.inRound l (callsIn_wide.2 HPI.out)).mono ?_
              rintro e5 w5 ⟨hk5, (⟨y3, hc3, rfl, hs5⟩ | ⟨hc3, rfl, hs5⟩)⟩
              · have HST := Lib.hid (show stepP y n (q ++ [10]) = some y3 by
                  unfold stepP
                  rw [if_pos (by simp), if_neg HN0.out, List.dropLast_concat]
                  unfold lineP
                  rw [HC1.out, HC2.out, hc3])
                have HLM := Lib.hid (lim_pick HIV.out.lim hc3)
                have HK5 := Lib.hid (HK4.out.trans hk5)
                have HS5 := Lib.hid hs5
                clear hk5 hs5 hc3
                gi_wp2
                exact ⟨HK5.out.from _, HK5.out.keepB, _, n + 1, HIV.out.step HK5.out HS5.out (by simp) HST.out HLM.out⟩
              · have HST := Lib.hid (show stepP y n (q ++ [10]) = none by
                  unfold stepP
                  rw [if_pos (by simp), if_neg HN0.out, List.dropLast_concat]
                  unfold lineP
                  rw [HC1.out, HC2.out, hc3])
                have HK5 := Lib.hid (HK4.out.trans hk5)
                obtain ⟨vP3, vQ3, ss3, hM3, -⟩ := hs5
                have HP3 := Lib.hid (show w5.cell? ⟨w.heap.size + 1 + 1 + 1, 10, none⟩ = some (.int .i64 ((n : Int) + 1)) from (block_cell hM3.cells 10).trans rfl)
                have HZ3 := Lib.hid (ResZ.of HIV.out HPW.out HK5.out)
                have HEND := Lib.hid (fun v hb => stop_end HIV.out HPW.out HK5.out (v := v) hb hL (by simp) HST.out W0.heap.size)
                clear hk5 hM3 hc3 c4d
                gi_wp2
                -- NO w5 ((n:Int)+1) begin
                refine wpIn_region_plan [.make, .make, .make, .make, .make, .make, .write 0, .write 1] [0, 1, 2, 3, 4, 5] 2 (AftN w.heap.size ((n:Int)+1) w5) (by intro o ho; simp only [List.mem_cons, List.not_mem_nil, or_false] at ho; rcases ho with rfl | rfl | rfl | rfl | rfl | rfl | rfl | rfl <;> first | exact plain_build rfl | exact plain_load rfl | exact plain_nil rfl | exact plain_field rfl | exact plain_store rfl) (by kernel_rfl) (by decide) (by kernel_rfl) (by kernel_rfl) (by kernel_rfl) (by kernel_rfl) (fun p vs vs' u h hE => hE) ?_
                simp only [fill, Act.put, List.setIfInBounds_toArray, List.set_cons_zero, List.set_cons_succ, Nat.zero_add, Nat.reduceAdd, List.zip_cons_cons, List.zip_nil_right]
                apply OpsIs.eq
                · intro vs u hb hd
                  clear hd
                  go_wp2_with fail
                  exact ⟨rfl, _, rfl, Below.refl _ _, rfl⟩
                apply OpsIs.eq
                · intro vs u hb hd
                  clear hd
                  have hzu := (HZ3.out.below hb).v
                  go_wp2_with fail
                  exact ⟨rfl, _, rfl, Below.refl _ _, rfl⟩
                apply OpsIs.eq
                · intro vs u hb hd
                  have e1 := hd ⟨1, .data⟩ (by simp) (by decide)
                  simp at e1
                  clear hd
                  simp only [e1]
                  go_wp2_with fail
                  exact ⟨rfl, _, rfl, Below.refl _ _, rfl⟩
                apply OpsIs.eq
                · intro vs u hb hd
                  have e2 := hd ⟨2, .data⟩ (by simp) (by decide)
                  simp at e2
                  clear hd
                  simp only [e2]
                  go_wp2_with fail
                  exact ⟨rfl, _, rfl, Below.refl _ _, rfl⟩
                apply OpsIs.eq
                · intro vs u hb hd
                  have e3 := hd ⟨3, .data⟩ (by simp) (by decide)
                  simp at e3
                  clear hd
                  simp only [e3]
                  have hpu : u.cell? ⟨w.heap.size + 1 + 1 + 1, 10, none⟩ = some (.int .i64 ((n:Int)+1)) := (hb.cell (p := ⟨w.heap.size + 1 + 1 + 1, 10, none⟩) (by have := HZ3.out.size; show w.heap.size + 1 + 1 + 1 < _; omega)).trans HP3.out
                  go_wp2_with fail
                  exact ⟨rfl, _, rfl, Below.refl _ _, rfl⟩
                apply OpsIs.eq
                · intro vs u hb hd
                  have e0 := hd ⟨0, .data⟩ (by simp) (by decide)
                  simp at e0
                  clear hd
                  simp only [e0]
                  have hzx := (HZ3.out.below hb).x
                  exact goes_stays rfl rfl (store_same hzx)
                refine OpsIs.first ?_ ?_
                · intro vs u hb hdis hd
                  have e4 := hd 4 (by simp)
                  simp at e4
                  clear hd
                  simp only [e4]
                  have hzl := (HZ3.out.below hb).line
                  have hl0 := block_cell hzl 0
                  have hl1 := block_free hzl 0
                  simp at hl0
                  clear hzl
                  go_wp2_with fail
                  exact ⟨rfl, undef, rfl, by unfold AftN; rw [if_pos rfl]; exact ⟨u, hb, rfl⟩⟩
                refine OpsIs.next ?_ ?_
                · intro vs u hE hd
                  obtain ⟨_, e0⟩ := hd ⟨0, .phase⟩ (by simp) (by decide)
                  simp at e0
                  obtain ⟨_, e1⟩ := hd ⟨1, .phase⟩ (by simp) (by decide)
                  simp at e1
                  obtain ⟨_, e2⟩ := hd ⟨2, .phase⟩ (by simp) (by decide)
                  simp at e2
                  obtain ⟨_, e3⟩ := hd ⟨3, .phase⟩ (by simp) (by decide)
                  simp at e3
                  obtain ⟨_, e4⟩ := hd ⟨4, .phase⟩ (by simp) (by decide)
                  simp at e4
                  obtain ⟨_, e5⟩ := hd ⟨5, .phase⟩ (by simp) (by decide)
                  simp at e5
                  unfold AftN at hE
                  rw [if_pos rfl] at hE
                  obtain ⟨v, hbv, rfl⟩ := hE
                  clear hd
                  simp only [e0, e1, e2, e3, e4]
                  have HBV := Lib.hid hbv
                  have hze := (HZ3.out.below hbv).err
                  have he1 := block_setCell_other hze (show w.heap.size + 1 ≠ w.heap.size + 1 + 1 by omega) (.int .i64 ((n:Int)+1)) (p := ⟨w.heap.size + 1, 0, none⟩)
                  have hl0 := block_cell he1 0
                  have hl1 := block_free he1 0
                  simp at hl0 hl1
                  clear hze he1 hbv
                  go_wp2_with fail
                  exact ⟨rfl, undef, rfl, by unfold AftN; rw [if_neg (by decide)]; exact ⟨v, HBV.out, rfl⟩⟩
                refine OpsIs.done ?_
                intro vs u hE hS
                clear hS
                unfold AftN at hE
                rw [if_neg (by decide)] at hE
                obtain ⟨v, hbv, rfl⟩ := hE
                have HE := Lib.hid (HEND.out v hbv)
                clear hbv
                gi_wp2
                exact HE.out
                -- NO end
      · rw [if_neg hc] at HCU
        have HSP := Lib.hid (fun u => split_any ⟨(q ++ [c]).toArray⟩ u (by show (q ++ [c]).toArray.size < _; rw [List.size_toArray, List.length_append, List.length_singleton]; omega))
        rw [show (⟨(q ++ [c]).toArray⟩ : ByteArray).data.toList = q ++ [c] from List.toList_toArray ..] at HSP
        have HST := Lib.hid (show stepP y n (q ++ [c]) = none by
          unfold stepP
          rw [if_neg (by simp [hc])])
        generalize (⟨(q ++ [c]).toArray⟩ : ByteArray) = X at *
        gi_wp2_with (refine ⟨trivial, ?_⟩; gi_at_call 43; refine (CallsIn.inRound l (callsIn_wide.2 (HCU.out _))).mono ?_; rintro e1 w1 ⟨rfl, rfl⟩)
        refine ⟨trivial, ?_⟩
        refine (CallsIn.inRound l (callsIn_wide.2 (HSP.out _))).mono ?_
        rintro e2 w2 ⟨rfl, -, hb2⟩
        have hk1 := KeptR.set (B := w.heap.size + 8) (bR := w.heap.size + 3) (i := 10) (v := .int .i64 ((n : Int) + 1)) HRM.out.cells (.inr rfl) HIV.out.size
        have hB1 := Nat.le_trans HIV.out.size hk1.size
        have HK2 := Lib.hid (hk1.trans (KeptR.of_below (bR := w.heap.size + 3) hb2 hB1))
        have HRM2 := Lib.hid ((HRM.out.put (c' := y.c) (ln' := (n : Int) + 1) (last' := y.last) (grown_set2 _ _ 10 _) (block_setCell HRM.out.cells 10 (.int .i64 ((n : Int) + 1)))).later hb2)
        have HP3 := Lib.hid (show w2.cell? ⟨w.heap.size + 1 + 1 + 1, 10, none⟩ = some (.int .i64 ((n : Int) + 1)) from (block_cell HRM2.out.cells 10).trans rfl)
        have HZ3 := Lib.hid (ResZ.of HIV.out HPW.out HK2.out)
        have HEND := Lib.hid (fun v hb => stop_end HIV.out HPW.out HK2.out (v := v) hb hL (by simp) HST.out W0.heap.size)
        clear hb2 c4 p10 f10 hk1 hB1
        gi_wp2
        -- NO w2 ((n:Int)+1) begin
        refine wpIn_region_plan [.make, .make, .make, .make, .make, .make, .write 0, .write 1] [0, 1, 2, 3, 4, 5] 2 (AftN w.heap.size ((n:Int)+1) w2) (by intro o ho; simp only [List.mem_cons, List.not_mem_nil, or_false] at ho; rcases ho with rfl | rfl | rfl | rfl | rfl | rfl | rfl | rfl <;> first | exact plain_build rfl | exact plain_load rfl | exact plain_nil rfl | exact plain_field rfl | exact plain_store rfl) (by kernel_rfl) (by decide) (by kernel_rfl) (by kernel_rfl) (by kernel_rfl) (by kernel_rfl) (fun p vs vs' u h hE => hE) ?_
        simp only [fill, Act.put, List.setIfInBounds_toArray, List.set_cons_zero, List.set_cons_succ, Nat.zero_add, Nat.reduceAdd, List.zip_cons_cons, List.zip_nil_right]
        apply OpsIs.eq
        · intro vs u hb hd
          clear hd
          go_wp2_with fail
          exact ⟨rfl, _, rfl, Below.refl _ _, rfl⟩
        apply OpsIs.eq
        · intro vs u hb hd
          clear hd
          have hzu := (HZ3.out.below hb).v
          go_wp2_with fail
          exact ⟨rfl, _, rfl, Below.refl _ _, rfl⟩
        apply OpsIs.eq
        · intro vs u hb hd
          have e1 := hd ⟨1, .data⟩ (by simp) (by decide)
          simp at e1
          clear hd
          simp only [e1]
          go_wp2_with fail
          exact ⟨rfl, _, rfl, Below.refl _ _, rfl⟩
        apply OpsIs.eq
        · intro vs u hb hd
          have e2 := hd ⟨2, .data⟩ (by simp) (by decide)
          simp at e2
          clear hd
          simp only [e2]
          go_wp2_with fail
          exact ⟨rfl, _, rfl, Below.refl _ _, rfl⟩
        apply OpsIs.eq
        · intro vs u hb hd
          have e3 := hd ⟨3, .data⟩ (by simp) (by decide)
          simp at e3
          clear hd
          simp only [e3]
          have hpu : u.cell? ⟨w.heap.size + 1 + 1 + 1, 10, none⟩ = some (.int .i64 ((n:Int)+1)) := (hb.cell (p := ⟨w.heap.size + 1 + 1 + 1, 10, none⟩) (by have := HZ3.out.size; show w.heap.size + 1 + 1 + 1 < _; omega)).trans HP3.out
          go_wp2_with fail
          exact ⟨rfl, _, rfl, Below.refl _ _, rfl⟩
        apply OpsIs.eq
        · intro vs u hb hd
          have e0 := hd ⟨0, .data⟩ (by simp) (by decide)
          simp at e0
          clear hd
          simp only [e0]
          have hzx := (HZ3.out.below hb).x
          exact goes_stays rfl rfl (store_same hzx)
        refine OpsIs.first ?_ ?_
        · intro vs u hb hdis hd
          have e4 := hd 4 (by simp)
          simp at e4
          clear hd
          simp only [e4]
          have hzl := (HZ3.out.below hb).line
          have hl0 := block_cell hzl 0
          have hl1 := block_free hzl 0
          simp at hl0
          clear hzl
          go_wp2_with fail
          exact ⟨rfl, undef, rfl, by unfold AftN; rw [if_pos rfl]; exact ⟨u, hb, rfl⟩⟩
        refine OpsIs.next ?_ ?_
        · intro vs u hE hd
          obtain ⟨_, e0⟩ := hd ⟨0, .phase⟩ (by simp) (by decide)
          simp at e0
          obtain ⟨_, e1⟩ := hd ⟨1, .phase⟩ (by simp) (by decide)
          simp at e1
          obtain ⟨_, e2⟩ := hd ⟨2, .phase⟩ (by simp) (by decide)
          simp at e2
          obtain ⟨_, e3⟩ := hd ⟨3, .phase⟩ (by simp) (by decide)
          simp at e3
          obtain ⟨_, e4⟩ := hd ⟨4, .phase⟩ (by simp) (by decide)
          simp at e4
          obtain ⟨_, e5⟩ := hd ⟨5, .phase⟩ (by simp) (by decide)
          simp at e5
          unfold AftN at hE
          rw [if_pos rfl] at hE
          obtain ⟨v, hbv, rfl⟩ := hE
          clear hd
          simp only [e0, e1, e2, e3, e4]
          have HBV := Lib.hid hbv
          have hze := (HZ3.out.below hbv).err
          have he1 := block_setCell_other hze (show w.heap.size + 1 ≠ w.heap.size + 1 + 1 by omega) (.int .i64 ((n:Int)+1)) (p := ⟨w.heap.size + 1, 0, none⟩)
          have hl0 := block_cell he1 0
          have hl1 := block_free he1 0
          simp at hl0 hl1
          clear hze he1 hbv
          go_wp2_with fail
          exact ⟨rfl, undef, rfl, by unfold AftN; rw [if_neg (by decide)]; exact ⟨v, HBV.out, rfl⟩⟩
        refine OpsIs.done ?_
        intro vs u hE hS
        clear hS
        unfold AftN at hE
        rw [if_neg (by decide)] at hE
        obtain ⟨v, hbv, rfl⟩ := hE
        have HE := Lib.hid (HEND.out v hbv)
        clear hbv
        gi_wp2
        exact HE.out
        -- NO end
theorem parse_any (S : ByteArray) (w : World) : Calls Tryd.prog 18 #[.string S] w (ParsePost S w) := by
  by_cases h1 : 65536 < S.size
  · exact parse_long S w h1
  · by_cases h0 : S = ⟨#[]⟩
    · exact parse_empty S w h0
    · have hne : S.data.toList ≠ [] := fun e => h0 (ByteArray.ext (Array.toList_inj.1 e))
      refine parse_go S w (by omega) ?_ ?_
      · rw [ByteArray.toList_eq, beq_eq_false_iff_ne]; exact hne
      · rw [ByteArray.toList_eq]
        rcases h : S.data.toList with _ | ⟨a, r⟩
        · exact absurd h hne
        · rfl
end Go.Proofs.YtdfkbahlngijcaaDoor

