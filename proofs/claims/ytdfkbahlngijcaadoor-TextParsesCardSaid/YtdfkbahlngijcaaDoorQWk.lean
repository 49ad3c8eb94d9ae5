/- Text: Parse: what the loop keeps. (printed by slim.py.) -/
import Derived.Test.YtdfkbahlngijcaaDoorQWj
namespace Go.Proofs.YtdfkbahlngijcaaDoor
open Go.RowKit
set_option linter.unusedVariables false

/-- a block that is not the reader's is turned -/
theorem RdM.turn {B bR : Nat} {c : Cf} {vP vQ : Value} {ln last : Int} {ss : List Pg} {ps : List Int} {W W' : World} (h : RdM B bR c vP vQ ln last ss ps W) {r : Nat} (hg : W.grownBy W' (some r)) (hr : (r < B ∧ r ≠ bR) ∨ (∀ o, W.heap[r]? = some o → o.isCells = false)) : RdM B bR c vP vQ ln last ss ps W' := by
  have own : ∀ {t : TypeId} {s n : Nat} {v : Value} {xs : List Value}, W.ownsRow B t s v n xs → W'.ownsRow B t s v n xs := fun ho => own_away ho hg fun q hq e => by
    injection e with e
    subst e
    obtain ⟨hb, cur, hc⟩ := own_typ1 ho hq
    rcases hr with hr | hr
    · omega
    · have := hr _ hc; cases this
  refine ⟨?_, own h.ownP, own h.ownQ, fun s hs => ⟨own (h.rows s hs).1, (h.rows s hs).2⟩, h.apart⟩
  rw [hg.block bR (block_lt h.cells) (fun e => by
    injection e with e
    subst e
    rcases hr with hr | hr
    · exact hr.2 rfl
    · have := hr _ h.cells; cases this)]
  exact h.cells
theorem RdS.turn {B bR : Nat} {x : Rd} {n : Nat} {W W' : World} (h : RdS B bR x n W) {r : Nat} (hg : W.grownBy W' (some r)) (hr : (r < B ∧ r ≠ bR) ∨ (∀ o, W.heap[r]? = some o → o.isCells = false)) : RdS B bR x n W' := by
  obtain ⟨vP, vQ, ss, hM, hs⟩ := h
  exact ⟨vP, vQ, ss, hM.turn hg hr, hs⟩
/-- the limits of what was read -/
structure RdLim (x : Rd) (n : Nat) : Prop where
  ss : x.ss.length ≤ n
  ops : ∀ l ∈ x.ss, l.length ≤ n
  ps : x.ps.length ≤ 65535
/-- the loop's invariant: pre has come -/
structure LoopI (s : List UInt8) (b0 : Nat) (w0 : World) (pre : List (List UInt8)) (x : Rd) (n : Nat) (W : World) : Prop where
  fold : ∀ rest, segs s = pre ++ rest → foldP zeroRd 0 (segs s) = foldP x n rest
  rd : RdS (b0 + 8) (b0 + 3) x n W
  low : ∀ k, k < b0 → W.heap[k]? = w0.heap[k]?
  res : ∀ k, k < 3 ∨ k = 4 → W.heap[b0 + k]? = w0.heap[b0 + k]?
  os : W.os = w0.os
  tape : W.tape = w0.tape
  output : W.output = w0.output
  size : b0 + 8 ≤ W.heap.size
  lim : RdLim x n
  cnt : n ≤ pre.length
theorem LoopI.turn {s : List UInt8} {b0 : Nat} {w0 : World} {pre : List (List UInt8)} {x : Rd} {n : Nat} {W W' : World} (h : LoopI s b0 w0 pre x n W) {r : Nat} (hg : W.grownBy W' (some r)) (hr : r = b0 + 5 ∨ (b0 + 8 ≤ r ∧ ∀ o, W.heap[r]? = some o → o.isCells = false)) : LoopI s b0 w0 pre x n W' := by
  have hs := h.size
  have hk : ∀ k, k < b0 ∨ (k < b0 + 5 ∧ k ≠ b0 + 3) → W'.heap[k]? = W.heap[k]? := fun k hk => hg.block k (by omega) (fun e => by
    injection e with e
    rcases hr with hr | hr <;> omega)
  refine ⟨h.fold, h.rd.turn hg ?_, fun k hkb => (hk k (.inl hkb)).trans (h.low k hkb), fun k hkk => (hk (b0 + k) (.inr (by omega))).trans (h.res k hkk), hg.os.trans h.os, hg.tape.trans h.tape, hg.output.trans h.output, Nat.le_trans h.size hg.size, h.lim, h.cnt⟩
  rcases hr with hr | hr
  · exact .inl ⟨by omega, by omega⟩
  · exact .inr hr.2
theorem LoopI.below {s : List UInt8} {b0 : Nat} {w0 : World} {pre : List (List UInt8)} {x : Rd} {n : Nat} {W W' : World} (h : LoopI s b0 w0 pre x n W) (hb : Below W.heap.size W W') : LoopI s b0 w0 pre x n W' := by
  have hs := h.size
  exact ⟨h.fold, h.rd.later hb, fun k hk => (hb.block k (by omega)).trans (h.low k hk), fun k hk => (hb.block (b0 + k) (by omega)).trans (h.res k hk), hb.os.trans h.os, hb.tape.trans h.tape, hb.output.trans h.output, Nat.le_trans h.size hb.size, h.lim, h.cnt⟩
/-- a step of the reader -/
theorem LoopI.step {s : List UInt8} {b0 : Nat} {w0 : World} {pre : List (List UInt8)} {p : List UInt8} {x y : Rd} {n : Nat} {W W' : World} (h : LoopI s b0 w0 pre x n W) (hk : KeptR (b0 + 8) (b0 + 3) W W') (hr : RdS (b0 + 8) (b0 + 3) y (n + 1) W') (hp : p ≠ []) (hs : stepP x n p = some y) (hl : RdLim y (n + 1)) : LoopI s b0 w0 (pre ++ [p]) y (n + 1) W' := by
  refine ⟨fun rest e => ?_, hr, fun k hkb => (hk.block k (by omega) (by omega)).trans (h.low k hkb), fun k hkk => (hk.block (b0 + k) (by omega) (by omega)).trans (h.res k hkk), hk.os.trans h.os, hk.tape.trans h.tape, hk.output.trans h.output, Nat.le_trans h.size hk.size, hl, by rw [List.length_append]; have := h.cnt; simp; omega⟩
  rw [h.fold (p :: rest) (by rw [e, List.append_assoc]; rfl)]
  show (if p = [] then foldP x n rest else match stepP x n p with | some y => foldP y (n + 1) rest | none => (x, n + 1, false)) = _
  rw [if_neg hp, hs]
theorem LoopI.skip {s : List UInt8} {b0 : Nat} {w0 : World} {pre : List (List UInt8)} {x : Rd} {n : Nat} {W : World} (h : LoopI s b0 w0 pre x n W) : LoopI s b0 w0 (pre ++ [[]]) x n W := by
  refine ⟨fun rest e => ?_, h.rd, h.low, h.res, h.os, h.tape, h.output, h.size, h.lim, by rw [List.length_append]; have := h.cnt; omega⟩
  rw [h.fold ([] :: rest) (by rw [e, List.append_assoc]; rfl)]
  rfl
/-- what the steps do to the limits -/
theorem lim_cfg {x : Rd} {n : Nat} (h : RdLim x n) (c : Cf) : RdLim { x with c := c } (n + 1) := ⟨Nat.le_succ_of_le h.ss, fun l hl => Nat.le_succ_of_le (h.ops l hl), h.ps⟩
theorem lim_client {x y : Rd} {n : Nat} {ws : List (List UInt8)} (h : RdLim x n) (hs : clientP x ws = some y) : RdLim y (n + 1) := by
  unfold clientP at hs
  split at hs
  · split at hs
    · split at hs
      · cases hs
        refine ⟨by show (x.ss ++ [[]]).length ≤ _; rw [List.length_append]; have := h.ss; simp; omega, fun l hl => ?_, h.ps⟩
        rcases List.mem_append.1 hl with hl | hl
        · exact Nat.le_succ_of_le (h.ops l hl)
        · rw [List.mem_singleton.1 hl]; exact Nat.zero_le _
      · cases hs
    · cases hs
  · cases hs
theorem addLast_len : ∀ (l : List (List Ov)) (o : Ov), (addLast l o).length = l.length
  | [], _ => rfl
  | [_], _ => rfl
  | _ :: m :: r, o => by show (addLast (m :: r) o).length + 1 = _; rw [addLast_len (m :: r) o]; rfl
theorem addLast_mem : ∀ (l : List (List Ov)) (o : Ov) (n : Nat), (∀ a ∈ l, a.length ≤ n) → ∀ a ∈ addLast l o, a.length ≤ n + 1
  | [], _, _, _, _, ha => by cases ha
  | [b], o, n, h, a, ha => by
    rw [List.mem_singleton.1 (show a ∈ [b ++ [o]] from ha), List.length_append]
    have := h b (by simp)
    simp; omega
  | b :: m :: r, o, n, h, a, ha => by
    rcases List.mem_cons.1 (show a ∈ b :: addLast (m :: r) o from ha) with ha | ha
    · rw [ha]; exact Nat.le_succ_of_le (h b (by simp))
    · exact addLast_mem (m :: r) o n (fun a ha => h a (List.mem_cons_of_mem _ ha)) a ha
theorem lim_op {x y : Rd} {n : Nat} {row : List UInt8} (h : RdLim x n) (hs : opP x row = some y) : RdLim y (n + 1) := by
  unfold opP at hs
  split at hs
  · split at hs
    · cases hs
      exact ⟨by show (addLast x.ss _).length ≤ _; rw [addLast_len]; exact Nat.le_succ_of_le h.ss, addLast_mem _ _ _ h.ops, h.ps⟩
    · cases hs
  · cases hs
theorem lim_pick {x y : Rd} {n : Nat} {ws : List (List UInt8)} (h : RdLim x n) (hs : pickP x ws = some y) : RdLim y (n + 1) := by
  unfold pickP at hs
  split at hs
  · split at hs
    · split at hs
      · rename_i l _ hc
        cases hs
        refine ⟨Nat.le_succ_of_le h.ss, fun l hl => Nat.le_succ_of_le (h.ops l hl), ?_⟩
        show (x.ps ++ List.replicate _ _).length ≤ _
        rw [List.length_append, List.length_replicate]
        have := hc.2.2
        have := h.ps
        omega
      · cases hs
    · cases hs
  · cases hs
end Go.Proofs.YtdfkbahlngijcaaDoor

