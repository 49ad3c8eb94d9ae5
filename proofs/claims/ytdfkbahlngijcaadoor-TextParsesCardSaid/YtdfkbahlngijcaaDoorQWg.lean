/- Text: the reader's methods: config. (printed by slim.py.) -/
import Derived.Test.YtdfkbahlngijcaaDoorQWf
import Derived.BigRegion
import Derived.Deep.DeepCutAuto
import Derived.Deep.MidRow
namespace Go.Proofs.YtdfkbahlngijcaaDoor
open Go.RowKit
set_option linter.unusedVariables false

/-- what a step of the reader leaves as it lay -/
structure KeptR (B bR : Nat) (w w' : World) : Prop where
  os : w'.os = w.os
  tape : w'.tape = w.tape
  output : w'.output = w.output
  size : w.heap.size ≤ w'.heap.size
  block : ∀ k, k < B → k ≠ bR → w'.heap[k]? = w.heap[k]?
  nc : ∀ (k : Nat) (o : Obj), w.heap[k]? = some o → o.isCells = false → w'.heap[k]? = some o
theorem KeptR.refl (B bR : Nat) (w : World) : KeptR B bR w w := ⟨rfl, rfl, rfl, Nat.le_refl _, fun _ _ _ => rfl, fun _ _ h _ => h⟩
theorem KeptR.trans {B bR : Nat} {a b c : World} (h : KeptR B bR a b) (k : KeptR B bR b c) : KeptR B bR a c :=
  ⟨k.os.trans h.os, k.tape.trans h.tape, k.output.trans h.output, Nat.le_trans h.size k.size, fun i h1 h2 => (k.block i h1 h2).trans (h.block i h1 h2), fun i o h1 h2 => k.nc i o (h.nc i o h1 h2) h2⟩
theorem KeptR.of_below {B bR : Nat} {w w' : World} (h : Below w.heap.size w w') (hB : B ≤ w.heap.size) : KeptR B bR w w' :=
  ⟨h.os, h.tape, h.output, h.size, fun k hk _ => h.block k (by omega), fun k o hk _ => by rw [h.block k (block_lt hk)]; exact hk⟩
theorem KeptR.of_grown {B bR : Nat} {w w' : World} {r : Option Nat} (h : w.grownBy w' r) (hB : B ≤ w.heap.size) (hr : ∀ q, r = some q → (B ≤ q ∨ q = bR) ∧ ∃ cs T fr, w.heap[q]? = some (.cells cs T fr)) : KeptR B bR w w' :=
  ⟨h.os, h.tape, h.output, h.size, fun k hk hne => h.block k (by omega) (fun e => by rcases (hr k e.symm).1 with h1 | h1 <;> omega), fun k o hk ho => by
    rw [h.block k (block_lt hk) (fun e => by
      obtain ⟨cs, T, fr, hc⟩ := (hr k e.symm).2
      rw [hc] at hk
      cases hk
      cases ho)]
    exact hk⟩
theorem KeptR.own {B bR : Nat} {w w' : World} {s n : Nat} {t : TypeId} {v : Value} {xs : List Value} (h : w.grownBy w' v.ownBlock) (ho : w.ownsRow B t s v n xs) (hB : B ≤ w.heap.size) : KeptR B bR w w' :=
  KeptR.of_grown h hB fun q hq => by
    obtain ⟨h1, cur, hc⟩ := own_typ1 ho hq
    exact ⟨.inl h1, _, _, _, hc⟩
theorem KeptR.set {B bR b i : Nat} {w : World} {v : Value} {cs : Array Value} {T : TypeId} {fr : Nat × Nat} (hc : w.heap[b]? = some (.cells cs T fr)) (hb : B ≤ b ∨ b = bR) (hB : B ≤ w.heap.size) : KeptR B bR w (w.setCell ⟨b, i, none⟩ v) :=
  KeptR.of_grown (grown_set2 w b i v) hB fun q hq => by injection hq with hq; subst hq; exact ⟨hb, _, _, _, hc⟩
theorem KeptR.drewN {B bR : Nat} (w : World) (n : Nat) : KeptR B bR w (w.drewN n) := ⟨rfl, rfl, rfl, Nat.le_refl _, fun _ _ _ => rfl, fun _ _ h _ => h⟩
def CfgPost (B bR : Nat) (x : Rd) (n : Nat) (ws : List (List UInt8)) (w : World) (e : Ending) (w' : World) : Prop :=
  KeptR B bR w w' ∧ ((∃ c, cfgP ws = some c ∧ e = .returned (.bool true) ∧ RdS B bR { x with c := c } n w') ∨ (cfgP ws = none ∧ e = .returned (.bool false) ∧ RdS B bR x n w'))
theorem list9 {α : Type} (l : List α) (h : l.length = 9) : ∃ a b c d e f g i j, l = [a, b, c, d, e, f, g, i, j] := by
  match l, h with
  | [a, b, c, d, e, f, g, i, j], _ => exact ⟨a, b, c, d, e, f, g, i, j, rfl⟩
theorem list7 {α : Type} (l : List α) (h : l.length = 7) : ∃ a b c d e f g, l = [a, b, c, d, e, f, g] := by
  match l, h with
  | [a, b, c, d, e, f, g], _ => exact ⟨a, b, c, d, e, f, g, rfl⟩
/-- the configuration is written -/
theorem store8 {B bR : Nat} {c : Cf} {vP vQ : Value} {ln last : Int} {ss : List Pg} {ps : List Int} {W : World} (h : RdM B bR c vP vQ ln last ss ps W) (a0 a1 a2 a3 a4 a5 a6 : Int) (t : ByteArray) (hB : B ≤ W.heap.size) :
    RdM B bR ⟨a0, a1, a2, a3, a4, a5, a6, t⟩ vP vQ ln last ss ps ((((((((W.setCell ⟨bR, 0, none⟩ (.int .i64 a0)).setCell ⟨bR, 1, none⟩ (.int .u64 a1)).setCell ⟨bR, 2, none⟩ (.int .i64 a2)).setCell ⟨bR, 3, none⟩ (.int .i64 a3)).setCell ⟨bR, 4, none⟩ (.int .i64 a4)).setCell ⟨bR, 5, none⟩ (.int .i64 a5)).setCell ⟨bR, 6, none⟩ (.int .i64 a6)).setCell ⟨bR, 7, none⟩ (.string t)) ∧
    KeptR B bR W ((((((((W.setCell ⟨bR, 0, none⟩ (.int .i64 a0)).setCell ⟨bR, 1, none⟩ (.int .u64 a1)).setCell ⟨bR, 2, none⟩ (.int .i64 a2)).setCell ⟨bR, 3, none⟩ (.int .i64 a3)).setCell ⟨bR, 4, none⟩ (.int .i64 a4)).setCell ⟨bR, 5, none⟩ (.int .i64 a5)).setCell ⟨bR, 6, none⟩ (.int .i64 a6)).setCell ⟨bR, 7, none⟩ (.string t)) := by
  obtain ⟨s0, s1, s2, s3, s4, s5, s6, st⟩ := c
  have sz : ∀ (X : World) (i : Nat) (v : Value), B ≤ X.heap.size → B ≤ (X.setCell ⟨bR, i, none⟩ v).heap.size := fun X i v hx => Nat.le_trans hx (grown_set2 X bR i v).size
  have h0 := h.put (c' := ⟨a0, s1, s2, s3, s4, s5, s6, st⟩) (ln' := ln) (last' := last) (grown_set2 _ _ 0 _) (block_setCell h.cells 0 (.int .i64 a0))
  have h1 := h0.put (c' := ⟨a0, a1, s2, s3, s4, s5, s6, st⟩) (ln' := ln) (last' := last) (grown_set2 _ _ 1 _) (block_setCell h0.cells 1 (.int .u64 a1))
  have h2 := h1.put (c' := ⟨a0, a1, a2, s3, s4, s5, s6, st⟩) (ln' := ln) (last' := last) (grown_set2 _ _ 2 _) (block_setCell h1.cells 2 (.int .i64 a2))
  have h3 := h2.put (c' := ⟨a0, a1, a2, a3, s4, s5, s6, st⟩) (ln' := ln) (last' := last) (grown_set2 _ _ 3 _) (block_setCell h2.cells 3 (.int .i64 a3))
  have h4 := h3.put (c' := ⟨a0, a1, a2, a3, a4, s5, s6, st⟩) (ln' := ln) (last' := last) (grown_set2 _ _ 4 _) (block_setCell h3.cells 4 (.int .i64 a4))
  have h5 := h4.put (c' := ⟨a0, a1, a2, a3, a4, a5, s6, st⟩) (ln' := ln) (last' := last) (grown_set2 _ _ 5 _) (block_setCell h4.cells 5 (.int .i64 a5))
  have h6 := h5.put (c' := ⟨a0, a1, a2, a3, a4, a5, a6, st⟩) (ln' := ln) (last' := last) (grown_set2 _ _ 6 _) (block_setCell h5.cells 6 (.int .i64 a6))
  have h7 := h6.put (c' := ⟨a0, a1, a2, a3, a4, a5, a6, t⟩) (ln' := ln) (last' := last) (grown_set2 _ _ 7 _) (block_setCell h6.cells 7 (.string t))
  refine ⟨h7, ?_⟩
  have k0 := KeptR.set (i := 0) (v := .int .i64 a0) h.cells (.inr rfl) hB
  have b0 := sz _ 0 (.int .i64 a0) hB
  have k1 := KeptR.set (i := 1) (v := .int .u64 a1) h0.cells (.inr rfl) b0
  have b1 := sz _ 1 (.int .u64 a1) b0
  have k2 := KeptR.set (i := 2) (v := .int .i64 a2) h1.cells (.inr rfl) b1
  have b2 := sz _ 2 (.int .i64 a2) b1
  have k3 := KeptR.set (i := 3) (v := .int .i64 a3) h2.cells (.inr rfl) b2
  have b3 := sz _ 3 (.int .i64 a3) b2
  have k4 := KeptR.set (i := 4) (v := .int .i64 a4) h3.cells (.inr rfl) b3
  have b4 := sz _ 4 (.int .i64 a4) b3
  have k5 := KeptR.set (i := 5) (v := .int .i64 a5) h4.cells (.inr rfl) b4
  have b5 := sz _ 5 (.int .i64 a5) b4
  have k6 := KeptR.set (i := 6) (v := .int .i64 a6) h5.cells (.inr rfl) b5
  have b6 := sz _ 6 (.int .i64 a6) b5
  have k7 := KeptR.set (i := 7) (v := .string t) h6.cells (.inr rfl) b6
  exact ((((((k0.trans k1).trans k2).trans k3).trans k4).trans k5).trans k6).trans k7
/-- the type's zero and its places, for a struct -/
def zeroPl (P : Program) (t : TypeId) : Option (Array Value × List (Nat × Nat)) :=
  match P.info? t, P.underlying t with
  | some it, some (.struct fields) =>
    match it.zero, fields.toList.mapM (fun f => (P.info? f.type).map fun i => (f.offset, i.size)) with
    | some z, some places => some (z.cells, places)
    | _, _ => none
  | _, _ => none
theorem built_zeroPl {P : Program} {t : TypeId} {zc : Array Value} {pl : List (Nat × Nat)} (h : zeroPl P t = some (zc, pl)) (parts : List (Nat × Value)) : P.built t parts = Instr.fill (pl.toArray[·]?) zc parts := by
  unfold zeroPl at h
  unfold Program.built
  cases hi : P.info? t with
  | none => simp [hi] at h
  | some it =>
    cases hu : P.underlying t with
    | none => simp [hi, hu] at h
    | some d =>
      cases d with
      | struct fields =>
        cases hz : it.zero with
        | none => simp [hi, hu, hz] at h
        | some z =>
          cases hp : fields.toList.mapM (fun f => (P.info? f.type).map fun i => (f.offset, i.size)) with
          | none => simp [hi, hu, hz, hp] at h
          | some places =>
            simp only [hi, hu, hz, hp, Option.some.injEq, Prod.mk.injEq] at h ⊢
            rw [h.1, h.2]
      | _ => simp [hi, hu] at h
theorem fill_one (place : Nat → Option (Nat × Nat)) (cells : Array Value) (i off : Nat) (v : Value) (rest : List (Nat × Value)) (hp : place i = some (off, 1)) (hv : v.cells = #[v]) (h : off + 1 ≤ cells.size) :
    Instr.fill place cells ((i, v) :: rest) = Instr.fill place (cells.setIfInBounds off v) rest := by
  conv => lhs; unfold Instr.fill
  rw [hp, hv]
  have : ¬ (off + 1 > cells.size) := by omega
  simp [this]
theorem fill8 (z0 z1 z2 z3 z4 z5 z6 z7 v0 v1 v2 v3 v4 v5 v6 v7 : Value) (h0 : v0.cells = #[v0]) (h1 : v1.cells = #[v1]) (h2 : v2.cells = #[v2]) (h3 : v3.cells = #[v3]) (h4 : v4.cells = #[v4]) (h5 : v5.cells = #[v5]) (h6 : v6.cells = #[v6]) (h7 : v7.cells = #[v7]) :
    Instr.fill ([(0, 1), (1, 1), (2, 1), (3, 1), (4, 1), (5, 1), (6, 1), (7, 1)].toArray[·]?) #[z0, z1, z2, z3, z4, z5, z6, z7] [(0, v0), (1, v1), (2, v2), (3, v3), (4, v4), (5, v5), (6, v6), (7, v7)] = some #[v0, v1, v2, v3, v4, v5, v6, v7] := by
  rw [fill_one _ _ 0 0 v0 _ rfl h0 (by simp), fill_one _ _ 1 1 v1 _ rfl h1 (by simp), fill_one _ _ 2 2 v2 _ rfl h2 (by simp), fill_one _ _ 3 3 v3 _ rfl h3 (by simp), fill_one _ _ 4 4 v4 _ rfl h4 (by simp), fill_one _ _ 5 5 v5 _ rfl h5 (by simp), fill_one _ _ 6 6 v6 _ rfl h6 (by simp), fill_one _ _ 7 7 v7 _ rfl h7 (by simp)]
  unfold Instr.fill
  simp
theorem goes_build {P : Program} {ops : Array Oper} {a : Act} {o : Oper} {u : World} {R : Value → World → Prop} {t : TypeId} {parts : Array (Nat × Operand)} {c : Value} (hg : o.guard = none) (hop : o.op = .build t parts)
    (qs : Array (Nat × Value)) (hqs : (parts.map fun (i, x) => (i, a.eval x)) = qs) (hrun : (Instr.build t qs).run P u = .ok c u) (hR : R c u) : wpList P ops (Goes a o u R) [o] a u := by
  refine wpList_plain hg fun K' hK' => ?_
  unfold Oper.wp
  simp only [execOp, hop]
  rw [hqs]
  simp [hrun, Result.andThen, Oper.upon]
  exact hK' _ _ ⟨rfl, _, rfl, Below.refl _ _, hR⟩
/-- a built value of eight fields of one cell each -/
theorem goes_build8 {P : Program} {ops : Array Oper} {a : Act} {o : Oper} {u : World} {t : TypeId} {parts : Array (Nat × Operand)} {v0 v1 v2 v3 v4 v5 v6 v7 z0 z1 z2 z3 z4 z5 z6 z7 : Value} (hg : o.guard = none) (hop : o.op = .build t parts)
    (hz : zeroPl P t = some (#[z0, z1, z2, z3, z4, z5, z6, z7], [(0, 1), (1, 1), (2, 1), (3, 1), (4, 1), (5, 1), (6, 1), (7, 1)]))
    (hqs : (parts.map fun (i, x) => (i, a.eval x)) = #[(0, v0), (1, v1), (2, v2), (3, v3), (4, v4), (5, v5), (6, v6), (7, v7)])
    (h0 : v0.cells = #[v0]) (h1 : v1.cells = #[v1]) (h2 : v2.cells = #[v2]) (h3 : v3.cells = #[v3]) (h4 : v4.cells = #[v4]) (h5 : v5.cells = #[v5]) (h6 : v6.cells = #[v6]) (h7 : v7.cells = #[v7]) :
    wpList P ops (Goes a o u (fun v _ => v = .agg #[v0, v1, v2, v3, v4, v5, v6, v7])) [o] a u :=
  goes_build hg hop _ hqs (run_build u t _ _ ((built_zeroPl hz _).trans (fill8 _ _ _ _ _ _ _ _ _ _ _ _ _ _ _ _ h0 h1 h2 h3 h4 h5 h6 h7))) rfl
/-- a store of a whole value into a block's first cells, as a region's first write -/
theorem goesT_store {P : Program} {ops : Array Oper} {a : Act} {o : Oper} {i : Nat} {vs : Nat → Value} {u : World} {E : (Nat → Value) → World → Prop} {ty : TypeId} {x y : Operand} {b : Nat} {cs : Array Value} (hg : o.guard = none) (hop : o.op = .store ty x y) (hd : o.dst = none)
    (hx : a.eval x = .pointer (some ⟨b, 0, none⟩)) (hy : a.eval y = .agg cs) (ht : u.there b 0 cs.size) (hi : (P.info? ty).map (·.size) = some cs.size) (h1 : cs.all (·.oneCell') = true)
    (hE : E (upd vs i undef) (u.setCells b 0 cs.toList)) : wpList P ops (GoesT a o i vs E) [o] a u := by
  refine wpList_plain hg fun K' hK' => ?_
  unfold Oper.wp
  simp only [execOp, hop, hx, hy]
  simp [run_storeAt_mid u b 0 ty cs ht hi h1, Result.andThen, Oper.upon]
  exact hK' _ _ ⟨rfl, undef, rfl, hE⟩
theorem rd_there {B bR : Nat} {c : Cf} {vP vQ : Value} {ln last : Int} {ss : List Pg} {ps : List Int} {W : World} (h : RdM B bR c vP vQ ln last ss ps W) : W.there bR 0 8 := by
  intro j hj
  rw [Nat.zero_add, block_cell h.cells, block_free h.cells]
  refine ⟨?_, rfl⟩
  rcases (by omega : j = 0 ∨ j = 1 ∨ j = 2 ∨ j = 3 ∨ j = 4 ∨ j = 5 ∨ j = 6 ∨ j = 7) with rfl | rfl | rfl | rfl | rfl | rfl | rfl | rfl <;> rfl
set_option maxRecDepth 100000 in
set_option maxHeartbeats 8000000 in
theorem config_any (B bR : Nat) (x : Rd) (n b : Nat) (ws : List (List UInt8)) (w : World) (hB : B ≤ w.heap.size) (h : RdS B bR x n w) (hw : WdAt w b ws) (hlen : ws.length ≤ 100000) (hwl : ∀ y ∈ ws, y.length ≤ 100000) :
    Calls Tryd.prog 45 #[.pointer (some ⟨bR, 0, none⟩), .slice (some ⟨b, 0, none⟩) ws.length ws.length] w (CfgPost B bR x n ws w) := by
  by_cases h9 : ws.length = 9
  · obtain ⟨w0, w1, w_2, w3, w4, w5, w6, w7, w8, rfl⟩ := list9 ws h9
    have c0 : w.cell? ⟨b, 0, none⟩ = some (.string ⟨w0.toArray⟩) := hw.at (j := 0) (by simp)
    by_cases hc : w0 = cfgN
    · subst hc
      obtain ⟨vP, vQ, ss, hM, hss⟩ := h
      have HM := Lib.hid hM
      have HSS := Lib.hid hss
      have HCP := Lib.hid (show cfgP [cfgN, w1, w_2, w3, w4, w5, w6, w7, w8] = match numsW [w1, w_2, w3, w4, w5, w6, w7] with
          | some l => match unqL w8 with
            | some t => some ⟨l.getD 0 0, l.getD 1 0, l.getD 2 0, l.getD 3 0, l.getD 4 0, l.getD 5 0, l.getD 6 0, ⟨t.toArray⟩⟩
            | none => none
          | none => none by unfold cfgP; rw [if_pos ⟨rfl, rfl⟩]; rfl)
      have HNU := Lib.hid (numbers_any [w1, w_2, w3, w4, w5, w6, w7] b 1 7 8 w (fun j hj => by
        have hj7 : j < 7 := hj
        have := hw.at (j := 1 + j) (by simp; omega)
        rw [this]
        rcases (by omega : j = 0 ∨ j = 1 ∨ j = 2 ∨ j = 3 ∨ j = 4 ∨ j = 5 ∨ j = 6) with rfl | rfl | rfl | rfl | rfl | rfl | rfl <;> rfl) hw.lt rfl (by decide) (fun y hy => by have := hwl y (List.mem_cons_of_mem _ (show y ∈ [w1, w_2, w3, w4, w5, w6, w7] ++ [w8] from List.mem_append_left _ hy)); omega))
      have HNO := Lib.hid (show ∀ w' : World, KeptR B bR w w' → cfgP [cfgN, w1, w_2, w3, w4, w5, w6, w7, w8] = none → RdM B bR x.c vP vQ n x.last ss x.ps w' → CfgPost B bR x n [cfgN, w1, w_2, w3, w4, w5, w6, w7, w8] w (.returned (.bool false)) w' from fun w' hk hn hr => ⟨hk, .inr ⟨hn, rfl, vP, vQ, ss, hr, hss⟩⟩)
      have HYES := Lib.hid (show ∀ (w' : World) (c : Cf), KeptR B bR w w' → cfgP [cfgN, w1, w_2, w3, w4, w5, w6, w7, w8] = some c → RdM B bR c vP vQ n x.last ss x.ps w' → CfgPost B bR x n [cfgN, w1, w_2, w3, w4, w5, w6, w7, w8] w (.returned (.bool true)) w' from fun w' c hk hc hr => ⟨hk, .inl ⟨c, hc, rfl, vP, vQ, ss, hr, hss⟩⟩)
      generalize CfgPost B bR x n [cfgN, w1, w_2, w3, w4, w5, w6, w7, w8] w = PP at *
      have HW := Lib.hid hw
      have HW8 := Lib.hid (hwl w8 (by simp))
      have HC0 := Lib.hid (show ((⟨cfgN.toArray⟩ : ByteArray).toList == [99, 111, 110, 102, 105, 103]) = true by rw [ByteArray.toList_eq]; rfl)
      unfold cfgN at c0
      clear h9 hlen hM hss hw hwl HC0
      go_enter Tryd.func45, Tryd.ntmps45
      go_wp2_with fail
      refine (HNU.out).mono ?_; rintro e2 w2 ⟨hnp, hb2⟩
      have HB2 := Lib.hid hb2
      have HM2 := Lib.hid (HM.out.later hb2)
      have HK2 := Lib.hid (KeptR.of_below (bR := bR) hb2 hB)
      have hw2 := HW.out.below hb2 HW.out.lt
      have c8 : w2.cell? ⟨b, 8, none⟩ = some (.string ⟨w8.toArray⟩) := hw2.at (j := 8) (by simp)
      have HUQ := Lib.hid (unquote_any ⟨w8.toArray⟩ w2 (by have := HW8.out; show w8.toArray.size ≤ _; rw [List.size_toArray]; omega))
      rw [show (⟨w8.toArray⟩ : ByteArray).data.toList = w8 from List.toList_toArray ..] at HUQ
      have hs2 := hb2.size
      unfold NumsPost at hnp
      clear hb2 hw2 HNU c0
      rcases hnw : numsW [w1, w_2, w3, w4, w5, w6, w7] with _ | l
      · as_aux_lemma =>
          rw [hnw] at hnp
          have HX := Lib.hid (show cfgP [cfgN, w1, w_2, w3, w4, w5, w6, w7, w8] = none by rw [HCP.out, hnw])
          replace hnp : e2 = .returned (.tuple #[.slice none 0 0, .bool false]) := hnp
          subst hnp
          clear hnw
          go_wp2_with fail
          refine (HUQ.out).mono ?_; rintro e3 w3 ⟨rfl, hb3⟩
          have HK3 := Lib.hid (HK2.out.trans (KeptR.of_below hb3 (by omega)))
          have HM3 := Lib.hid (HM2.out.later hb3)
          clear hb3 HUQ
          go_wp2_with fail
          exact HNO.out _ HK3.out HX.out HM3.out
      · rw [hnw] at hnp
        obtain ⟨v, hev, hov⟩ := hnp
        subst hev
        have HCP2 := Lib.hid (show cfgP [cfgN, w1, w_2, w3, w4, w5, w6, w7, w8] = match unqL w8 with
            | some t => some ⟨l.getD 0 0, l.getD 1 0, l.getD 2 0, l.getD 3 0, l.getD 4 0, l.getD 5 0, l.getD 6 0, ⟨t.toArray⟩⟩
            | none => none by rw [HCP.out, hnw])
        have HL7 := Lib.hid (show l.length = 7 from numsW_len hnw)
        have HOK := Lib.hid (numsW_ok hnw)
        have HOV := Lib.hid hov
        clear hnw hov
        rcases huw : unqL w8 with _ | t
        · as_aux_lemma =>
            rw [unqR_none huw] at HUQ
            have HX := Lib.hid (show cfgP [cfgN, w1, w_2, w3, w4, w5, w6, w7, w8] = none by rw [HCP2.out, huw])
            clear huw
            go_wp2_with fail
            refine (HUQ.out).mono ?_; rintro e3 w3 ⟨rfl, hb3⟩
            have HK3 := Lib.hid (HK2.out.trans (KeptR.of_below hb3 (by omega)))
            have HM3 := Lib.hid (HM2.out.later hb3)
            clear hb3 HUQ
            go_wp2_with fail
            exact HNO.out _ HK3.out HX.out HM3.out
        · as_aux_lemma =>
            rw [unqR_some huw] at HUQ
            obtain ⟨a0, a1, a2, a3, a4, a5, a6, rfl⟩ := list7 l HL7.out
            have HX := Lib.hid (show cfgP [cfgN, w1, w_2, w3, w4, w5, w6, w7, w8] = some ⟨a0, a1, a2, a3, a4, a5, a6, ⟨t.toArray⟩⟩ by rw [HCP2.out, huw]; rfl)
            obtain ⟨ao, cap, rfl, hao⟩ := own_form HOV.out
            obtain ⟨g, rfl⟩ := hao (by simp)
            clear huw hao
            go_wp2_with fail
            refine (HUQ.out).mono ?_; rintro e3 w3 ⟨rfl, hb3⟩
            have HK3 := Lib.hid (HK2.out.trans (KeptR.of_below hb3 (by omega)))
            have HM3 := Lib.hid (HM2.out.later hb3)
            have hov3 := own_below HOV.out hb3
            have d0 : w3.cell? ⟨g, 0, none⟩ = some (.int .i64 a0) := by have := hov3.cells (g := g) rfl 0 (.int .i64 a0) rfl; rw [add_to] at this; simpa using this
            have d1 : w3.cell? ⟨g, 1, none⟩ = some (.int .i64 a1) := by have := hov3.cells (g := g) rfl 1 (.int .i64 a1) rfl; rw [add_to] at this; simpa using this
            have d2 : w3.cell? ⟨g, 2, none⟩ = some (.int .i64 a2) := by have := hov3.cells (g := g) rfl 2 (.int .i64 a2) rfl; rw [add_to] at this; simpa using this
            have d3 : w3.cell? ⟨g, 3, none⟩ = some (.int .i64 a3) := by have := hov3.cells (g := g) rfl 3 (.int .i64 a3) rfl; rw [add_to] at this; simpa using this
            have d4 : w3.cell? ⟨g, 4, none⟩ = some (.int .i64 a4) := by have := hov3.cells (g := g) rfl 4 (.int .i64 a4) rfl; rw [add_to] at this; simpa using this
            have d5 : w3.cell? ⟨g, 5, none⟩ = some (.int .i64 a5) := by have := hov3.cells (g := g) rfl 5 (.int .i64 a5) rfl; rw [add_to] at this; simpa using this
            have d6 : w3.cell? ⟨g, 6, none⟩ = some (.int .i64 a6) := by have := hov3.cells (g := g) rfl 6 (.int .i64 a6) rfl; rw [add_to] at this; simpa using this
            have HD := Lib.hid (And.intro d0 (And.intro d1 (And.intro d2 (And.intro d3 (And.intro d4 (And.intro d5 d6))))))
            have HGL := Lib.hid (show g < w3.heap.size by obtain ⟨-, cur, hc⟩ := own_typ1 hov3 (q := g) rfl; exact block_lt hc)
            have HGW := Lib.hid (show IntKind.u64.wrap a1 = a1 by
              have := HOK.out a1 (by simp)
              rw [IntKind.wrap_u64]
              have h1 := this.1
              have h2 := this.2
              omega)
            have HBW := Lib.hid (show B ≤ w3.heap.size by have := hb3.size; omega)
            clear hb3 HUQ hov3 d0 d1 d2 d3 d4 d5 d6
            go_upto_region 7 with (fail)
            -- R7 begin
            refine wp_region_plan [.make, .make, .make, .make, .make, .make, .make, .make, .make, .make, .make, .make, .make, .make, .make, .make, .make, .make, .make, .make, .make, .make, .make, .make, .make, .make, .make, .make, .write 0] [0, 1, 2, 3, 4, 5, 6, 7, 8, 9, 10, 11, 12, 13, 14, 15, 16, 17, 18, 19, 20, 21, 22, 23, 24, 25, 26, 27] 1 (fun _ _ u => RdM B bR ⟨a0, a1, a2, a3, a4, a5, a6, ⟨t.toArray⟩⟩ vP vQ n x.last ss x.ps u ∧ KeptR B bR w3 u) (by kernel_rfl) (by decide) (by kernel_rfl) (by kernel_rfl) (by kernel_rfl) (by kernel_rfl) (fun p vs vs' u h hE => hE) ?_
            simp only [fill, Act.put, List.setIfInBounds_toArray, List.set_cons_zero, List.set_cons_succ, Nat.zero_add, Nat.reduceAdd, List.zip_cons_cons, List.zip_nil_right]
            apply OpsIs.eq
            · intro vs u hb hd
              clear hd
              go_wp2_with fail
              exact ⟨rfl, _, rfl, Below.refl _ _, rfl⟩
            apply OpsIs.eq
            · intro vs u hb hd
              clear hd
              go_wp2_with fail
              exact ⟨rfl, _, rfl, Below.refl _ _, rfl⟩
            apply OpsIs.eq
            · intro vs u hb hd
              have e1 := hd ⟨1, .data⟩ (by simp) (by decide)
              simp at e1
              clear hd
              simp only [e1]
              go_wp2_with fail
              exact ⟨rfl, _, rfl, Below.refl _ _, rfl⟩
            apply OpsIs.eq
            · intro vs u hb hd
              have e2 := hd ⟨2, .data⟩ (by simp) (by decide)
              simp at e2
              clear hd
              simp only [e2]
              have d0 : u.cell? ⟨g, 0, none⟩ = some (.int .i64 a0) := (hb.cell (p := ⟨g, 0, none⟩) HGL.out).trans HD.out.1
              go_wp2_with fail
              exact ⟨rfl, _, rfl, Below.refl _ _, rfl⟩
            apply OpsIs.eq
            · intro vs u hb hd
              clear hd
              go_wp2_with fail
              exact ⟨rfl, _, rfl, Below.refl _ _, rfl⟩
            apply OpsIs.eq
            · intro vs u hb hd
              have e4 := hd ⟨4, .data⟩ (by simp) (by decide)
              simp at e4
              clear hd
              simp only [e4]
              go_wp2_with fail
              exact ⟨rfl, _, rfl, Below.refl _ _, rfl⟩
            apply OpsIs.eq
            · intro vs u hb hd
              have e5 := hd ⟨5, .data⟩ (by simp) (by decide)
              simp at e5
              clear hd
              simp only [e5]
              have d1 : u.cell? ⟨g, 1, none⟩ = some (.int .i64 a1) := (hb.cell (p := ⟨g, 1, none⟩) HGL.out).trans HD.out.2.1
              go_wp2_with fail
              exact ⟨rfl, _, rfl, Below.refl _ _, rfl⟩
            apply OpsIs.eq
            · intro vs u hb hd
              have e6 := hd ⟨6, .data⟩ (by simp) (by decide)
              simp at e6
              clear hd
              simp only [e6]
              have hgw := HGW.out
              go_wp2_with fail
              exact ⟨rfl, _, rfl, Below.refl _ _, rfl⟩
            apply OpsIs.eq
            · intro vs u hb hd
              clear hd
              go_wp2_with fail
              exact ⟨rfl, _, rfl, Below.refl _ _, rfl⟩
            apply OpsIs.eq
            · intro vs u hb hd
              have e8 := hd ⟨8, .data⟩ (by simp) (by decide)
              simp at e8
              clear hd
              simp only [e8]
              go_wp2_with fail
              exact ⟨rfl, _, rfl, Below.refl _ _, rfl⟩
            apply OpsIs.eq
            · intro vs u hb hd
              have e9 := hd ⟨9, .data⟩ (by simp) (by decide)
              simp at e9
              clear hd
              simp only [e9]
              have d2 : u.cell? ⟨g, 2, none⟩ = some (.int .i64 a2) := (hb.cell (p := ⟨g, 2, none⟩) HGL.out).trans HD.out.2.2.1
              go_wp2_with fail
              exact ⟨rfl, _, rfl, Below.refl _ _, rfl⟩
            apply OpsIs.eq
            · intro vs u hb hd
              clear hd
              go_wp2_with fail
              exact ⟨rfl, _, rfl, Below.refl _ _, rfl⟩
            apply OpsIs.eq
            · intro vs u hb hd
              have e11 := hd ⟨11, .data⟩ (by simp) (by decide)
              simp at e11
              clear hd
              simp only [e11]
              go_wp2_with fail
              exact ⟨rfl, _, rfl, Below.refl _ _, rfl⟩
            apply OpsIs.eq
            · intro vs u hb hd
              have e12 := hd ⟨12, .data⟩ (by simp) (by decide)
              simp at e12
              clear hd
              simp only [e12]
              have d3 : u.cell? ⟨g, 3, none⟩ = some (.int .i64 a3) := (hb.cell (p := ⟨g, 3, none⟩) HGL.out).trans HD.out.2.2.2.1
              go_wp2_with fail
              exact ⟨rfl, _, rfl, Below.refl _ _, rfl⟩
            apply OpsIs.eq
            · intro vs u hb hd
              clear hd
              go_wp2_with fail
              exact ⟨rfl, _, rfl, Below.refl _ _, rfl⟩
            apply OpsIs.eq
            · intro vs u hb hd
              have e14 := hd ⟨14, .data⟩ (by simp) (by decide)
              simp at e14
              clear hd
              simp only [e14]
              go_wp2_with fail
              exact ⟨rfl, _, rfl, Below.refl _ _, rfl⟩
            apply OpsIs.eq
            · intro vs u hb hd
              have e15 := hd ⟨15, .data⟩ (by simp) (by decide)
              simp at e15
              clear hd
              simp only [e15]
              have d4 : u.cell? ⟨g, 4, none⟩ = some (.int .i64 a4) := (hb.cell (p := ⟨g, 4, none⟩) HGL.out).trans HD.out.2.2.2.2.1
              go_wp2_with fail
              exact ⟨rfl, _, rfl, Below.refl _ _, rfl⟩
            apply OpsIs.eq
            · intro vs u hb hd
              clear hd
              go_wp2_with fail
              exact ⟨rfl, _, rfl, Below.refl _ _, rfl⟩
            apply OpsIs.eq
            · intro vs u hb hd
              have e17 := hd ⟨17, .data⟩ (by simp) (by decide)
              simp at e17
              clear hd
              simp only [e17]
              go_wp2_with fail
              exact ⟨rfl, _, rfl, Below.refl _ _, rfl⟩
            apply OpsIs.eq
            · intro vs u hb hd
              have e18 := hd ⟨18, .data⟩ (by simp) (by decide)
              simp at e18
              clear hd
              simp only [e18]
              have d5 : u.cell? ⟨g, 5, none⟩ = some (.int .i64 a5) := (hb.cell (p := ⟨g, 5, none⟩) HGL.out).trans HD.out.2.2.2.2.2.1
              go_wp2_with fail
              exact ⟨rfl, _, rfl, Below.refl _ _, rfl⟩
            apply OpsIs.eq
            · intro vs u hb hd
              clear hd
              go_wp2_with fail
              exact ⟨rfl, _, rfl, Below.refl _ _, rfl⟩
            apply OpsIs.eq
            · intro vs u hb hd
              have e20 := hd ⟨20, .data⟩ (by simp) (by decide)
              simp at e20
              clear hd
              simp only [e20]
              go_wp2_with fail
              exact ⟨rfl, _, rfl, Below.refl _ _, rfl⟩
            apply OpsIs.eq
            · intro vs u hb hd
              have e21 := hd ⟨21, .data⟩ (by simp) (by decide)
              simp at e21
              clear hd
              simp only [e21]
              have d6 : u.cell? ⟨g, 6, none⟩ = some (.int .i64 a6) := (hb.cell (p := ⟨g, 6, none⟩) HGL.out).trans HD.out.2.2.2.2.2.2
              go_wp2_with fail
              exact ⟨rfl, _, rfl, Below.refl _ _, rfl⟩
            apply OpsIs.eq
            · intro vs u hb hd
              clear hd
              go_wp2_with fail
              exact ⟨rfl, _, rfl, Below.refl _ _, rfl⟩
            apply OpsIs.eq
            · intro vs u hb hd
              have e3 := hd ⟨3, .data⟩ (by simp) (by decide)
              simp at e3
              have e7 := hd ⟨7, .data⟩ (by simp) (by decide)
              simp at e7
              have e10 := hd ⟨10, .data⟩ (by simp) (by decide)
              simp at e10
              have e13 := hd ⟨13, .data⟩ (by simp) (by decide)
              simp at e13
              have e16 := hd ⟨16, .data⟩ (by simp) (by decide)
              simp at e16
              have e19 := hd ⟨19, .data⟩ (by simp) (by decide)
              simp at e19
              have e22 := hd ⟨22, .data⟩ (by simp) (by decide)
              simp at e22
              have e23 := hd ⟨23, .data⟩ (by simp) (by decide)
              simp at e23
              clear hd
              simp only [e3, e7, e10, e13, e16, e19, e22, e23]
              apply goes_build8 (hg := rfl) (hop := rfl) (v0 := .int .i64 a0) (v1 := .int .u64 a1) (v2 := .int .i64 a2) (v3 := .int .i64 a3) (v4 := .int .i64 a4) (v5 := .int .i64 a5) (v6 := .int .i64 a6) (v7 := .string ⟨t.toArray⟩) (z0 := .int .i64 0) (z1 := .int .u64 0) (z2 := .int .i64 0) (z3 := .int .i64 0) (z4 := .int .i64 0) (z5 := .int .i64 0) (z6 := .int .i64 0) (z7 := .string ⟨#[]⟩)
              · kernel_rfl
              · simp only [List.map_toArray, List.map_cons, List.map_nil]
                rfl
              all_goals rfl
            apply OpsIs.eq
            · intro vs u hb hd
              have e0 := hd ⟨0, .data⟩ (by simp) (by decide)
              simp at e0
              clear hd
              simp only [e0]
              go_wp2_with fail
              exact ⟨rfl, _, rfl, Below.refl _ _, rfl⟩
            apply OpsIs.eq
            · intro vs u hb hd
              have e25 := hd ⟨25, .data⟩ (by simp) (by decide)
              simp at e25
              clear hd
              simp only [e25]
              go_wp2_with fail
              exact ⟨rfl, _, rfl, Below.refl _ _, rfl⟩
            apply OpsIs.eq
            · intro vs u hb hd
              have e26 := hd ⟨26, .data⟩ (by simp) (by decide)
              simp at e26
              clear hd
              simp only [e26]
              go_wp2_with fail
              exact ⟨rfl, _, rfl, Below.refl _ _, rfl⟩
            refine OpsIs.first ?_ ?_
            · intro vs u hb hdis hd
              have e24 := hd 24 (by simp)
              simp at e24
              have e27 := hd 27 (by simp)
              simp at e27
              clear hd
              simp only [e24, e27]
              have hrm := HM3.out.later hb
              have hkk := KeptR.of_below (bR := bR) hb HBW.out
              have hst := store8 hrm a0 a1 a2 a3 a4 a5 a6 ⟨t.toArray⟩ (Nat.le_trans HBW.out hb.size)
              apply goesT_store (hg := rfl) (hop := rfl) (hd := rfl) (b := bR) (cs := #[.int .i64 a0, .int .u64 a1, .int .i64 a2, .int .i64 a3, .int .i64 a4, .int .i64 a5, .int .i64 a6, .string ⟨t.toArray⟩])
              · rfl
              · rfl
              · exact rd_there hrm
              · kernel_rfl
              · simp [Value.oneCell']
              · exact ⟨hst.1, hkk.trans hst.2⟩
            refine OpsIs.done ?_
            intro vs u hE hS
            clear hS
            -- R7 end
            go_wp2_with fail
            exact HYES.out _ _ (HK3.out.trans hE.2) HX.out hE.1
    · have HX := Lib.hid (show CfgPost B bR x n [w0, w1, w_2, w3, w4, w5, w6, w7, w8] w (.returned (.bool false)) w from ⟨KeptR.refl _ _ _, .inr ⟨by unfold cfgP; rw [if_neg (fun k => hc k.2)], rfl, h⟩⟩)
      have hb : ((⟨w0.toArray⟩ : ByteArray).toList == [99, 111, 110, 102, 105, 103]) = false := by
        rw [ByteArray.toList_eq, beq_eq_false_iff_ne]
        exact hc
      have hb2 : (w0 == [99, 111, 110, 102, 105, 103]) = false := by rw [beq_eq_false_iff_ne]; exact hc
      clear hc h hw hwl
      go_enter Tryd.func45, Tryd.ntmps45
      go_wp2_with fail
      go_ret
      exact HX.out
  · have HX := Lib.hid (show CfgPost B bR x n ws w (.returned (.bool false)) w from ⟨KeptR.refl _ _ _, .inr ⟨by unfold cfgP; rw [if_neg (fun k => h9 k.1)], rfl, h⟩⟩)
    generalize ws.length = m at *
    have hb : ((m : Int) == 9) = false := by rw [beq_eq_false_iff_ne]; omega
    have hb2 : ((m : Int) != 9) = true := by rw [bne_iff_ne]; omega
    have hm9 : ¬ (m = 9) := h9
    have HM9 := Lib.hid hm9
    clear h9 h hw hwl hm9
    go_enter Tryd.func45, Tryd.ntmps45
    go_wp2_with fail
    go_ret
    exact HX.out
end Go.Proofs.YtdfkbahlngijcaaDoor

