/- Diff: apply.parts' closures: their walks. -/
import Derived.Test.YtfbjbgknfdekfaaDoorHl
namespace Go.Proofs.YtfbjbgknfdekfaaDoor
open Go.RowKit
set_option linter.unusedVariables false

/-- the state of parts: the rest of the text, three builders, take's cell, the map (in the six blocks from h on) -/
structure Pt (h : Nat) (es : Array MapEntry) (clk : Nat) (rest : ByteArray) (o g p : List UInt8) (vO vG vP : Value) (w : World) : Prop where
  s : w.heap[h]? = some (.cells #[.string rest] 9 (0, 0))
  bo : Bd (h + 6) (h + 1) vO o w
  bg : Bd (h + 6) (h + 2) vG g w
  bp : Bd (h + 6) (h + 3) vP p w
  ft : w.heap[h + 4]? = some (.cells #[.func (.func 53) #[] #[.pointer (some ⟨h, 0, none⟩)]] 75 (0, 0))
  m : w.heap[h + 5]? = some (.map es clk)
  a1 : Apart vO vG
  a2 : Apart vO vP
  a3 : Apart vG vP
  size : h + 6 ≤ w.heap.size
theorem Bd.base {B b : Nat} {v : Value} {l : List UInt8} {w : World} (h : Bd B b v l w) {q : Nat} (hq : v.ownBlock = some q) : B ≤ q := (own_typ1 h.own hq).1
theorem Pt.alloc {h clk : Nat} {es : Array MapEntry} {rest : ByteArray} {o g p : List UInt8} {vO vG vP : Value} {w : World} (k : Pt h es clk rest o g p vO vG vP w) (x : Obj) : Pt h es clk rest o g p vO vG vP (w.alloc x) := by
  have hk := Kept2.alloc w x none none
  have n : ∀ q : Nat, (none : Option Nat) ≠ some q := fun q e => by cases e
  have n' : ∀ q : Nat, some q ≠ (none : Option Nat) := fun q e => by cases e
  exact ⟨block_alloc k.s x, k.bo.kept hk (n' _) (n' _) (fun q _ => n q) (fun q _ => n q), k.bg.kept hk (n' _) (n' _) (fun q _ => n q) (fun q _ => n q), k.bp.kept hk (n' _) (n' _) (fun q _ => n q) (fun q _ => n q), block_alloc k.ft x, block_alloc k.m x, k.a1, k.a2, k.a3, Nat.le_trans k.size hk.size⟩
theorem Pt.take {h clk : Nat} {es : Array MapEntry} {rest : ByteArray} {o g p : List UInt8} {vO vG vP : Value} {w : World} (k : Pt h es clk rest o g p vO vG vP w) (r : ByteArray) : Pt h es clk r o g p vO vG vP (w.setCell ⟨h, 0, none⟩ (.string r)) := by
  have hk : Kept2 w (w.setCell ⟨h, 0, none⟩ (.string r)) (some h) none := Kept2.setCell 0 _
  have n' : ∀ q : Nat, some q ≠ (none : Option Nat) := fun q e => by cases e
  have ne : ∀ q, h < q → some q ≠ some h := fun q hq e => by injection e with e; omega
  have nb : ∀ {b : Nat} {v : Value} {l : List UInt8}, Bd (h + 6) b v l w → ∀ q, v.ownBlock = some q → some h ≠ some q := fun hb q hq e => by
    have := hb.base hq
    injection e with e; omega
  have nn : ∀ {v : Value}, ∀ q, v.ownBlock = some q → (none : Option Nat) ≠ some q := fun q _ e => by cases e
  refine ⟨block_setCell k.s 0 _, k.bo.kept hk (ne _ (by omega)) (n' _) (nb k.bo) nn, k.bg.kept hk (ne _ (by omega)) (n' _) (nb k.bg) nn, k.bp.kept hk (ne _ (by omega)) (n' _) (nb k.bp) nn, ?_, ?_, k.a1, k.a2, k.a3, Nat.le_trans k.size hk.size⟩
  · rw [hk.block _ (block_lt k.ft) (ne _ (by omega)) (n' _)]; exact k.ft
  · rw [hk.block _ (block_lt k.m) (ne _ (by omega)) (n' _)]; exact k.m
theorem Apart.newL {w : World} {B b : Nat} {v v' u : Value} {l : List UInt8} (h : Apart v u) (hu : Bd B b u l w) (hn : NewAt w v v') : Apart v' u := h.grown hu.own hn
/-- a builder among the state's is written: the rest stays -/
theorem Pt.rest {h clk b : Nat} {es : Array MapEntry} {rest : ByteArray} {o g p : List UInt8} {vO vG vP v : Value} {w w' : World} (k : Pt h es clk rest o g p vO vG vP w) (hb : h < b) (hb2 : b < h + 4) (hv : ∀ q, v.ownBlock = some q → h + 6 ≤ q) (hk : Kept2 w w' (some b) v.ownBlock) :
    w'.heap[h]? = some (.cells #[.string rest] 9 (0, 0)) ∧ w'.heap[h + 4]? = some (.cells #[.func (.func 53) #[] #[.pointer (some ⟨h, 0, none⟩)]] 75 (0, 0)) ∧ w'.heap[h + 5]? = some (.map es clk) ∧ h + 6 ≤ w'.heap.size := by
  have n1 : ∀ q, q ≠ b → some q ≠ some b := fun q hq e => by injection e with e; exact hq e
  have n2 : ∀ q, q < h + 6 → some q ≠ v.ownBlock := fun q hq e => by have := hv q e.symm; omega
  refine ⟨?_, ?_, ?_, Nat.le_trans k.size hk.size⟩
  · rw [hk.block _ (block_lt k.s) (n1 _ (by omega)) (n2 _ (by omega))]; exact k.s
  · rw [hk.block _ (block_lt k.ft) (n1 _ (by omega)) (n2 _ (by omega))]; exact k.ft
  · rw [hk.block _ (block_lt k.m) (n1 _ (by omega)) (n2 _ (by omega))]; exact k.m
theorem Bd.other {h b c : Nat} {v u : Value} {l : List UInt8} {w w' : World} (k : Bd (h + 6) c u l w) (hk : Kept2 w w' (some b) v.ownBlock) (hcb : c ≠ b) (hc : c < h + 6) (hb : b < h + 6) (hv : ∀ q, v.ownBlock = some q → h + 6 ≤ q) (ha : Apart v u) : Bd (h + 6) c u l w' :=
  k.kept hk (fun e => by injection e with e; exact hcb e) (fun e => by have := hv c e.symm; omega) (fun q hq e => by have := k.base hq; injection e with e; omega) (fun q hq e => ha q e hq)
theorem Pt.writeO {h clk : Nat} {es : Array MapEntry} {rest t : ByteArray} {o g p : List UInt8} {vO vG vP : Value} {w w' : World} {e : Ending} (k : Pt h es clk rest o g p vO vG vP w) (hw : WrPost (h + 6) (h + 1) vO o t w e w') : ∃ v, Pt h es clk rest (o ++ t.data.toList) g p v vG vP w' := by
  obtain ⟨-, v, hb, hk, hn⟩ := hw
  have hv : ∀ q, vO.ownBlock = some q → h + 6 ≤ q := fun q hq => k.bo.base hq
  obtain ⟨r1, r2, r3, r4⟩ := k.rest (by omega) (by omega) hv hk
  exact ⟨v, r1, hb, k.bg.other hk (by omega) (by omega) (by omega) hv k.a1, k.bp.other hk (by omega) (by omega) (by omega) hv k.a2, r2, r3, k.a1.newL k.bg hn, k.a2.newL k.bp hn, k.a3, r4⟩
theorem Pt.writeG {h clk : Nat} {es : Array MapEntry} {rest t : ByteArray} {o g p : List UInt8} {vO vG vP : Value} {w w' : World} {e : Ending} (k : Pt h es clk rest o g p vO vG vP w) (hw : WrPost (h + 6) (h + 2) vG g t w e w') : ∃ v, Pt h es clk rest o (g ++ t.data.toList) p vO v vP w' := by
  obtain ⟨-, v, hb, hk, hn⟩ := hw
  have hv : ∀ q, vG.ownBlock = some q → h + 6 ≤ q := fun q hq => k.bg.base hq
  obtain ⟨r1, r2, r3, r4⟩ := k.rest (by omega) (by omega) hv hk
  exact ⟨v, r1, k.bo.other hk (by omega) (by omega) (by omega) hv k.a1.symm, hb, k.bp.other hk (by omega) (by omega) (by omega) hv k.a3, r2, r3, (k.a1.symm.newL k.bo hn).symm, k.a2, k.a3.newL k.bp hn, r4⟩
theorem Pt.writeP {h clk : Nat} {es : Array MapEntry} {rest t : ByteArray} {o g p : List UInt8} {vO vG vP : Value} {w w' : World} {e : Ending} (k : Pt h es clk rest o g p vO vG vP w) (hw : WrPost (h + 6) (h + 3) vP p t w e w') : ∃ v, Pt h es clk rest o g (p ++ t.data.toList) vO vG v w' := by
  obtain ⟨-, v, hb, hk, hn⟩ := hw
  have hv : ∀ q, vP.ownBlock = some q → h + 6 ≤ q := fun q hq => k.bp.base hq
  obtain ⟨r1, r2, r3, r4⟩ := k.rest (by omega) (by omega) hv hk
  exact ⟨v, r1, k.bo.other hk (by omega) (by omega) (by omega) hv k.a2.symm, k.bg.other hk (by omega) (by omega) (by omega) hv k.a3.symm, hb, r2, r3, k.a1, (k.a2.symm.newL k.bo hn).symm, (k.a3.symm.newL k.bg hn).symm, r4⟩
theorem wr_below {h b : Nat} {v : Value} {l : List UInt8} {t : ByteArray} {a w w' : World} {e : Ending} (hb : Below h a w) (hs : h ≤ w.heap.size) (hhb : h ≤ b) (hv : ∀ q, v.ownBlock = some q → h + 6 ≤ q) (hw : WrPost (h + 6) b v l t w e w') : Below h a w' := by
  obtain ⟨-, v', -, hk, -⟩ := hw
  exact Kept2.below hb hk hs (fun q hq => by injection hq with hq; omega) (fun q hq => by have := hv q hq; omega)
set_option maxRecDepth 100000 in
set_option maxHeartbeats 4000000 in
theorem take_any (h m : Nat) (t : ByteArray) (w : World) (hc : w.heap[h]? = some (.cells #[.string t] 9 (0, 0))) (hm : m ≤ t.size) (hs : t.size ≤ 1048576) :
    Calls Tryd.prog 53 #[.int .i64 m, .pointer (some ⟨h, 0, none⟩)] w fun e w' => e = .returned (.string (t.extract 0 m)) ∧ w' = w.setCell ⟨h, 0, none⟩ (.string (t.extract m t.size)) := by
  have q0 := block_cell hc 0
  have f0 := block_free hc 0
  simp at q0
  have hm0 : (0 : Int) ≤ (m : Int) := by omega
  have hm1 : (m : Int) ≤ (t.size : Int) := by omega
  clear hc
  go_enter Tryd.func53, Tryd.ntmps53
  go_wp2_with fail
  go_ret
  exact ⟨rfl, rfl⟩
end Go.Proofs.YtfbjbgknfdekfaaDoor
