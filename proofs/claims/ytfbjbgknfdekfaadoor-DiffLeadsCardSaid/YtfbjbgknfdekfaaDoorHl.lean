/- Diff: strings.Builder where there are several: what a call touches. -/
import Derived.Test.YtfbjbgknfdekfaaDoorHa
import Derived.Test.YtfbjbgknfdekfaaDoorSh
namespace Go.Proofs.YtfbjbgknfdekfaaDoor
open Go.RowKit
set_option linter.unusedVariables false

/-- all blocks but two are as they were -/
structure Kept2 (w w' : World) (r1 r2 : Option Nat) : Prop where
  os : w'.os = w.os
  tape : w'.tape = w.tape
  output : w'.output = w.output
  size : w.heap.size ≤ w'.heap.size
  block : ∀ k, k < w.heap.size → some k ≠ r1 → some k ≠ r2 → w'.heap[k]? = w.heap[k]?
theorem Kept2.refl (w : World) (r1 r2 : Option Nat) : Kept2 w w r1 r2 := ⟨rfl, rfl, rfl, Nat.le_refl _, fun _ _ _ _ => rfl⟩
theorem Kept2.trans {w w1 w2 : World} {r1 r2 : Option Nat} (h : Kept2 w w1 r1 r2) (k : Kept2 w1 w2 r1 r2) : Kept2 w w2 r1 r2 :=
  ⟨k.os.trans h.os, k.tape.trans h.tape, k.output.trans h.output, Nat.le_trans h.size k.size, fun i hi h1 h2 => (k.block i (Nat.lt_of_lt_of_le hi h.size) h1 h2).trans (h.block i hi h1 h2)⟩
theorem Kept2.of_grown {w w' : World} {r1 r2 : Option Nat} (h : w.grownBy w' r2) : Kept2 w w' r1 r2 := ⟨h.os, h.tape, h.output, h.size, fun k hk _ h2 => h.block k hk h2⟩
theorem Kept2.below {B : Nat} {a w w' : World} {r1 r2 : Option Nat} (h : Below B a w) (k : Kept2 w w' r1 r2) (hB : B ≤ w.heap.size) (h1 : ∀ q, r1 = some q → B ≤ q) (h2 : ∀ q, r2 = some q → B ≤ q) : Below B a w' :=
  h.trans ⟨k.os, k.tape, k.output, k.size, fun i hi => k.block i (by omega) (fun e => by have := h1 i e.symm; omega) (fun e => by have := h2 i e.symm; omega)⟩
theorem Kept2.alloc (w : World) (o : Obj) (r1 r2 : Option Nat) : Kept2 w (w.alloc o) r1 r2 := by
  have h := (Below.refl w.heap.size w).alloc (Nat.le_refl _) o
  exact ⟨h.os, h.tape, h.output, h.size, fun k hk _ _ => h.block k hk⟩
theorem Kept2.setCell {w : World} {b : Nat} {r2 : Option Nat} (i : Nat) (v : Value) : Kept2 w (w.setCell ⟨b, i, none⟩ v) (some b) r2 :=
  ⟨rfl, rfl, rfl, by simp [World.setCell], fun k _ h1 _ => Below.heap_setCell _ _ _ _ (fun e => h1 (by simp at e; rw [e]))⟩
theorem own_kept2 {w w' : World} {B s : Nat} {t : TypeId} {u : Value} {n : Nat} {l : List Value} {r1 r2 : Option Nat} (hu : w.ownsRow B t s u n l) (k : Kept2 w w' r1 r2) (h1 : ∀ q, u.ownBlock = some q → r1 ≠ some q) (h2 : ∀ q, u.ownBlock = some q → r2 ≠ some q) : w'.ownsRow B t s u n l := by
  obtain ⟨e1, e2⟩ := hu
  refine ⟨e1, ?_⟩
  rcases e2 with e2 | ⟨g, cap, cur, e, hb, hgg, hr⟩
  · exact .inl e2
  · refine .inr ⟨g, cap, cur, e, hb, ?_, hr⟩
    rw [k.block g (block_lt hgg) (fun e' => h1 g (by rw [e]; rfl) e'.symm) (fun e' => h2 g (by rw [e]; rfl) e'.symm)]
    exact hgg
/-- a builder, its row not yet read by String -/
structure Bd (B b : Nat) (v : Value) (l : List UInt8) (w : World) : Prop where
  cells : w.heap[b]? = some (.cells #[.pointer none, v] 74 (0, 0)) ∨ w.heap[b]? = some (.cells #[.pointer (some ⟨b, 0, none⟩), v] 74 (0, 0))
  own : w.ownsRow B 5 1 v l.length (Lib.byteCells l)
  nil : l = [] → v = .slice none 0 0
theorem Bd.ne {B b : Nat} {v : Value} {l : List UInt8} {w : World} (h : Bd B b v l w) : ∀ q, v.ownBlock = some q → q ≠ b := by
  intro q hq e
  subst e
  obtain ⟨-, cur, hc⟩ := own_typ1 h.own hq
  rcases h.cells with k | k
  · rw [hc] at k
    injection k with k
    injection k with _ k _
    exact absurd k (by decide)
  · rw [hc] at k
    injection k with k
    injection k with _ k _
    exact absurd k (by decide)
theorem Bd.kept {B b : Nat} {v : Value} {l : List UInt8} {w w' : World} {r1 r2 : Option Nat} (h : Bd B b v l w) (k : Kept2 w w' r1 r2) (g1 : some b ≠ r1) (g2 : some b ≠ r2) (h1 : ∀ q, v.ownBlock = some q → r1 ≠ some q) (h2 : ∀ q, v.ownBlock = some q → r2 ≠ some q) : Bd B b v l w' := by
  have hlt : b < w.heap.size := by rcases h.cells with e | e <;> exact block_lt e
  exact ⟨by rw [k.block b hlt g1 g2]; exact h.cells, own_kept2 h.own k h1 h2, h.nil⟩
def CkPost (b : Nat) (v : Value) (w : World) (e : Ending) (w' : World) : Prop :=
  e = .returned (.tuple #[]) ∧ w'.heap[b]? = some (.cells #[.pointer (some ⟨b, 0, none⟩), v] 74 (0, 0)) ∧ Kept2 w w' (some b) none
theorem check_own (B b : Nat) (v : Value) (l : List UInt8) (w : World) (h : Bd B b v l w) : Calls Tryd.prog 68 #[.pointer (some ⟨b, 0, none⟩)] w (CkPost b v w) := by
  rcases h.cells with hc | hc
  · refine (Any.Builder_copyCheck_fresh Tryd.lays240 Tryd.Builder_X72_240 b w (block_cell hc 0) (by simp [World.shape?, hc]; rfl) (block_free hc 0)).mono ?_
    rintro e w' ⟨rfl, rfl⟩
    exact ⟨rfl, block_setCell hc 0 _, Kept2.setCell 0 _⟩
  · refine (Any.Builder_copyCheck_used Tryd.lays240 Tryd.Builder_X72_240 b w (block_cell hc 0)).mono ?_
    rintro e w' ⟨rfl, rfl⟩
    exact ⟨rfl, hc, Kept2.refl _ _ _⟩
theorem wpList_append_str_at2 {P : Program} {w : World} {ops : Array Oper} {rest : List Oper} {o : Oper} {a : Act} {Q : Exit → Act → World → Prop} (hgd : o.guard = none) (sl x : Operand) (t u : TypeId)
    (ho : o.op = .call { callee := .builtin .append, args := #[sl, x], argTypes := #[t, u] })
    (base : Nat) (e : TypeId) (i : TypeInfo) (ht : P.underlying t = some (.slice e)) (hu : P.underlying u = some .string) (hi : P.info? e = some i) (hz : i.zero = some (.int .u8 0))
    (hsize : i.size = 1) (hby : i.bytes = 1)
    (v : Value) (n : Nat) (xs : List Value) (hs : a.eval sl = v) (hown : w.ownsRow base e 1 v n xs) (s : ByteArray) (hx : a.eval x = .string s)
    (h63 : n + s.size ≤ maxLen) (hbytes : n + s.size ≤ 140737488355328) (hbase : base ≤ w.heap.size)
    (h : ∀ v' w', w'.ownsRow base e 1 v' (n + s.size) (xs ++ Lib.strCells s) → w.grownBy w' v.ownBlock → NewAt w v v' → (v = .slice none 0 0 → s.size = 0 → v' = .slice none 0 0) → wpList P ops Q rest (a.put o.dst v') w') : wpList P ops Q (o :: rest) a w := by
  refine wpList_plain hgd fun K hK => ?_
  obtain ⟨v', w', hr, h2, h3, h4⟩ := run_append_str_at (P := P) (w := w) base t u o.type e i ht hu hi hz hsize hby v n xs hown s h63 hbytes hbase
  have h5 : v = .slice none 0 0 → s.size = 0 → v' = .slice none 0 0 := by
    obtain ⟨v2, w2, hr2, -, -, d⟩ := Lib.run_append_own_string (P := P) w base t u o.type e i ht hu hi hz hsize hby v n xs hown s h63 hbytes hbase
    rw [hr] at hr2
    injection hr2 with e1 e2
    subst e1 e2
    exact fun k1 k2 => d.2 ⟨k1, k2⟩
  unfold Oper.wp execOp
  simp only [ho, resolve, invoke, builtin, Sem.run_bind, Sem.run_pure, Result.andThen_ok, List.map_toArray, List.map_cons, List.map_nil, hs, hx, hr]
  exact hK _ _ (h v' w' h2 h3 h4 h5)
def WrPost (B b : Nat) (v : Value) (l : List UInt8) (s : ByteArray) (w : World) (e : Ending) (w' : World) : Prop :=
  e = .returned (.tuple #[.int .i64 s.size, .nilIface]) ∧ ∃ v', Bd B b v' (l ++ s.data.toList) w' ∧ Kept2 w w' (some b) v.ownBlock ∧ NewAt w v v'
set_option maxRecDepth 100000 in
set_option maxHeartbeats 4000000 in
theorem write_own (B b : Nat) (v : Value) (l : List UInt8) (s : ByteArray) (w : World) (h : Bd B b v l w) (hBw : B ≤ w.heap.size) (hl : l.length + s.size ≤ 140737488355328) :
    Calls Tryd.prog 55 #[.pointer (some ⟨b, 0, none⟩), .string s] w (WrPost B b v l s w) := by
  obtain ⟨i1, hi1, hy0, hy1, hy2⟩ := info_parts infoU8
  have HC := Lib.hid (check_own B b v l w h)
  have HD := Lib.hid h
  have HNE := Lib.hid h.ne
  clear h
  go_enter Tryd.func55, Tryd.ntmps55
  go_wp2_with fail
  refine (HC.out).mono ?_; rintro e w1 ⟨rfl, hc1, hk1⟩
  have HK1 := Lib.hid hk1
  have HC1 := Lib.hid hc1
  have q1 := block_cell hc1 1
  have HO1 := Lib.hid (own_kept2 HD.out.own hk1 (fun q hq e => HNE.out q hq (by injection e with e; exact e.symm)) (fun q _ e => by cases e))
  have hs1 : B ≤ w1.heap.size := Nat.le_trans hBw hk1.size
  clear hk1 hc1
  simp at q1
  go_wp2_with (at_builtin; refine wpList_append_str_at2 rfl _ _ 47 9 rfl B 5 i1 Tryd.underlying47 Tryd.underlying9 hi1 hy0 hy1 hy2 _ l.length _ rfl HO1.out s rfl (by unfold maxLen; omega) (by omega) hs1 ?c1)
  case c1 =>
    intro v4 w4 hown4 hgrow4 hnew4 hnil4
    have HNIL := Lib.hid (show l ++ s.data.toList = [] → v4 = .slice none 0 0 from fun e => by
      obtain ⟨e1, e2⟩ := List.append_eq_nil_iff.1 e
      have e3 := congrArg List.length e2
      rw [Array.length_toList] at e3
      exact hnil4 (HD.out.nil e1) (by rw [str_empty (t := s) e3]; rfl))
    obtain ⟨ao4, cap4, rfl, -⟩ := own_form hown4
    have HBK := Lib.hid (show w4.heap[b]? = some (.cells #[.pointer (some ⟨b, 0, none⟩), v] 74 (0, 0)) by
      rw [hgrow4.block b (block_lt HC1.out) (fun e => HNE.out b e.symm rfl)]
      exact HC1.out)
    have q4 := block_cell HBK.out 1
    have f4 := block_free HBK.out 1
    simp at q4
    have HO4 := Lib.hid (own_bytes hown4)
    have HK4 := Lib.hid (show Kept2 w1 w4 (some b) v.ownBlock from Kept2.of_grown hgrow4)
    have HN4 := Lib.hid (show NewAt w v (.slice ao4 (l.length + s.size) cap4) by
      rcases hnew4 with e | ⟨q, e, hq⟩
      · exact .inl e
      · exact .inr ⟨q, e, Nat.le_trans HK1.out.size hq⟩)
    clear hown4 hgrow4 hnew4 hnil4
    go_wp2_with fail
    go_ret2
    have hb5 := block_setCell HBK.out 1 (.slice ao4 (l.length + s.size) cap4)
    refine ⟨rfl, _, ⟨.inr hb5, ?_, fun e => ?_⟩, ?_, HN4.out⟩
    · refine own_kept2 (r2 := none) HO4.out (Kept2.setCell 1 _) (fun q hq e => ?_) (fun q _ e => by cases e)
      injection e with e
      subst e
      obtain ⟨-, cur, hc⟩ := own_typ1 HO4.out hq
      rw [hc] at HBK
      have k := HBK.out
      injection k with k
      injection k with _ k _
      exact absurd k (by decide)
    · exact HNIL.out e
    · exact ((show Kept2 w w1 (some b) v.ownBlock from ⟨HK1.out.os, HK1.out.tape, HK1.out.output, HK1.out.size, fun k hk h1 _ => HK1.out.block k hk h1 (by simp)⟩).trans HK4.out).trans (Kept2.setCell 1 _)
/-- String: the bytes; its own row alone is touched -/
def StPost (v : Value) (l : List UInt8) (w : World) (e : Ending) (w' : World) : Prop :=
  e = .returned (.string ⟨l.toArray⟩) ∧ Kept2 w w' none v.ownBlock
theorem kept_freeze (w : World) (g n : Nat) : Kept2 w (w.freeze ⟨g, 0, none⟩ n) none (some g) := by
  have hs : (w.freeze ⟨g, 0, none⟩ n).heap.size = w.heap.size := by
    unfold World.freeze
    split <;> simp
  refine ⟨?_, ?_, ?_, by rw [hs]; exact Nat.le_refl _, fun k hk _ h2 => ?_⟩
  · unfold World.freeze; split <;> rfl
  · unfold World.freeze; split <;> rfl
  · unfold World.freeze; split <;> rfl
  · unfold World.freeze
    split
    · rfl
    · simp only [Array.getElem?_modify]
      rw [if_neg (fun e => h2 (by rw [e]))]
theorem kept_drew (w : World) (r1 r2 : Option Nat) : Kept2 w w.drew r1 r2 := ⟨rfl, rfl, rfl, Nat.le_refl _, fun _ _ _ _ => rfl⟩
set_option maxRecDepth 100000 in
set_option maxHeartbeats 4000000 in
theorem string_own (B b : Nat) (v : Value) (l : List UInt8) (w : World) (h : Bd B b v l w) :
    Calls Tryd.prog 58 #[.pointer (some ⟨b, 0, none⟩)] w (StPost v l w) := by
  obtain ⟨p, hbk⟩ : ∃ p, w.heap[b]? = some (.cells #[p, v] 74 (0, 0)) := by
    rcases h.cells with e | e
    · exact ⟨_, e⟩
    · exact ⟨_, e⟩
  by_cases h0 : l = []
  · obtain rfl := h.nil h0
    subst h0
    have hUS : ∀ (W : World) (q : Option Addr), (Builtin.unsafeString_ #[90, 3] 9 #[.pointer q, .int .i64 0]).run Tryd.prog W = .ok (.string .empty) W := fun W q => Lib.run_unsafeString_none W _ _ _ q
    have c1 : w.drew.cell? ⟨b, 1, none⟩ = some (.slice none 0 0) := by
      have : w.drew.heap[b]? = some (.cells #[p, .slice none 0 0] 74 (0, 0)) := hbk
      rw [block_cell this]; rfl
    have hSD : (Builtin.unsafeSliceData_ #[47] 90 #[.slice none 0 0]).run Tryd.prog w.drew = .ok (.pointer none) w.drew := rfl
    clear h hbk
    have mixed : Tryd.prog.follows .mixedOrders = true := by kernel_rfl
    go_enter Tryd.func58, Tryd.ntmps58
    go_wp2_with fail
    go_region_o
    all_goals (go_wp2_with fail; go_ret; exact ⟨rfl, kept_drew w _ _⟩)
  · have hl0 : l.length ≠ 0 := fun e => h0 (List.eq_nil_of_length_eq_zero e)
    have hown := h.own
    obtain ⟨g, cap, cur, rfl, hbg, hg, hnc, hcm, hcs, htk⟩ : ∃ g cap cur, v = .slice (some ⟨g, 0, none⟩) l.length cap ∧ B ≤ g ∧ w.heap[g]? = some (.cells cur 5 (0, 0)) ∧ l.length ≤ cap ∧ cap ≤ maxLen ∧ cur.size = cap * 1 ∧ cur.toList.take (l.length * 1) = Lib.byteCells l := by
      rcases hown.2 with ⟨_, hz⟩ | ⟨g, cap, cur, hv, r⟩
      · exact absurd hz hl0
      · exact ⟨g, cap, cur, hv, r⟩
    have c1 : w.drew.cell? ⟨b, 1, none⟩ = some (.slice (some ⟨g, 0, none⟩) l.length cap) := by
      have : w.drew.heap[b]? = some (.cells #[p, .slice (some ⟨g, 0, none⟩) l.length cap] 74 (0, 0)) := hbk
      rw [block_cell this]; rfl
    have hSD : (Builtin.unsafeSliceData_ #[47] 90 #[.slice (some ⟨g, 0, none⟩) l.length cap]).run Tryd.prog w.drew = .ok (.pointer (some ⟨g, 0, none⟩)) w.drew :=
      Lib.run_unsafeSliceData_row _ _ _ _ _ _ (by omega)
    have hUS : (Builtin.unsafeString_ #[90, 3] 9 #[.pointer (some ⟨g, 0, none⟩), .int .i64 l.length]).run Tryd.prog w.drew = .ok (.string ⟨l.toArray⟩) (w.drew.freeze ⟨g, 0, none⟩ l.length) := by
      refine Lib.run_unsafeString_row w.drew 90 3 9 5 Tryd.underlying90 (by kernel_rfl) g cur.size (by have hg' : w.drew.heap[g]? = some (.cells cur 5 (0, 0)) := hg; simp [World.shape?, hg']) l h0 (by omega) (by unfold maxLen at hcm; omega) ?_
      intro j x hx
      exact hown.cells (g := g) rfl j (.int .u8 x.toNat) (by simp [Lib.byteCells, hx])
    have HF := Lib.hid (kept_freeze w.drew g l.length)
    have HD := Lib.hid (kept_drew w none (some g))
    clear h hbk hown hg htk
    have mixed : Tryd.prog.follows .mixedOrders = true := by kernel_rfl
    generalize w.drew.freeze ⟨g, 0, none⟩ l.length = wf at *
    go_enter Tryd.func58, Tryd.ntmps58
    go_wp2_with fail
    go_region_o
    all_goals (go_wp2_with fail; go_ret; exact ⟨rfl, HD.out.trans HF.out⟩)
end Go.Proofs.YtfbjbgknfdekfaaDoor
