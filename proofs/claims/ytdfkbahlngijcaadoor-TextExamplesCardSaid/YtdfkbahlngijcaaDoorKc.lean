/- Text: strings.Builder: what its calls touch. Text: operations: plain; script.fields: its walk. Text: slices.Contains over fields; the closure of script.plain: their walks. Text: script.plain: its walk. Diff: common beginnings: plain model; boundaries of the program and of the reference. A byte of a string in its list. Diff: the program's announced, length, Decode, Valid: their walks. Diff: the program's Decode and Valid: their walks. Diff: valid UTF-8: plain laws; the program's Valid: its walk. Text: store.within and store.Check: their walks. Text: script.size: its walk; the sizes of operations. Text: script.length: its walk. Text: script.Check in general. Text: script.Check in general: its walk. Text: text.plain. Text: text.words. Text: a kind's name and letters. Text: operations: their lines, in plain words. Text: a map of strings with rune keys that the call makes, in a region that draws its order. Text: strings.Cut at a blank, without a look at the greatest length. Text: text.Op: its walk. Text: the lines of a script: plain. -/
import Derived.Test.YtdfkbahlngijcaaDoorKb
import Derived.Test.YtdfkbahlngijcaaDoorSh
import Derived.Deep.CutRange
import Derived.Deep.DeepCutAuto
import Derived.Test.YtdfkbahlngijcaaDoorKa
import Derived.MapKept
import Derived.Lib.OthersKept
namespace Go.Proofs.YtdfkbahlngijcaaDoor
open Go.RowKit
set_option linter.unusedVariables false

theorem own_form {w : World} {B s : Nat} {e : TypeId} {v : Value} {n : Nat} {xs : List Value} (h : w.ownsRow B e s v n xs) : ∃ ao cap, v = .slice ao n cap ∧ (0 < n → ∃ g, ao = some ⟨g, 0, none⟩) := by
  rcases h.2 with ⟨h1, h2⟩ | ⟨g, cap, cur, h1, _⟩
  · exact ⟨none, 0, by rw [h1, h2], fun h => by omega⟩
  · exact ⟨_, cap, h1, fun _ => ⟨g, rfl⟩⟩
theorem str_cells (t : ByteArray) : Lib.strCells t = Lib.byteCells t.data.toList := by
  rw [← strCells_bytes]
/-- where an appended row lies: where it lay, or in a new block -/
def NewAt (w : World) (v v' : Value) : Prop := v'.ownBlock = v.ownBlock ∨ ∃ q, v'.ownBlock = some q ∧ w.heap.size ≤ q
theorem run_append_str_at {P : Program} {w : World} (base : Nat) (t u ty e : TypeId) (i : TypeInfo) (ht : P.underlying t = some (.slice e)) (hu : P.underlying u = some .string) (hi : P.info? e = some i) (hz : i.zero = some (.int .u8 0))
    (hsize : i.size = 1) (hby : i.bytes = 1) (v : Value) (n : Nat) (xs : List Value) (hown : w.ownsRow base e 1 v n xs) (s : ByteArray)
    (h63 : n + s.size ≤ maxLen) (hbytes : n + s.size ≤ 140737488355328) (hbase : base ≤ w.heap.size) :
    ∃ v' w', (Builtin.append_ #[t, u] ty #[v, .string s]).run P w = .ok v' w' ∧ w'.ownsRow base e 1 v' (n + s.size) (xs ++ Lib.strCells s) ∧ w.grownBy w' v.ownBlock ∧ NewAt w v v' := by
  obtain ⟨v', w', hr, h1, h2, h3⟩ := Lib.run_append_own_string (P := P) w base t u ty e i ht hu hi hz hsize hby v n xs hown s h63 hbytes hbase
  refine ⟨v', w', hr, h1, h2, ?_⟩
  have hxl : xs.length = n * 1 := hown.1
  rcases hown.2 with ⟨rfl, rfl⟩ | ⟨g, cap, cur, rfl, hbg, hg, hnc, hcm, hcs, htake⟩
  · obtain ⟨v2, w2, hr2, k1, k2, k3⟩ := Lib.run_append_own_string (P := P) w w.heap.size t u ty e i ht hu hi hz hsize hby (.slice none 0 0) 0 xs ⟨hown.1, .inl ⟨rfl, rfl⟩⟩ s h63 hbytes (Nat.le_refl _)
    rw [hr] at hr2
    injection hr2 with e1 e2
    subst e1 e2
    rcases k1.2 with ⟨k, -⟩ | ⟨g, cap, cur, k, hb, -⟩
    · exact .inl (by rw [k])
    · exact .inr ⟨g, by rw [k]; rfl, hb⟩
  · by_cases hroom : n + s.size ≤ cap
    · have hr2 := Lib.run_append_room_string (P := P) w t u ty e i ht hu hi hsize g n cap cur hg s hroom (by omega)
      rw [hr] at hr2
      injection hr2 with e1 e2
      exact .inl (by rw [e1]; rfl)
    · have hr2 := Lib.run_append_grow_string (P := P) w t u ty e i (.int .u8 0) ht hu hi hz ⟨g, 0, none⟩ n cap xs (by rw [hsize]; exact hxl) (hown.cells (g := g) rfl) s (by omega) (by unfold maxLen at h63; omega) (by rw [hby]; exact growslice_fits (by omega) (by unfold maxLen at hcm; omega))
      rw [hr] at hr2
      injection hr2 with e1 e2
      exact .inr ⟨w.heap.size, by rw [e1]; rfl, Nat.le_refl _⟩
theorem own_bytes {w : World} {B : Nat} {v : Value} {o : List UInt8} {s : ByteArray} (h : w.ownsRow B 5 1 v (o.length + s.size) (Lib.byteCells o ++ Lib.strCells s)) : w.ownsRow B 5 1 v (o ++ s.data.toList).length (Lib.byteCells (o ++ s.data.toList)) := by
  rw [List.length_append, ← byteCells_app, ← str_cells]
  exact own_len h (by rw [show s.data.toList.length = s.size from Array.length_toList ..])
/-- all blocks but two are as they were -/
structure Kept2 (w w' : World) (r1 r2 : Option Nat) : Prop where
  os : w'.os = w.os
  tape : w'.tape = w.tape
  output : w'.output = w.output
  size : w.heap.size ≤ w'.heap.size
  block : ∀ k, k < w.heap.size → some k ≠ r1 → some k ≠ r2 → w'.heap[k]? = w.heap[k]?
theorem Kept2.refl (w : World) (r1 r2 : Option Nat) : Kept2 w w r1 r2 := ⟨rfl, rfl, rfl, Nat.le_refl _, fun _ _ _ _ => rfl⟩
theorem Kept2.trans {w w1 w2 : World} {r1 r2 : Option Nat} (h : Kept2 w w1 r1 r2) (k : Kept2 w1 w2 r1 r2) : Kept2 w w2 r1 r2 :=
  ⟨k.os.trans h.os, k.tape.trans h.tape, k.output.trans h.output, Nat.le_trans h.size k.size, fun i hi h1 h2 => (k.block i (Nat.lt_of_lt_of_le hi h.size) h1 h2).trans (h.block i hi h1 h2)⟩
theorem Kept2.of_grown {w w' : World} {r1 r2 : Option Nat} (h : w.grownBy w' r2) : Kept2 w w' r1 r2 := ⟨h.os, h.tape, h.output, h.size, fun k hk _ h2 => h.block k hk h2⟩
theorem Kept2.below {B : Nat} {a w w' : World} {r1 r2 : Option Nat} (h : Below B a w) (k : Kept2 w w' r1 r2) (hB : B ≤ w.heap.size) (h1 : ∀ q, r1 = some q → B ≤ q) (h2 : ∀ q, r2 = some q → B ≤ q) : Below B a w' :=
  h.trans ⟨k.os, k.tape, k.output, k.size, fun i hi => k.block i (by omega) (fun e => by have := h1 i e.symm; omega) (fun e => by have := h2 i e.symm; omega)⟩
theorem Kept2.alloc (w : World) (o : Obj) (r1 r2 : Option Nat) : Kept2 w (w.alloc o) r1 r2 := by
  have h := (Below.refl w.heap.size w).alloc (Nat.le_refl _) o
  exact ⟨h.os, h.tape, h.output, h.size, fun k hk _ _ => h.block k hk⟩
theorem Kept2.setCell {w : World} {b : Nat} {r2 : Option Nat} (i : Nat) (v : Value) : Kept2 w (w.setCell ⟨b, i, none⟩ v) (some b) r2 :=
  ⟨rfl, rfl, rfl, by simp [World.setCell], fun k _ h1 _ => Below.heap_setCell _ _ _ _ (fun e => h1 (by simp at e; rw [e]))⟩
theorem own_kept2 {w w' : World} {B s : Nat} {t : TypeId} {u : Value} {n : Nat} {l : List Value} {r1 r2 : Option Nat} (hu : w.ownsRow B t s u n l) (k : Kept2 w w' r1 r2) (h1 : ∀ q, u.ownBlock = some q → r1 ≠ some q) (h2 : ∀ q, u.ownBlock = some q → r2 ≠ some q) : w'.ownsRow B t s u n l := by
  obtain ⟨e1, e2⟩ := hu
  refine ⟨e1, ?_⟩
  rcases e2 with e2 | ⟨g, cap, cur, e, hb, hgg, hr⟩
  · exact .inl e2
  · refine .inr ⟨g, cap, cur, e, hb, ?_, hr⟩
    rw [k.block g (block_lt hgg) (fun e' => h1 g (by rw [e]; rfl) e'.symm) (fun e' => h2 g (by rw [e]; rfl) e'.symm)]
    exact hgg
/-- a builder, its row not yet read by String -/
structure Bd (B b : Nat) (v : Value) (l : List UInt8) (w : World) : Prop where
  cells : w.heap[b]? = some (.cells #[.pointer none, v] 75 (0, 0)) ∨ w.heap[b]? = some (.cells #[.pointer (some ⟨b, 0, none⟩), v] 75 (0, 0))
  own : w.ownsRow B 5 1 v l.length (Lib.byteCells l)
  nil : l = [] → v = .slice none 0 0
theorem Bd.ne {B b : Nat} {v : Value} {l : List UInt8} {w : World} (h : Bd B b v l w) : ∀ q, v.ownBlock = some q → q ≠ b := by
  intro q hq e
  subst e
  obtain ⟨-, cur, hc⟩ := own_typ1 h.own hq
  rcases h.cells with k | k
  · rw [hc] at k
    injection k with k
    injection k with _ k _
    exact absurd k (by decide)
  · rw [hc] at k
    injection k with k
    injection k with _ k _
    exact absurd k (by decide)
theorem Bd.kept {B b : Nat} {v : Value} {l : List UInt8} {w w' : World} {r1 r2 : Option Nat} (h : Bd B b v l w) (k : Kept2 w w' r1 r2) (g1 : some b ≠ r1) (g2 : some b ≠ r2) (h1 : ∀ q, v.ownBlock = some q → r1 ≠ some q) (h2 : ∀ q, v.ownBlock = some q → r2 ≠ some q) : Bd B b v l w' := by
  have hlt : b < w.heap.size := by rcases h.cells with e | e <;> exact block_lt e
  exact ⟨by rw [k.block b hlt g1 g2]; exact h.cells, own_kept2 h.own k h1 h2, h.nil⟩
def CkPost (b : Nat) (v : Value) (w : World) (e : Ending) (w' : World) : Prop :=
  e = .returned (.tuple #[]) ∧ w'.heap[b]? = some (.cells #[.pointer (some ⟨b, 0, none⟩), v] 75 (0, 0)) ∧ Kept2 w w' (some b) none
theorem check_own (B b : Nat) (v : Value) (l : List UInt8) (w : World) (h : Bd B b v l w) : Calls Tryd.prog 73 #[.pointer (some ⟨b, 0, none⟩)] w (CkPost b v w) := by
  rcases h.cells with hc | hc
  · refine (Any.Builder_copyCheck_fresh Tryd.lays240 Tryd.Builder_X72_240 b w (block_cell hc 0) (by simp [World.shape?, hc]; rfl) (block_free hc 0)).mono ?_
    rintro e w' ⟨rfl, rfl⟩
    exact ⟨rfl, block_setCell hc 0 _, Kept2.setCell 0 _⟩
  · refine (Any.Builder_copyCheck_used Tryd.lays240 Tryd.Builder_X72_240 b w (block_cell hc 0)).mono ?_
    rintro e w' ⟨rfl, rfl⟩
    exact ⟨rfl, hc, Kept2.refl _ _ _⟩
theorem wpList_append_str_at2 {P : Program} {w : World} {ops : Array Oper} {rest : List Oper} {o : Oper} {a : Act} {Q : Exit → Act → World → Prop} (hgd : o.guard = none) (sl x : Operand) (t u : TypeId)
    (ho : o.op = .call { callee := .builtin .append, args := #[sl, x], argTypes := #[t, u] })
    (base : Nat) (e : TypeId) (i : TypeInfo) (ht : P.underlying t = some (.slice e)) (hu : P.underlying u = some .string) (hi : P.info? e = some i) (hz : i.zero = some (.int .u8 0))
    (hsize : i.size = 1) (hby : i.bytes = 1)
    (v : Value) (n : Nat) (xs : List Value) (hs : a.eval sl = v) (hown : w.ownsRow base e 1 v n xs) (s : ByteArray) (hx : a.eval x = .string s)
    (h63 : n + s.size ≤ maxLen) (hbytes : n + s.size ≤ 140737488355328) (hbase : base ≤ w.heap.size)
    (h : ∀ v' w', w'.ownsRow base e 1 v' (n + s.size) (xs ++ Lib.strCells s) → w.grownBy w' v.ownBlock → NewAt w v v' → (v = .slice none 0 0 → s.size = 0 → v' = .slice none 0 0) → wpList P ops Q rest (a.put o.dst v') w') : wpList P ops Q (o :: rest) a w := by
  refine wpList_plain hgd fun K hK => ?_
  obtain ⟨v', w', hr, h2, h3, h4⟩ := run_append_str_at (P := P) (w := w) base t u o.type e i ht hu hi hz hsize hby v n xs hown s h63 hbytes hbase
  have h5 : v = .slice none 0 0 → s.size = 0 → v' = .slice none 0 0 := by
    obtain ⟨v2, w2, hr2, -, -, d⟩ := Lib.run_append_own_string (P := P) w base t u o.type e i ht hu hi hz hsize hby v n xs hown s h63 hbytes hbase
    rw [hr] at hr2
    injection hr2 with e1 e2
    subst e1 e2
    exact fun k1 k2 => d.2 ⟨k1, k2⟩
  unfold Oper.wp execOp
  simp only [ho, resolve, invoke, builtin, Sem.run_bind, Sem.run_pure, Result.andThen_ok, List.map_toArray, List.map_cons, List.map_nil, hs, hx, hr]
  exact hK _ _ (h v' w' h2 h3 h4 h5)
def WrPost (B b : Nat) (v : Value) (l : List UInt8) (s : ByteArray) (w : World) (e : Ending) (w' : World) : Prop :=
  e = .returned (.tuple #[.int .i64 s.size, .nilIface]) ∧ ∃ v', Bd B b v' (l ++ s.data.toList) w' ∧ Kept2 w w' (some b) v.ownBlock ∧ NewAt w v v'
set_option maxRecDepth 100000 in
set_option maxHeartbeats 4000000 in
theorem write_own (B b : Nat) (v : Value) (l : List UInt8) (s : ByteArray) (w : World) (h : Bd B b v l w) (hBw : B ≤ w.heap.size) (hl : l.length + s.size ≤ 140737488355328) :
    Calls Tryd.prog 37 #[.pointer (some ⟨b, 0, none⟩), .string s] w (WrPost B b v l s w) := by
  obtain ⟨i1, hi1, hy0, hy1, hy2⟩ := info_parts infoU8
  have HC := Lib.hid (check_own B b v l w h)
  have HD := Lib.hid h
  have HNE := Lib.hid h.ne
  clear h
  go_enter Tryd.func37, Tryd.ntmps37
  go_wp2_with fail
  refine (HC.out).mono ?_; rintro e w1 ⟨rfl, hc1, hk1⟩
  have HK1 := Lib.hid hk1
  have HC1 := Lib.hid hc1
  have q1 := block_cell hc1 1
  have HO1 := Lib.hid (own_kept2 HD.out.own hk1 (fun q hq e => HNE.out q hq (by injection e with e; exact e.symm)) (fun q _ e => by cases e))
  have hs1 : B ≤ w1.heap.size := Nat.le_trans hBw hk1.size
  clear hk1 hc1
  simp at q1
  go_wp2_with (at_builtin; refine wpList_append_str_at2 rfl _ _ 73 9 rfl B 5 i1 Tryd.underlying73 Tryd.underlying9 hi1 hy0 hy1 hy2 _ l.length _ rfl HO1.out s rfl (by unfold maxLen; omega) (by omega) hs1 ?c1)
  case c1 =>
    intro v4 w4 hown4 hgrow4 hnew4 hnil4
    have HNIL := Lib.hid (show l ++ s.data.toList = [] → v4 = .slice none 0 0 from fun e => by
      obtain ⟨e1, e2⟩ := List.append_eq_nil_iff.1 e
      have e3 := congrArg List.length e2
      rw [Array.length_toList] at e3
      exact hnil4 (HD.out.nil e1) (by rw [str_empty (t := s) e3]; rfl))
    obtain ⟨ao4, cap4, rfl, -⟩ := own_form hown4
    have HBK := Lib.hid (show w4.heap[b]? = some (.cells #[.pointer (some ⟨b, 0, none⟩), v] 75 (0, 0)) by
      rw [hgrow4.block b (block_lt HC1.out) (fun e => HNE.out b e.symm rfl)]
      exact HC1.out)
    have q4 := block_cell HBK.out 1
    have f4 := block_free HBK.out 1
    simp at q4
    have HO4 := Lib.hid (own_bytes hown4)
    have HK4 := Lib.hid (show Kept2 w1 w4 (some b) v.ownBlock from Kept2.of_grown hgrow4)
    have HN4 := Lib.hid (show NewAt w v (.slice ao4 (l.length + s.size) cap4) by
      rcases hnew4 with e | ⟨q, e, hq⟩
      · exact .inl e
      · exact .inr ⟨q, e, Nat.le_trans HK1.out.size hq⟩)
    clear hown4 hgrow4 hnew4 hnil4
    go_wp2_with fail
    go_ret2
    have hb5 := block_setCell HBK.out 1 (.slice ao4 (l.length + s.size) cap4)
    refine ⟨rfl, _, ⟨.inr hb5, ?_, fun e => ?_⟩, ?_, HN4.out⟩
    · refine own_kept2 (r2 := none) HO4.out (Kept2.setCell 1 _) (fun q hq e => ?_) (fun q _ e => by cases e)
      injection e with e
      subst e
      obtain ⟨-, cur, hc⟩ := own_typ1 HO4.out hq
      rw [hc] at HBK
      have k := HBK.out
      injection k with k
      injection k with _ k _
      exact absurd k (by decide)
    · exact HNIL.out e
    · exact ((show Kept2 w w1 (some b) v.ownBlock from ⟨HK1.out.os, HK1.out.tape, HK1.out.output, HK1.out.size, fun k hk h1 _ => HK1.out.block k hk h1 (by simp)⟩).trans HK4.out).trans (Kept2.setCell 1 _)
/-- String: the bytes; its own row alone is touched -/
def StPost (v : Value) (l : List UInt8) (w : World) (e : Ending) (w' : World) : Prop :=
  e = .returned (.string ⟨l.toArray⟩) ∧ Kept2 w w' none v.ownBlock
theorem kept_freeze (w : World) (g n : Nat) : Kept2 w (w.freeze ⟨g, 0, none⟩ n) none (some g) := by
  have hs : (w.freeze ⟨g, 0, none⟩ n).heap.size = w.heap.size := by
    unfold World.freeze
    split <;> simp
  refine ⟨?_, ?_, ?_, by rw [hs]; exact Nat.le_refl _, fun k hk _ h2 => ?_⟩
  · unfold World.freeze; split <;> rfl
  · unfold World.freeze; split <;> rfl
  · unfold World.freeze; split <;> rfl
  · unfold World.freeze
    split
    · rfl
    · simp only [Array.getElem?_modify]
      rw [if_neg (fun e => h2 (by rw [e]))]
theorem kept_drew (w : World) (r1 r2 : Option Nat) : Kept2 w w.drew r1 r2 := ⟨rfl, rfl, rfl, Nat.le_refl _, fun _ _ _ _ => rfl⟩
set_option maxRecDepth 100000 in
set_option maxHeartbeats 4000000 in
theorem string_own (B b : Nat) (v : Value) (l : List UInt8) (w : World) (h : Bd B b v l w) :
    Calls Tryd.prog 40 #[.pointer (some ⟨b, 0, none⟩)] w (StPost v l w) := by
  obtain ⟨p, hbk⟩ : ∃ p, w.heap[b]? = some (.cells #[p, v] 75 (0, 0)) := by
    rcases h.cells with e | e
    · exact ⟨_, e⟩
    · exact ⟨_, e⟩
  by_cases h0 : l = []
  · obtain rfl := h.nil h0
    subst h0
    have hUS : ∀ (W : World) (q : Option Addr), (Builtin.unsafeString_ #[125, 3] 9 #[.pointer q, .int .i64 0]).run Tryd.prog W = .ok (.string .empty) W := fun W q => Lib.run_unsafeString_none W _ _ _ q
    have c1 : w.drew.cell? ⟨b, 1, none⟩ = some (.slice none 0 0) := by
      have : w.drew.heap[b]? = some (.cells #[p, .slice none 0 0] 75 (0, 0)) := hbk
      rw [block_cell this]; rfl
    have hSD : (Builtin.unsafeSliceData_ #[73] 125 #[.slice none 0 0]).run Tryd.prog w.drew = .ok (.pointer none) w.drew := rfl
    clear h hbk
    have mixed : Tryd.prog.follows .mixedOrders = true := by kernel_rfl
    go_enter Tryd.func40, Tryd.ntmps40
    go_wp2_with fail
    go_region_o
    all_goals (go_wp2_with fail; go_ret; exact ⟨rfl, kept_drew w _ _⟩)
  · have hl0 : l.length ≠ 0 := fun e => h0 (List.eq_nil_of_length_eq_zero e)
    have hown := h.own
    obtain ⟨g, cap, cur, rfl, hbg, hg, hnc, hcm, hcs, htk⟩ : ∃ g cap cur, v = .slice (some ⟨g, 0, none⟩) l.length cap ∧ B ≤ g ∧ w.heap[g]? = some (.cells cur 5 (0, 0)) ∧ l.length ≤ cap ∧ cap ≤ maxLen ∧ cur.size = cap * 1 ∧ cur.toList.take (l.length * 1) = Lib.byteCells l := by
      rcases hown.2 with ⟨_, hz⟩ | ⟨g, cap, cur, hv, r⟩
      · exact absurd hz hl0
      · exact ⟨g, cap, cur, hv, r⟩
    have c1 : w.drew.cell? ⟨b, 1, none⟩ = some (.slice (some ⟨g, 0, none⟩) l.length cap) := by
      have : w.drew.heap[b]? = some (.cells #[p, .slice (some ⟨g, 0, none⟩) l.length cap] 75 (0, 0)) := hbk
      rw [block_cell this]; rfl
    have hSD : (Builtin.unsafeSliceData_ #[73] 125 #[.slice (some ⟨g, 0, none⟩) l.length cap]).run Tryd.prog w.drew = .ok (.pointer (some ⟨g, 0, none⟩)) w.drew :=
      Lib.run_unsafeSliceData_row _ _ _ _ _ _ (by omega)
    have hUS : (Builtin.unsafeString_ #[125, 3] 9 #[.pointer (some ⟨g, 0, none⟩), .int .i64 l.length]).run Tryd.prog w.drew = .ok (.string ⟨l.toArray⟩) (w.drew.freeze ⟨g, 0, none⟩ l.length) := by
      refine Lib.run_unsafeString_row w.drew 125 3 9 5 Tryd.underlying125 (by kernel_rfl) g cur.size (by have hg' : w.drew.heap[g]? = some (.cells cur 5 (0, 0)) := hg; simp [World.shape?, hg']) l h0 (by omega) (by unfold maxLen at hcm; omega) ?_
      intro j x hx
      exact hown.cells (g := g) rfl j (.int .u8 x.toNat) (by simp [Lib.byteCells, hx])
    have HF := Lib.hid (kept_freeze w.drew g l.length)
    have HD := Lib.hid (kept_drew w none (some g))
    clear h hbk hown hg htk
    have mixed : Tryd.prog.follows .mixedOrders = true := by kernel_rfl
    generalize w.drew.freeze ⟨g, 0, none⟩ l.length = wf at *
    go_enter Tryd.func40, Tryd.ntmps40
    go_wp2_with fail
    go_region_o
    all_goals (go_wp2_with fail; go_ret; exact ⟨rfl, HD.out.trans HF.out⟩)
end Go.Proofs.YtdfkbahlngijcaaDoor

namespace Go.Proofs.YtdfkbahlngijcaaDoor
open Go.RowKit
set_option linter.unusedVariables false

structure Ov where
  k : Int
  slot : Int
  at_ : Int
  n : Int
  id : Int
  g : Int
  t : ByteArray
def fO (x : Ov) : List Value := [.int .u8 x.k, .int .i64 x.slot, .int .i64 x.at_, .int .i64 x.n, .int .u32 x.id, .int .u8 x.g, .string x.t]
theorem fO_len (x : Ov) : (fO x).length = 7 := rfl
/-- the fields that a kind uses: 0 slot, 1 at, 2 count, 3 id, 4 gravity, 5 text -/
def fldK : Nat → List Nat
  | 1 => [1, 5]
  | 2 => [1, 2]
  | 3 => [1, 3, 4]
  | 4 => [3]
  | 6 => [0]
  | 7 => [0, 1, 2]
  | 8 => [0, 2]
  | 9 => [0, 2]
  | 10 => [0, 3]
  | 11 => [0, 1]
  | 12 => [0, 2]
  | 13 => [0]
  | _ => []
def fB (f : Nat) : List Value := [.int .u8 f]
theorem fB_len (f : Nat) : (fB f).length = 1 := rfl
theorem fld_cells {w : World} {b : Nat} {T : TypeId} {fr : Nat × Nat} {cs : Array Value} {l : List Nat} (h : w.heap[b]? = some (.cells cs T fr)) (hc : cs.toList = l.map fun f => Value.int .u8 (f : Nat)) : ∀ j (h : j < l.length), w.cell? ⟨b, j, none⟩ = some (.int .u8 (l[j] : Nat)) := by
  intro j hj
  have e : w.cell? ⟨b, j, none⟩ = cs[j]? := by simp [World.cell?, h]
  rw [e, ← Array.getElem?_toList, hc, List.getElem?_map, List.getElem?_eq_getElem hj]
  rfl
def FldPost (l : List Nat) (w : World) (e : Ending) (w' : World) : Prop :=
  ∃ b, e = .returned (.slice (some ⟨b, 0, none⟩) l.length l.length) ∧ (∀ j (h : j < l.length), w'.cell? ⟨b, j, none⟩ = some (.int .u8 (l[j] : Nat))) ∧ b < w'.heap.size ∧ Below w.heap.size w w'
set_option maxRecDepth 100000 in
set_option maxHeartbeats 8000000 in
theorem fields_any (k : Nat) (h1 : 1 ≤ k) (h2 : k ≤ 16) (w : World) : Calls Tryd.prog 88 #[.int .u8 k] w (FldPost (fldK k) w) := by
  go_enter Tryd.func88, Tryd.ntmps88
  go_upto_region 2 with (fail)
  generalize hW : World.alloc (World.alloc _ _) _ = W
  have hB : Below w.heap.size w W := by
    rw [← hW]
    repeat first | exact Below.refl _ _ | refine Below.alloc ?_ (by simp; try omega) _
  have e0 : W.heap[w.heap.size]? = some (.cells #[.int .u8 1, .int .u8 5] 139 (0, 0)) := by
    rw [← hW]
    exact (block_alloc (block_alloc (block_alloc (block_alloc (block_alloc (block_alloc (block_alloc (block_alloc (block_alloc (block_alloc (block_alloc (block_alloc (block_alloc (block_alloc (block_alloc (block_alloc (block_new' _ _ _ (by simp)) _) _) _) _) _) _) _) _) _) _) _) _) _) _) _) _)
  have e1 : W.heap[w.heap.size + 1]? = some (.cells #[.int .u8 1, .int .u8 2] 139 (0, 0)) := by
    rw [← hW]
    exact (block_alloc (block_alloc (block_alloc (block_alloc (block_alloc (block_alloc (block_alloc (block_alloc (block_alloc (block_alloc (block_alloc (block_alloc (block_alloc (block_alloc (block_alloc (block_new' _ _ _ (by simp)) _) _) _) _) _) _) _) _) _) _) _) _) _) _) _)
  have e2 : W.heap[w.heap.size + 1 + 1]? = some (.cells #[.int .u8 1, .int .u8 3, .int .u8 4] 139 (0, 0)) := by
    rw [← hW]
    exact (block_alloc (block_alloc (block_alloc (block_alloc (block_alloc (block_alloc (block_alloc (block_alloc (block_alloc (block_alloc (block_alloc (block_alloc (block_alloc (block_alloc (block_new' _ _ _ (by simp)) _) _) _) _) _) _) _) _) _) _) _) _) _) _)
  have e3 : W.heap[w.heap.size + 1 + 1 + 1]? = some (.cells #[.int .u8 3] 139 (0, 0)) := by
    rw [← hW]
    exact (block_alloc (block_alloc (block_alloc (block_alloc (block_alloc (block_alloc (block_alloc (block_alloc (block_alloc (block_alloc (block_alloc (block_alloc (block_alloc (block_new' _ _ _ (by simp)) _) _) _) _) _) _) _) _) _) _) _) _) _)
  have e4 : W.heap[w.heap.size + 1 + 1 + 1 + 1]? = some (.cells #[] 139 (0, 0)) := by
    rw [← hW]
    exact (block_alloc (block_alloc (block_alloc (block_alloc (block_alloc (block_alloc (block_alloc (block_alloc (block_alloc (block_alloc (block_alloc (block_alloc (block_new' _ _ _ (by simp)) _) _) _) _) _) _) _) _) _) _) _) _)
  have e5 : W.heap[w.heap.size + 1 + 1 + 1 + 1 + 1]? = some (.cells #[.int .u8 0] 139 (0, 0)) := by
    rw [← hW]
    exact (block_alloc (block_alloc (block_alloc (block_alloc (block_alloc (block_alloc (block_alloc (block_alloc (block_alloc (block_alloc (block_alloc (block_new' _ _ _ (by simp)) _) _) _) _) _) _) _) _) _) _) _)
  have e6 : W.heap[w.heap.size + 1 + 1 + 1 + 1 + 1 + 1]? = some (.cells #[.int .u8 0, .int .u8 1, .int .u8 2] 139 (0, 0)) := by
    rw [← hW]
    exact (block_alloc (block_alloc (block_alloc (block_alloc (block_alloc (block_alloc (block_alloc (block_alloc (block_alloc (block_alloc (block_new' _ _ _ (by simp)) _) _) _) _) _) _) _) _) _) _)
  have e7 : W.heap[w.heap.size + 1 + 1 + 1 + 1 + 1 + 1 + 1]? = some (.cells #[.int .u8 0, .int .u8 2] 139 (0, 0)) := by
    rw [← hW]
    exact (block_alloc (block_alloc (block_alloc (block_alloc (block_alloc (block_alloc (block_alloc (block_alloc (block_alloc (block_new' _ _ _ (by simp)) _) _) _) _) _) _) _) _) _)
  have e8 : W.heap[w.heap.size + 1 + 1 + 1 + 1 + 1 + 1 + 1 + 1]? = some (.cells #[.int .u8 0, .int .u8 2] 139 (0, 0)) := by
    rw [← hW]
    exact (block_alloc (block_alloc (block_alloc (block_alloc (block_alloc (block_alloc (block_alloc (block_alloc (block_new' _ _ _ (by simp)) _) _) _) _) _) _) _) _)
  have e9 : W.heap[w.heap.size + 1 + 1 + 1 + 1 + 1 + 1 + 1 + 1 + 1]? = some (.cells #[.int .u8 0, .int .u8 3] 139 (0, 0)) := by
    rw [← hW]
    exact (block_alloc (block_alloc (block_alloc (block_alloc (block_alloc (block_alloc (block_alloc (block_new' _ _ _ (by simp)) _) _) _) _) _) _) _)
  have e10 : W.heap[w.heap.size + 1 + 1 + 1 + 1 + 1 + 1 + 1 + 1 + 1 + 1]? = some (.cells #[.int .u8 0, .int .u8 1] 139 (0, 0)) := by
    rw [← hW]
    exact (block_alloc (block_alloc (block_alloc (block_alloc (block_alloc (block_alloc (block_new' _ _ _ (by simp)) _) _) _) _) _) _)
  have e11 : W.heap[w.heap.size + 1 + 1 + 1 + 1 + 1 + 1 + 1 + 1 + 1 + 1 + 1]? = some (.cells #[.int .u8 0, .int .u8 2] 139 (0, 0)) := by
    rw [← hW]
    exact (block_alloc (block_alloc (block_alloc (block_alloc (block_alloc (block_new' _ _ _ (by simp)) _) _) _) _) _)
  have e12 : W.heap[w.heap.size + 1 + 1 + 1 + 1 + 1 + 1 + 1 + 1 + 1 + 1 + 1 + 1]? = some (.cells #[.int .u8 0] 139 (0, 0)) := by
    rw [← hW]
    exact (block_alloc (block_alloc (block_alloc (block_alloc (block_new' _ _ _ (by simp)) _) _) _) _)
  have e13 : W.heap[w.heap.size + 1 + 1 + 1 + 1 + 1 + 1 + 1 + 1 + 1 + 1 + 1 + 1 + 1]? = some (.cells #[] 139 (0, 0)) := by
    rw [← hW]
    exact (block_alloc (block_alloc (block_alloc (block_new' _ _ _ (by simp)) _) _) _)
  have e14 : W.heap[w.heap.size + 1 + 1 + 1 + 1 + 1 + 1 + 1 + 1 + 1 + 1 + 1 + 1 + 1 + 1]? = some (.cells #[] 139 (0, 0)) := by
    rw [← hW]
    exact (block_alloc (block_alloc (block_new' _ _ _ (by simp)) _) _)
  have e15 : W.heap[w.heap.size + 1 + 1 + 1 + 1 + 1 + 1 + 1 + 1 + 1 + 1 + 1 + 1 + 1 + 1 + 1]? = some (.cells #[] 139 (0, 0)) := by
    rw [← hW]
    exact (block_alloc (block_new' _ _ _ (by simp)) _)
  have eA : W.heap[w.heap.size + 1 + 1 + 1 + 1 + 1 + 1 + 1 + 1 + 1 + 1 + 1 + 1 + 1 + 1 + 1 + 1]? = some (.cells #[.slice (some ⟨w.heap.size, 0, none⟩) 2 2, .slice (some ⟨w.heap.size + 1, 0, none⟩) 2 2, .slice (some ⟨w.heap.size + 1 + 1, 0, none⟩) 3 3, .slice (some ⟨w.heap.size + 1 + 1 + 1, 0, none⟩) 1 1, .slice (some ⟨w.heap.size + 1 + 1 + 1 + 1, 0, none⟩) 0 0, .slice (some ⟨w.heap.size + 1 + 1 + 1 + 1 + 1, 0, none⟩) 1 1, .slice (some ⟨w.heap.size + 1 + 1 + 1 + 1 + 1 + 1, 0, none⟩) 3 3, .slice (some ⟨w.heap.size + 1 + 1 + 1 + 1 + 1 + 1 + 1, 0, none⟩) 2 2, .slice (some ⟨w.heap.size + 1 + 1 + 1 + 1 + 1 + 1 + 1 + 1, 0, none⟩) 2 2, .slice (some ⟨w.heap.size + 1 + 1 + 1 + 1 + 1 + 1 + 1 + 1 + 1, 0, none⟩) 2 2, .slice (some ⟨w.heap.size + 1 + 1 + 1 + 1 + 1 + 1 + 1 + 1 + 1 + 1, 0, none⟩) 2 2, .slice (some ⟨w.heap.size + 1 + 1 + 1 + 1 + 1 + 1 + 1 + 1 + 1 + 1 + 1, 0, none⟩) 2 2, .slice (some ⟨w.heap.size + 1 + 1 + 1 + 1 + 1 + 1 + 1 + 1 + 1 + 1 + 1 + 1, 0, none⟩) 1 1, .slice (some ⟨w.heap.size + 1 + 1 + 1 + 1 + 1 + 1 + 1 + 1 + 1 + 1 + 1 + 1 + 1, 0, none⟩) 0 0, .slice (some ⟨w.heap.size + 1 + 1 + 1 + 1 + 1 + 1 + 1 + 1 + 1 + 1 + 1 + 1 + 1 + 1, 0, none⟩) 0 0, .slice (some ⟨w.heap.size + 1 + 1 + 1 + 1 + 1 + 1 + 1 + 1 + 1 + 1 + 1 + 1 + 1 + 1 + 1, 0, none⟩) 0 0] 161 (0, 0)) := by
    rw [← hW]
    exact block_new' _ _ _ (by simp)
  clear hW
  have HB := Lib.hid hB
  clear hB
  have E0 := Lib.hid e0
  have E1 := Lib.hid e1
  have E2 := Lib.hid e2
  have E3 := Lib.hid e3
  have E4 := Lib.hid e4
  have E5 := Lib.hid e5
  have E6 := Lib.hid e6
  have E7 := Lib.hid e7
  have E8 := Lib.hid e8
  have E9 := Lib.hid e9
  have E10 := Lib.hid e10
  have E11 := Lib.hid e11
  have E12 := Lib.hid e12
  have E13 := Lib.hid e13
  have E14 := Lib.hid e14
  have E15 := Lib.hid e15
  clear e0 e1 e2 e3 e4 e5 e6 e7 e8 e9 e10 e11 e12 e13 e14 e15
  have hk : k = 1 ∨ k = 2 ∨ k = 3 ∨ k = 4 ∨ k = 5 ∨ k = 6 ∨ k = 7 ∨ k = 8 ∨ k = 9 ∨ k = 10 ∨ k = 11 ∨ k = 12 ∨ k = 13 ∨ k = 14 ∨ k = 15 ∨ k = 16 := by omega
  rcases hk with rfl | rfl | rfl | rfl | rfl | rfl | rfl | rfl | rfl | rfl | rfl | rfl | rfl | rfl | rfl | rfl
  · have q := block_cell eA 0
    simp at q
    clear eA
    go_wp2_with fail
    go_ret
    exact ⟨_, rfl, fld_cells E0.out rfl, block_lt E0.out, HB.out⟩
  · have q := block_cell eA 1
    simp at q
    clear eA
    go_wp2_with fail
    go_ret
    exact ⟨_, rfl, fld_cells E1.out rfl, block_lt E1.out, HB.out⟩
  · have q := block_cell eA 2
    simp at q
    clear eA
    go_wp2_with fail
    go_ret
    exact ⟨_, rfl, fld_cells E2.out rfl, block_lt E2.out, HB.out⟩
  · have q := block_cell eA 3
    simp at q
    clear eA
    go_wp2_with fail
    go_ret
    exact ⟨_, rfl, fld_cells E3.out rfl, block_lt E3.out, HB.out⟩
  · have q := block_cell eA 4
    simp at q
    clear eA
    go_wp2_with fail
    go_ret
    exact ⟨_, rfl, fld_cells E4.out rfl, block_lt E4.out, HB.out⟩
  · have q := block_cell eA 5
    simp at q
    clear eA
    go_wp2_with fail
    go_ret
    exact ⟨_, rfl, fld_cells E5.out rfl, block_lt E5.out, HB.out⟩
  · have q := block_cell eA 6
    simp at q
    clear eA
    go_wp2_with fail
    go_ret
    exact ⟨_, rfl, fld_cells E6.out rfl, block_lt E6.out, HB.out⟩
  · have q := block_cell eA 7
    simp at q
    clear eA
    go_wp2_with fail
    go_ret
    exact ⟨_, rfl, fld_cells E7.out rfl, block_lt E7.out, HB.out⟩
  · have q := block_cell eA 8
    simp at q
    clear eA
    go_wp2_with fail
    go_ret
    exact ⟨_, rfl, fld_cells E8.out rfl, block_lt E8.out, HB.out⟩
  · have q := block_cell eA 9
    simp at q
    clear eA
    go_wp2_with fail
    go_ret
    exact ⟨_, rfl, fld_cells E9.out rfl, block_lt E9.out, HB.out⟩
  · have q := block_cell eA 10
    simp at q
    clear eA
    go_wp2_with fail
    go_ret
    exact ⟨_, rfl, fld_cells E10.out rfl, block_lt E10.out, HB.out⟩
  · have q := block_cell eA 11
    simp at q
    clear eA
    go_wp2_with fail
    go_ret
    exact ⟨_, rfl, fld_cells E11.out rfl, block_lt E11.out, HB.out⟩
  · have q := block_cell eA 12
    simp at q
    clear eA
    go_wp2_with fail
    go_ret
    exact ⟨_, rfl, fld_cells E12.out rfl, block_lt E12.out, HB.out⟩
  · have q := block_cell eA 13
    simp at q
    clear eA
    go_wp2_with fail
    go_ret
    exact ⟨_, rfl, fld_cells E13.out rfl, block_lt E13.out, HB.out⟩
  · have q := block_cell eA 14
    simp at q
    clear eA
    go_wp2_with fail
    go_ret
    exact ⟨_, rfl, fld_cells E14.out rfl, block_lt E14.out, HB.out⟩
  · have q := block_cell eA 15
    simp at q
    clear eA
    go_wp2_with fail
    go_ret
    exact ⟨_, rfl, fld_cells E15.out rfl, block_lt E15.out, HB.out⟩
end Go.Proofs.YtdfkbahlngijcaaDoor

namespace Go.Proofs.YtdfkbahlngijcaaDoor
open Go.RowKit
set_option linter.unusedVariables false

/-- a list of fields in memory, whole -/
def FldAt (w : World) (b : Nat) (l : List Nat) : Prop := ∀ j (h : j < l.length), w.cell? ⟨b, j, none⟩ = some (.int .u8 (l[j] : Nat))
def IdxPost (f : Nat) (l : List Nat) (w : World) (e : Ending) (w' : World) : Prop :=
  (∃ z : Int, e = .returned (.int .i64 z) ∧ (0 ≤ z ↔ f ∈ l)) ∧ w = w'
set_option maxRecDepth 100000 in
set_option maxHeartbeats 4000000 in
theorem findex_any (b f : Nat) (l : List Nat) (w : World) (h : FldAt w b l) (hl : l.length ≤ 10) :
    Calls Tryd.prog 111 #[.slice (some ⟨b, 0, none⟩) l.length l.length, .int .u8 f] w (IdxPost f l w) := by
  have HF := Lib.hid h
  obtain ⟨n, hn⟩ : ∃ n, n = l.length := ⟨_, rfl⟩
  have HN := Lib.hid hn
  rw [← hn] at hl ⊢
  clear hn h
  go_enter Tryd.func111, Tryd.ntmps111
  go_wp2_with fail
  go_loop [8] (fun s8 => ∃ (j : Nat), j ≤ n ∧ s8 = .int .i64 j ∧ ∀ i (h : i < l.length), i < j → l[i] ≠ f) (fun s8 => n - (intOf s8).toNat)
  case atStart => exact ⟨0, Nat.zero_le _, rfl, fun i _ h => absurd h (Nat.not_lt_zero _)⟩
  case round =>
    obtain ⟨j, hj, rfl, hne⟩ := hrel
    have HNE := Lib.hid hne
    clear hne
    by_cases hlt : j < n
    · have hlt' : (j : Int) < (n : Int) := by omega
      have hj0 : (0 : Int) ≤ (j : Int) := by omega
      have HJL := Lib.hid (show j < l.length by rw [← HN.out]; exact hlt)
      have q := HF.out j HJL.out
      obtain ⟨x, hx⟩ : ∃ x, x = l[j]'HJL.out := ⟨_, rfl⟩
      rw [← hx] at q
      have HX := Lib.hid hx
      clear hx
      by_cases he : f = x
      · as_aux_lemma =>
        subst he
        have HM := Lib.hid (show f ∈ l by rw [HX.out]; exact List.getElem_mem _)
        go_wp2_with fail
        go_ret
        exact ⟨⟨j, rfl, fun _ => HM.out, fun _ => by omega⟩, rfl⟩
      · as_aux_lemma =>
        have hf1 : ((f : Int) == (x : Int)) = false := by rw [beq_eq_false_iff_ne]; omega
        have HNX := Lib.hid (show ∀ i (h : i < l.length), i < j + 1 → l[i] ≠ f from fun i h hi => by
          rcases Nat.lt_or_ge i j with h1 | h1
          · exact HNE.out i h h1
          · obtain rfl : i = j := by omega
            rw [← HX.out]; exact fun e => he e.symm)
        clear he
        go_wp2_with fail
        go_round
        case rel => exact ⟨j + 1, by omega, by go_num, HNX.out⟩
        case measure => (simp [intOf] <;> omega)
    · as_aux_lemma =>
      have hlt' : ¬ ((j : Int) < (n : Int)) := by omega
      have HM := Lib.hid (show f ∉ l from fun h => by
        obtain ⟨i, hi, e⟩ := List.getElem_of_mem h
        exact HNE.out i hi (by rw [← HN.out] at hi; omega) e)
      clear hlt
      go_wp2_with fail
      go_ret
      exact ⟨⟨-1, rfl, fun h => absurd h (by decide), fun h => absurd h HM.out⟩, rfl⟩
set_option maxRecDepth 100000 in
set_option maxHeartbeats 4000000 in
theorem fcontains_any (b f : Nat) (l : List Nat) (w : World) (h : FldAt w b l) (hl : l.length ≤ 10) :
    Calls Tryd.prog 90 #[.slice (some ⟨b, 0, none⟩) l.length l.length, .int .u8 f] w fun e w' => e = .returned (.bool (decide (f ∈ l))) ∧ w = w' := by
  have HC := Lib.hid (findex_any b f l w h hl)
  clear h
  generalize l.length = n at *
  go_enter Tryd.func90, Tryd.ntmps90
  go_wp2_with fail
  refine (HC.out).mono ?_; rintro e w1 ⟨⟨z, rfl, hz⟩, rfl⟩
  by_cases h0 : 0 ≤ z
  · have HE := Lib.hid (show decide (f ∈ l) = true from decide_eq_true (hz.1 h0))
    have hd := decide_eq_true h0
    clear hz
    go_wp2_with fail
    go_ret
    exact ⟨by rw [HE.out] <;> rfl, rfl⟩
  · have HE := Lib.hid (show decide (f ∈ l) = false from decide_eq_false fun k => h0 (hz.2 k))
    have hd := decide_eq_false h0
    clear hz
    go_wp2_with fail
    go_ret
    exact ⟨by rw [HE.out] <;> rfl, rfl⟩
def hasB (l : List Nat) (f : Nat) (z1 z2 : Bool) : Bool := if f ∈ l then z2 else z1
set_option maxRecDepth 100000 in
set_option maxHeartbeats 4000000 in
theorem hasF_any (bq b f : Nat) (z1 z2 : Bool) (l : List Nat) (w : World) (hq : w.cell? ⟨bq, 0, none⟩ = some (.slice (some ⟨b, 0, none⟩) l.length l.length)) (h : FldAt w b l) (hl : l.length ≤ 10) :
    Calls Tryd.prog 89 #[.int .u8 f, .bool z1, .bool z2, .pointer (some ⟨bq, 0, none⟩)] w fun e w' => e = .returned (.bool (hasB l f z1 z2)) ∧ w = w' := by
  have HC := Lib.hid (fcontains_any b f l w h hl)
  clear h
  by_cases hm : f ∈ l
  · have HE := Lib.hid (show hasB l f z1 z2 = z2 from if_pos hm)
    rw [decide_eq_true hm] at HC
    generalize l.length = n at *
    clear hm
    go_enter Tryd.func89, Tryd.ntmps89
    go_wp2_with fail
    refine (HC.out).mono ?_; rintro e w1 ⟨rfl, rfl⟩
    go_wp2_with fail
    go_ret
    exact ⟨by rw [HE.out] <;> rfl, rfl⟩
  · have HE := Lib.hid (show hasB l f z1 z2 = z1 from if_neg hm)
    rw [decide_eq_false hm] at HC
    generalize l.length = n at *
    clear hm
    go_enter Tryd.func89, Tryd.ntmps89
    go_wp2_with fail
    refine (HC.out).mono ?_; rintro e w1 ⟨rfl, rfl⟩
    go_wp2_with fail
    go_ret
    exact ⟨by rw [HE.out] <;> rfl, rfl⟩
end Go.Proofs.YtdfkbahlngijcaaDoor

namespace Go.Proofs.YtdfkbahlngijcaaDoor
open Go.RowKit
set_option linter.unusedVariables false

def lsO (x : Ov) : List Nat := fldK x.k.toNat
def p0 (x : Ov) : Bool := hasB (lsO x) 0 (x.slot == 0) (decide (0 ≤ x.slot) && decide (x.slot ≤ 255))
def p1 (x : Ov) : Bool := hasB (lsO x) 1 (x.at_ == 0) (decide (0 ≤ x.at_) && decide (x.at_ ≤ 65535))
def p2 (x : Ov) : Bool := hasB (lsO x) 2 (x.n == 0) (decide (0 ≤ x.n) && decide (x.n ≤ 65535))
def p3 (x : Ov) : Bool := hasB (lsO x) 3 (x.id == 0) true
def p4 (x : Ov) : Bool := hasB (lsO x) 4 (x.g == 0) true
def p5 (x : Ov) : Bool := hasB (lsO x) 5 (decide (x.t.size = 0)) (decide (x.t.size ≤ 256))
/-- can an operation be written? -/
def plainO (x : Ov) : Bool := if x.k < 1 ∨ 16 < x.k then false else p0 x && (p1 x && (p2 x && (p3 x && (p4 x && p5 x))))
theorem hasB_ff (l : List Nat) (f : Nat) : hasB l f false false = false := by unfold hasB; split <;> rfl
theorem fldK_len (k : Nat) : (fldK k).length ≤ 3 := by
  unfold fldK
  split <;> simp
theorem cell_lt {w : World} {b i : Nat} {v : Value} (h : w.cell? ⟨b, i, none⟩ = some v) : b < w.heap.size := by
  rcases Nat.lt_or_ge b w.heap.size with h1 | h1
  · exact h1
  · simp [World.cell?, Array.getElem?_eq_none h1] at h
theorem cell_alloc_old {w : World} {b i : Nat} {v : Value} (h : w.cell? ⟨b, i, none⟩ = some v) (o : Obj) : (w.alloc o).cell? ⟨b, i, none⟩ = some v :=
  (((Below.refl w.heap.size w).alloc (Nat.le_refl _) o).cell (p := ⟨b, i, none⟩) (cell_lt h)).trans h
def oC (x : Ov) : Array Value := #[.int .u8 x.k, .int .i64 x.slot, .int .i64 x.at_, .int .i64 x.n, .int .u32 x.id, .int .u8 x.g, .string x.t]
set_option maxRecDepth 100000 in
set_option maxHeartbeats 16000000 in
theorem plainS_any (x : Ov) (w : World) (ht : x.t.size ≤ 140737488355328) :
    Calls Tryd.prog 63 #[.agg #[.int .u8 x.k, .int .i64 x.slot, .int .i64 x.at_, .int .i64 x.n, .int .u32 x.id, .int .u8 x.g, .string x.t]] w fun e w' => e = .returned (.bool (plainO x)) ∧ Below w.heap.size w w' := by
  have hmf : ∀ (fn : Fn) (first cap : Array Value) (w : World), (Instr.makeFunc fn first cap).run Tryd.prog w = .ok (.func fn first cap) w := fun _ _ _ _ => rfl
  have HB0 := Lib.hid ((Below.refl w.heap.size w).alloc (Nat.le_refl _) (.cells (oC x) 51))
  have HO0 := Lib.hid (block_new w (.cells (oC x) 51))
  by_cases hk : x.k < 1 ∨ 16 < x.k
  · have HE := Lib.hid (show plainO x = false from if_pos hk)
    obtain ⟨k, s, a, n, id, g, t⟩ := x
    replace hk : k < 1 ∨ 16 < k := hk
    by_cases hk1 : k < 1
    · as_aux_lemma =>
      clear hk
      go_enter Tryd.func63, Tryd.ntmps63
      go_wp2_with fail
      go_ret
      exact ⟨by rw [HE.out] <;> rfl, HB0.out⟩
    · as_aux_lemma =>
      have hk2 : 16 < k := by omega
      clear hk
      go_enter Tryd.func63, Tryd.ntmps63
      go_wp2_with fail
      go_ret
      exact ⟨by rw [HE.out] <;> rfl, HB0.out⟩
  · have HPO := Lib.hid (show plainO x = (p0 x && (p1 x && (p2 x && (p3 x && (p4 x && p5 x))))) from if_neg hk)
    obtain ⟨kn, hkn⟩ : ∃ kn : Nat, x.k = kn := ⟨x.k.toNat, by omega⟩
    have hk1 : 1 ≤ kn := by omega
    have hk2 : kn ≤ 16 := by omega
    have HLS := Lib.hid (show lsO x = fldK kn by unfold lsO; rw [hkn, Int.toNat_natCast])
    have HL3 := Lib.hid (fldK_len kn)
    have HFD := Lib.hid (fun u => fields_any kn hk1 hk2 u)
    have HP0 := Lib.hid (show p0 x = hasB (lsO x) 0 (x.slot == 0) (decide (0 ≤ x.slot) && decide (x.slot ≤ 255)) from rfl)
    have HP1 := Lib.hid (show p1 x = hasB (lsO x) 1 (x.at_ == 0) (decide (0 ≤ x.at_) && decide (x.at_ ≤ 65535)) from rfl)
    have HP2 := Lib.hid (show p2 x = hasB (lsO x) 2 (x.n == 0) (decide (0 ≤ x.n) && decide (x.n ≤ 65535)) from rfl)
    have HP3 := Lib.hid (show p3 x = hasB (lsO x) 3 (x.id == 0) true from rfl)
    have HP4 := Lib.hid (show p4 x = hasB (lsO x) 4 (x.g == 0) true from rfl)
    have HP5 := Lib.hid (show p5 x = hasB (lsO x) 5 (decide (x.t.size = 0)) (decide (x.t.size ≤ 256)) from rfl)
    rw [HLS.out] at HP0 HP1 HP2 HP3 HP4 HP5
    generalize plainO x = P at *
    generalize p0 x = b0 at *
    generalize p1 x = b1 at *
    generalize p2 x = b2 at *
    generalize p3 x = b3 at *
    generalize p4 x = b4 at *
    generalize p5 x = b5 at *
    clear HLS hk
    obtain ⟨k, s, a, n, id, g, t⟩ := x
    replace hkn : k = kn := hkn
    subst hkn
    replace ht : t.size ≤ 140737488355328 := ht
    have hg1 : ¬ ((kn : Int) < 1) := by omega
    have hg2 : ¬ ((16 : Int) < (kn : Int)) := by omega
    have hg3 : decide ((16 : Int) < (kn : Int)) = false := decide_eq_false hg2
    obtain ⟨l, hl⟩ : ∃ l, l = fldK kn := ⟨_, rfl⟩
    rw [← hl] at HFD HP0 HP1 HP2 HP3 HP4 HP5 HL3
    clear hl
    go_enter Tryd.func63, Tryd.ntmps63
    go_wp2_with fail
    refine (HFD.out _).mono ?_; rintro e w1 ⟨b, rfl, hc, hlt, hb1⟩
    have HO1 := Lib.hid (show w1.heap[w.heap.size]? = some (.cells #[.int .u8 kn, .int .i64 s, .int .i64 a, .int .i64 n, .int .u32 id, .int .u8 g, .string t] 51 (0, 0)) from block_below hb1 HO0.out (by simp))
    have HB1 := Lib.hid (HB0.out.trans (hb1.mono (by simp)))
    have HS1 := Lib.hid HB1.out.size
    have HF1 := Lib.hid (show FldAt w1 b l from hc)
    clear hc hlt hb1 HFD HB0 HO0
    go_upto_region 4 with (fail)
    generalize hw2 : World.alloc w1 _ = w2
    have HO2 := Lib.hid (show w2.heap[w.heap.size]? = some (.cells #[.int .u8 kn, .int .i64 s, .int .i64 a, .int .i64 n, .int .u32 id, .int .u8 g, .string t] 51 (0, 0)) by rw [← hw2]; exact block_alloc HO1.out _)
    have HB2 := Lib.hid (show Below w.heap.size w w2 by rw [← hw2]; exact HB1.out.alloc HS1.out _)
    have HF2 := Lib.hid (show FldAt w2 b l from fun j hj => by rw [← hw2]; exact cell_alloc_old (HF1.out j hj) _)
    have HQ2 := Lib.hid (show w2.cell? ⟨w1.heap.size, 0, none⟩ = some (.slice (some ⟨b, 0, none⟩) l.length l.length) by rw [← hw2]; exact block_cell (block_new w1 _) 0)
    clear hw2 HO1 HB1 HF1
    have HH := Lib.hid (fun (f : Nat) (z1 z2 : Bool) => hasF_any w1.heap.size b f z1 z2 l w2 HQ2.out HF2.out (by have := HL3.out; omega))
    generalize l.length = ln at *
    generalize w1.heap.size = bq at *
    generalize hbo : w.heap.size = bo at *
    have HBO := Lib.hid hbo
    clear hbo
    have q1 := block_cell HO2.out 1
    have q2 := block_cell HO2.out 2
    have q3 := block_cell HO2.out 3
    have q4 := block_cell HO2.out 4
    have q5 := block_cell HO2.out 5
    have q6 := block_cell HO2.out 6
    simp at q1 q2 q3 q4 q5 q6
    go_upto_region 5 with (fail)
    simp only [List.append_eq, List.cons_append, List.nil_append]
    by_cases g0 : s < 0
    · as_aux_lemma =>
      have z0 : (s == 0) = false := by rw [beq_eq_false_iff_ne]; omega
      have y0 : decide (0 ≤ s) = false := decide_eq_false (by omega)
      have y0' : ¬ (0 ≤ s) := by omega
      have h0 : b0 = false := by rw [HP0.out, z0, y0]; exact hasB_ff l 0
      have hX := hasB_ff l 0
      have HPE := Lib.hid (show P = false by rw [HPO.out, h0]; rfl)
      have HC := Lib.hid (show Calls Tryd.prog 89 #[.int .u8 0, .bool false, .bool false, .pointer (some ⟨bq, 0, none⟩)] w2 fun e w' => e = .returned (.bool false) ∧ w2 = w' by
        have h := HH.out 0 false false
        rw [hX] at h
        exact h)
      go_wp2_with fail
      refine (HC.out).mono ?_; rintro e w3 ⟨rfl, rfl⟩
      go_wp2_with fail
      go_ret
      exact ⟨by rw [HPE.out] <;> rfl, by rw [HBO.out]; exact HB2.out⟩
    · have y0 : 0 ≤ s := by omega
      by_cases u0 : 255 < s
      · as_aux_lemma =>
        have z0 : (s == 0) = false := by rw [beq_eq_false_iff_ne]; omega
        have x0 : decide (s ≤ 255) = false := decide_eq_false (by omega)
        have x0' : ¬ (s ≤ 255) := by omega
        have h0 : b0 = false := by rw [HP0.out, z0, x0, Bool.and_false]; exact hasB_ff l 0
        have hX := hasB_ff l 0
        have HPE := Lib.hid (show P = false by rw [HPO.out, h0]; rfl)
        have HC := Lib.hid (show Calls Tryd.prog 89 #[.int .u8 0, .bool false, .bool false, .pointer (some ⟨bq, 0, none⟩)] w2 fun e w' => e = .returned (.bool false) ∧ w2 = w' by
          have h := HH.out 0 false false
          rw [hX] at h
          exact h)
        go_wp2_with fail
        refine (HC.out).mono ?_; rintro e w3 ⟨rfl, rfl⟩
        go_wp2_with fail
        go_ret
        exact ⟨by rw [HPE.out] <;> rfl, by rw [HBO.out]; exact HB2.out⟩
      · have x0 : s ≤ 255 := by omega
        have hX : b0 = hasB l 0 (s == 0) true := by rw [HP0.out, decide_eq_true y0, decide_eq_true x0]; rfl
        clear g0 u0
        have HC := Lib.hid (show Calls Tryd.prog 89 #[.int .u8 0, .bool (s == 0), .bool true, .pointer (some ⟨bq, 0, none⟩)] w2 fun e w' => e = .returned (.bool b0) ∧ w2 = w' by
          have h := HH.out 0 (s == 0) true
          rw [← hX] at h
          exact h)
        by_cases h0 : b0 = true
        · rw [h0] at HC
          clear hX
          go_wp2_with fail
          refine (HC.out).mono ?_; rintro e w3 ⟨rfl, rfl⟩
          by_cases g1 : a < 0
          · as_aux_lemma =>
            have z1 : (a == 0) = false := by rw [beq_eq_false_iff_ne]; omega
            have y1 : decide (0 ≤ a) = false := decide_eq_false (by omega)
            have y1' : ¬ (0 ≤ a) := by omega
            have h1 : b1 = false := by rw [HP1.out, z1, y1]; exact hasB_ff l 1
            have hX := hasB_ff l 1
            have HPE := Lib.hid (show P = false by rw [HPO.out, h0, h1]; rfl)
            have HC := Lib.hid (show Calls Tryd.prog 89 #[.int .u8 1, .bool false, .bool false, .pointer (some ⟨bq, 0, none⟩)] w2 fun e w' => e = .returned (.bool false) ∧ w2 = w' by
              have h := HH.out 1 false false
              rw [hX] at h
              exact h)
            go_wp2_with fail
            refine (HC.out).mono ?_; rintro e w3 ⟨rfl, rfl⟩
            go_wp2_with fail
            go_ret
            exact ⟨by rw [HPE.out] <;> rfl, by rw [HBO.out]; exact HB2.out⟩
          · have y1 : 0 ≤ a := by omega
            by_cases u1 : 65535 < a
            · as_aux_lemma =>
              have z1 : (a == 0) = false := by rw [beq_eq_false_iff_ne]; omega
              have x1 : decide (a ≤ 65535) = false := decide_eq_false (by omega)
              have x1' : ¬ (a ≤ 65535) := by omega
              have h1 : b1 = false := by rw [HP1.out, z1, x1, Bool.and_false]; exact hasB_ff l 1
              have hX := hasB_ff l 1
              have HPE := Lib.hid (show P = false by rw [HPO.out, h0, h1]; rfl)
              have HC := Lib.hid (show Calls Tryd.prog 89 #[.int .u8 1, .bool false, .bool false, .pointer (some ⟨bq, 0, none⟩)] w2 fun e w' => e = .returned (.bool false) ∧ w2 = w' by
                have h := HH.out 1 false false
                rw [hX] at h
                exact h)
              go_wp2_with fail
              refine (HC.out).mono ?_; rintro e w3 ⟨rfl, rfl⟩
              go_wp2_with fail
              go_ret
              exact ⟨by rw [HPE.out] <;> rfl, by rw [HBO.out]; exact HB2.out⟩
            · have x1 : a ≤ 65535 := by omega
              have hX : b1 = hasB l 1 (a == 0) true := by rw [HP1.out, decide_eq_true y1, decide_eq_true x1]; rfl
              clear g1 u1
              have HC := Lib.hid (show Calls Tryd.prog 89 #[.int .u8 1, .bool (a == 0), .bool true, .pointer (some ⟨bq, 0, none⟩)] w2 fun e w' => e = .returned (.bool b1) ∧ w2 = w' by
                have h := HH.out 1 (a == 0) true
                rw [← hX] at h
                exact h)
              by_cases h1 : b1 = true
              · rw [h1] at HC
                clear hX
                go_wp2_with fail
                refine (HC.out).mono ?_; rintro e w3 ⟨rfl, rfl⟩
                by_cases g2 : n < 0
                · as_aux_lemma =>
                  have z2 : (n == 0) = false := by rw [beq_eq_false_iff_ne]; omega
                  have y2 : decide (0 ≤ n) = false := decide_eq_false (by omega)
                  have y2' : ¬ (0 ≤ n) := by omega
                  have h2 : b2 = false := by rw [HP2.out, z2, y2]; exact hasB_ff l 2
                  have hX := hasB_ff l 2
                  have HPE := Lib.hid (show P = false by rw [HPO.out, h0, h1, h2]; rfl)
                  have HC := Lib.hid (show Calls Tryd.prog 89 #[.int .u8 2, .bool false, .bool false, .pointer (some ⟨bq, 0, none⟩)] w2 fun e w' => e = .returned (.bool false) ∧ w2 = w' by
                    have h := HH.out 2 false false
                    rw [hX] at h
                    exact h)
                  go_wp2_with fail
                  refine (HC.out).mono ?_; rintro e w3 ⟨rfl, rfl⟩
                  go_wp2_with fail
                  go_ret
                  exact ⟨by rw [HPE.out] <;> rfl, by rw [HBO.out]; exact HB2.out⟩
                · have y2 : 0 ≤ n := by omega
                  by_cases u2 : 65535 < n
                  · as_aux_lemma =>
                    have z2 : (n == 0) = false := by rw [beq_eq_false_iff_ne]; omega
                    have x2 : decide (n ≤ 65535) = false := decide_eq_false (by omega)
                    have x2' : ¬ (n ≤ 65535) := by omega
                    have h2 : b2 = false := by rw [HP2.out, z2, x2, Bool.and_false]; exact hasB_ff l 2
                    have hX := hasB_ff l 2
                    have HPE := Lib.hid (show P = false by rw [HPO.out, h0, h1, h2]; rfl)
                    have HC := Lib.hid (show Calls Tryd.prog 89 #[.int .u8 2, .bool false, .bool false, .pointer (some ⟨bq, 0, none⟩)] w2 fun e w' => e = .returned (.bool false) ∧ w2 = w' by
                      have h := HH.out 2 false false
                      rw [hX] at h
                      exact h)
                    go_wp2_with fail
                    refine (HC.out).mono ?_; rintro e w3 ⟨rfl, rfl⟩
                    go_wp2_with fail
                    go_ret
                    exact ⟨by rw [HPE.out] <;> rfl, by rw [HBO.out]; exact HB2.out⟩
                  · have x2 : n ≤ 65535 := by omega
                    have hX : b2 = hasB l 2 (n == 0) true := by rw [HP2.out, decide_eq_true y2, decide_eq_true x2]; rfl
                    clear g2 u2
                    have HC := Lib.hid (show Calls Tryd.prog 89 #[.int .u8 2, .bool (n == 0), .bool true, .pointer (some ⟨bq, 0, none⟩)] w2 fun e w' => e = .returned (.bool b2) ∧ w2 = w' by
                      have h := HH.out 2 (n == 0) true
                      rw [← hX] at h
                      exact h)
                    by_cases h2 : b2 = true
                    · rw [h2] at HC
                      clear hX
                      go_wp2_with fail
                      refine (HC.out).mono ?_; rintro e w3 ⟨rfl, rfl⟩
                      have hX : b3 = hasB l 3 (id == 0) true := HP3.out
                      have HC := Lib.hid (show Calls Tryd.prog 89 #[.int .u8 3, .bool (id == 0), .bool true, .pointer (some ⟨bq, 0, none⟩)] w2 fun e w' => e = .returned (.bool b3) ∧ w2 = w' by
                        have h := HH.out 3 (id == 0) true
                        rw [← hX] at h
                        exact h)
                      by_cases h3 : b3 = true
                      · rw [h3] at HC
                        clear hX
                        go_wp2_with fail
                        refine (HC.out).mono ?_; rintro e w3 ⟨rfl, rfl⟩
                        have hX : b4 = hasB l 4 (g == 0) true := HP4.out
                        have HC := Lib.hid (show Calls Tryd.prog 89 #[.int .u8 4, .bool (g == 0), .bool true, .pointer (some ⟨bq, 0, none⟩)] w2 fun e w' => e = .returned (.bool b4) ∧ w2 = w' by
                          have h := HH.out 4 (g == 0) true
                          rw [← hX] at h
                          exact h)
                        by_cases h4 : b4 = true
                        · rw [h4] at HC
                          clear hX
                          go_wp2_with fail
                          refine (HC.out).mono ?_; rintro e w3 ⟨rfl, rfl⟩
                          by_cases z5 : t.size = 0
                          · as_aux_lemma =>
                            have hX : b5 = hasB l 5 true true := by rw [HP5.out, z5]; rfl
                            obtain rfl := str_empty z5
                            clear z5 ht
                            have HC := Lib.hid (show Calls Tryd.prog 89 #[.int .u8 5, .bool true, .bool true, .pointer (some ⟨bq, 0, none⟩)] w2 fun e w' => e = .returned (.bool b5) ∧ w2 = w' by
                              have h := HH.out 5 true true
                              rw [← hX] at h
                              exact h)
                            by_cases h5 : b5 = true
                            · rw [h5] at HC
                              clear hX
                              go_wp2_with fail
                              refine (HC.out).mono ?_; rintro e w3 ⟨rfl, rfl⟩
                              have HPE := Lib.hid (show P = true by rw [HPO.out, h0, h1, h2, h3, h4, h5]; rfl)
                              go_wp2_with fail
                              go_ret
                              exact ⟨by rw [HPE.out] <;> rfl, by rw [HBO.out]; exact HB2.out⟩
                            · replace h5 := Bool.eq_false_iff.2 h5
                              have HPE := Lib.hid (show P = false by rw [HPO.out, h0, h1, h2, h3, h4, h5]; rfl)
                              rw [h5] at HC
                              clear hX
                              go_wp2_with fail
                              refine (HC.out).mono ?_; rintro e w3 ⟨rfl, rfl⟩
                              go_wp2_with fail
                              go_ret
                              exact ⟨by rw [HPE.out] <;> rfl, by rw [HBO.out]; exact HB2.out⟩
                          · have ne5 := str_some z5
                            by_cases y5 : t.size ≤ 256
                            · as_aux_lemma =>
                              have hX : b5 = hasB l 5 false true := by rw [HP5.out, decide_eq_false z5, decide_eq_true y5]
                              have y5' : (t.size : Int) ≤ 256 := by omega
                              clear z5
                              have HC := Lib.hid (show Calls Tryd.prog 89 #[.int .u8 5, .bool false, .bool true, .pointer (some ⟨bq, 0, none⟩)] w2 fun e w' => e = .returned (.bool b5) ∧ w2 = w' by
                                have h := HH.out 5 false true
                                rw [← hX] at h
                                exact h)
                              by_cases h5 : b5 = true
                              · rw [h5] at HC
                                clear hX
                                go_wp2_with fail
                                refine (HC.out).mono ?_; rintro e w3 ⟨rfl, rfl⟩
                                have HPE := Lib.hid (show P = true by rw [HPO.out, h0, h1, h2, h3, h4, h5]; rfl)
                                go_wp2_with fail
                                go_ret
                                exact ⟨by rw [HPE.out] <;> rfl, by rw [HBO.out]; exact HB2.out⟩
                              · replace h5 := Bool.eq_false_iff.2 h5
                                have HPE := Lib.hid (show P = false by rw [HPO.out, h0, h1, h2, h3, h4, h5]; rfl)
                                rw [h5] at HC
                                clear hX
                                go_wp2_with fail
                                refine (HC.out).mono ?_; rintro e w3 ⟨rfl, rfl⟩
                                go_wp2_with fail
                                go_ret
                                exact ⟨by rw [HPE.out] <;> rfl, by rw [HBO.out]; exact HB2.out⟩
                            · as_aux_lemma =>
                              have h5 : b5 = false := by rw [HP5.out, decide_eq_false z5, decide_eq_false y5]; exact hasB_ff l 5
                              have hX := hasB_ff l 5
                              have y5' : ¬ ((t.size : Int) ≤ 256) := by omega
                              have y5'' : decide ((t.size : Int) ≤ 256) = false := decide_eq_false y5'
                              clear z5 y5
                              have HPE := Lib.hid (show P = false by rw [HPO.out, h0, h1, h2, h3, h4, h5]; rfl)
                              have HC := Lib.hid (show Calls Tryd.prog 89 #[.int .u8 5, .bool false, .bool false, .pointer (some ⟨bq, 0, none⟩)] w2 fun e w' => e = .returned (.bool false) ∧ w2 = w' by
                                have h := HH.out 5 false false
                                rw [hX] at h
                                exact h)
                              go_wp2_with fail
                              refine (HC.out).mono ?_; rintro e w3 ⟨rfl, rfl⟩
                              go_wp2_with fail
                              go_ret
                              exact ⟨by rw [HPE.out] <;> rfl, by rw [HBO.out]; exact HB2.out⟩
                        · replace h4 := Bool.eq_false_iff.2 h4
                          have HPE := Lib.hid (show P = false by rw [HPO.out, h0, h1, h2, h3, h4]; rfl)
                          rw [h4] at HC
                          clear hX
                          go_wp2_with fail
                          refine (HC.out).mono ?_; rintro e w3 ⟨rfl, rfl⟩
                          go_wp2_with fail
                          go_ret
                          exact ⟨by rw [HPE.out] <;> rfl, by rw [HBO.out]; exact HB2.out⟩
                      · replace h3 := Bool.eq_false_iff.2 h3
                        have HPE := Lib.hid (show P = false by rw [HPO.out, h0, h1, h2, h3]; rfl)
                        rw [h3] at HC
                        clear hX
                        go_wp2_with fail
                        refine (HC.out).mono ?_; rintro e w3 ⟨rfl, rfl⟩
                        go_wp2_with fail
                        go_ret
                        exact ⟨by rw [HPE.out] <;> rfl, by rw [HBO.out]; exact HB2.out⟩
                    · replace h2 := Bool.eq_false_iff.2 h2
                      have HPE := Lib.hid (show P = false by rw [HPO.out, h0, h1, h2]; rfl)
                      rw [h2] at HC
                      clear hX
                      go_wp2_with fail
                      refine (HC.out).mono ?_; rintro e w3 ⟨rfl, rfl⟩
                      go_wp2_with fail
                      go_ret
                      exact ⟨by rw [HPE.out] <;> rfl, by rw [HBO.out]; exact HB2.out⟩
              · replace h1 := Bool.eq_false_iff.2 h1
                have HPE := Lib.hid (show P = false by rw [HPO.out, h0, h1]; rfl)
                rw [h1] at HC
                clear hX
                go_wp2_with fail
                refine (HC.out).mono ?_; rintro e w3 ⟨rfl, rfl⟩
                go_wp2_with fail
                go_ret
                exact ⟨by rw [HPE.out] <;> rfl, by rw [HBO.out]; exact HB2.out⟩
        · replace h0 := Bool.eq_false_iff.2 h0
          have HPE := Lib.hid (show P = false by rw [HPO.out, h0]; rfl)
          rw [h0] at HC
          clear hX
          go_wp2_with fail
          refine (HC.out).mono ?_; rintro e w3 ⟨rfl, rfl⟩
          go_wp2_with fail
          go_ret
          exact ⟨by rw [HPE.out] <;> rfl, by rw [HBO.out]; exact HB2.out⟩
end Go.Proofs.YtdfkbahlngijcaaDoor

namespace Go.Proofs.YtdfkbahlngijcaaDoor
open Go.RowKit
set_option linter.unusedVariables false

/-- a continuation byte -/
def isC (c : UInt8) : Bool := decide (128 ≤ c.toNat) && decide (c.toNat ≤ 191)
/-- a boundary -/
def bnd (s : ByteArray) (i : Nat) : Bool := if h : i < s.size then !isC s[i] else decide (i = s.size)
/-- how long the common beginning is -/
def pre : List UInt8 → List UInt8 → Nat
  | x :: a, y :: b => if x = y then pre a b + 1 else 0
  | [], _ => 0
  | _ :: _, [] => 0
theorem pre_cons (x y : UInt8) (a b : List UInt8) : pre (x :: a) (y :: b) = if x = y then pre a b + 1 else 0 := rfl
theorem pre_le : ∀ a b : List UInt8, pre a b ≤ a.length ∧ pre a b ≤ b.length
  | [], _ => ⟨Nat.le_refl _, Nat.zero_le _⟩
  | _ :: _, [] => ⟨Nat.zero_le _, Nat.le_refl _⟩
  | x :: a, y :: b => by
    have ih := pre_le a b
    rw [pre_cons]
    by_cases h : x = y
    · rw [if_pos h, List.length_cons, List.length_cons]; omega
    · rw [if_neg h]; omega
/-- how far one is: the first j bytes are the same -/
theorem pre_at : ∀ (a b : List UInt8) (j : Nat), j ≤ a.length → j ≤ b.length → a.take j = b.take j → pre a b = j + pre (a.drop j) (b.drop j)
  | a, b, 0, _, _, _ => by simp
  | [], _, j + 1, h, _, _ => by simp at h
  | _ :: _, [], j + 1, _, h, _ => by simp at h
  | x :: a, y :: b, j + 1, h1, h2, h => by
    have h3 : x = y ∧ a.take j = b.take j := by simpa using h
    rw [pre_cons, if_pos h3.1, pre_at a b j (by simpa using h1) (by simpa using h2) h3.2]
    simp
    omega
theorem pre_stop {a b : List UInt8} {j : Nat} (h1 : j < a.length) (h2 : j < b.length) (h : a.take j = b.take j) (hne : a[j] ≠ b[j]) : pre a b = j := by
  rw [pre_at a b j (by omega) (by omega) h, List.drop_eq_getElem_cons h1, List.drop_eq_getElem_cons h2, pre_cons, if_neg hne]
  rfl
theorem pre_end {a b : List UInt8} {j : Nat} (h1 : j ≤ a.length) (h2 : j ≤ b.length) (h : a.take j = b.take j) (he : j = a.length ∨ j = b.length) : pre a b = j := by
  rw [pre_at a b j h1 h2 h]
  rcases he with e | e
  · have d : a.drop j = [] := List.drop_eq_nil_of_le (by omega)
    rw [d]
    cases b.drop j <;> rfl
  · have d : b.drop j = [] := List.drop_eq_nil_of_le (by omega)
    rw [d]
    cases a.drop j <;> rfl
theorem take_same {a b : List UInt8} {j : Nat} (h1 : j < a.length) (h2 : j < b.length) (h : a.take j = b.take j) (he : a[j] = b[j]) : a.take (j + 1) = b.take (j + 1) := by
  rw [List.take_succ_eq_append_getElem h1, List.take_succ_eq_append_getElem h2, h, he]
theorem pre_take : ∀ a b : List UInt8, a.take (pre a b) = b.take (pre a b)
  | [], b => by cases b <;> rfl
  | _ :: _, [] => rfl
  | x :: a, y :: b => by
    rw [pre_cons]
    by_cases h : x = y
    · rw [if_pos h, List.take_succ_cons, List.take_succ_cons, pre_take a b, h]
    · rw [if_neg h]; rfl
/-- the greatest number up to n that f holds of, or 0 -/
def down (f : Nat → Bool) : Nat → Nat
  | 0 => 0
  | n + 1 => if f (n + 1) = true then n + 1 else down f n
theorem down_succ (f : Nat → Bool) (n : Nat) : down f (n + 1) = if f (n + 1) = true then n + 1 else down f n := rfl
theorem down_le (f : Nat → Bool) : ∀ n, down f n ≤ n
  | 0 => Nat.le_refl _
  | n + 1 => by
    rw [down_succ]
    by_cases h : f (n + 1) = true
    · rw [if_pos h]; exact Nat.le_refl _
    · rw [if_neg h]; have := down_le f n; omega
theorem down_yes {f : Nat → Bool} {n : Nat} (h : f n = true) : down f n = n := by
  cases n with
  | zero => rfl
  | succ n => rw [down_succ, if_pos h]
theorem down_no {f : Nat → Bool} {n : Nat} (h : ¬ f (n + 1) = true) : down f (n + 1) = down f n := by rw [down_succ, if_neg h]
theorem down_holds {f : Nat → Bool} (h0 : f 0 = true) : ∀ n, f (down f n) = true
  | 0 => h0
  | n + 1 => by
    rw [down_succ]
    by_cases h : f (n + 1) = true
    · rw [if_pos h]; exact h
    · rw [if_neg h]; exact down_holds h0 n
def bnd2 (a b : ByteArray) (p : Nat) : Bool := bnd a p && bnd b p
def bndS (a b : ByteArray) (k : Nat) : Bool := bnd a (a.size - k) && bnd b (b.size - k)
def comP (a b : ByteArray) : Nat := down (bnd2 a b) (pre a.data.toList b.data.toList)
def comK (a b : ByteArray) : Nat := min (pre a.data.toList.reverse b.data.toList.reverse) (min a.size b.size - comP a b)
def comS (a b : ByteArray) : Nat := down (bndS a b) (comK a b)

set_option maxRecDepth 100000 in
set_option maxHeartbeats 2000000 in
theorem continues_any (c : UInt8) (w : World) : Calls Tryd.prog 129 #[.int .u8 c.toNat] w fun e w' => e = .returned (.bool (isC c)) ∧ w = w' := by
  have hb := u8lt c
  obtain ⟨n, hn⟩ : ∃ n, n = c.toNat := ⟨_, rfl⟩
  have HE := Lib.hid (show isC c = (decide (128 ≤ n) && decide (n ≤ 191)) by rw [hn]; rfl)
  rw [← hn] at hb ⊢
  clear hn
  by_cases h1 : 128 ≤ n
  · have h1' : (128 : Int) ≤ (n : Int) := by omega
    by_cases h2 : n ≤ 191
    · have h2' : (n : Int) ≤ 191 := by omega
      have HV := Lib.hid (show isC c = true by rw [HE.out]; simp [h1, h2])
      clear h1 h2
      go_enter Tryd.func129, Tryd.ntmps129
      go_wp2_with fail
      go_ret
      exact ⟨by rw [HV.out] <;> rfl, rfl⟩
    · have h2' : ¬ ((n : Int) ≤ 191) := by omega
      have h2d := decide_eq_false h2'
      have HV := Lib.hid (show isC c = false by rw [HE.out]; simp [h2])
      clear h1 h2
      go_enter Tryd.func129, Tryd.ntmps129
      go_wp2_with fail
      go_ret
      exact ⟨by rw [HV.out] <;> rfl, rfl⟩
  · have h1' : ¬ ((128 : Int) ≤ (n : Int)) := by omega
    have h1d := decide_eq_false h1'
    have HV := Lib.hid (show isC c = false by rw [HE.out]; simp [h1])
    clear h1
    go_enter Tryd.func129, Tryd.ntmps129
    go_wp2_with fail
    go_ret
    exact ⟨by rw [HV.out] <;> rfl, rfl⟩
set_option maxRecDepth 100000 in
set_option maxHeartbeats 2000000 in
theorem refCont_any (c : UInt8) (w : World) : Calls Tryd.prog 133 #[.int .u8 c.toNat] w fun e w' => e = .returned (.bool (isC c)) ∧ w = w' := by
  have hb := u8lt c
  obtain ⟨n, hn⟩ : ∃ n, n = c.toNat := ⟨_, rfl⟩
  have HE := Lib.hid (show isC c = (decide (128 ≤ n) && decide (n ≤ 191)) by rw [hn]; rfl)
  rw [← hn] at hb ⊢
  clear hn
  by_cases h1 : 128 ≤ n
  · have h1' : (128 : Int) ≤ (n : Int) := by omega
    by_cases h2 : n ≤ 191
    · have h2' : (n : Int) < 192 := by omega
      have HV := Lib.hid (show isC c = true by rw [HE.out]; simp [h1, h2])
      clear h1 h2
      go_enter Tryd.func133, Tryd.ntmps133
      go_wp2_with fail
      go_ret
      exact ⟨by rw [HV.out] <;> rfl, rfl⟩
    · have h2' : ¬ ((n : Int) < 192) := by omega
      have h2d := decide_eq_false h2'
      have HV := Lib.hid (show isC c = false by rw [HE.out]; simp [h2])
      clear h1 h2
      go_enter Tryd.func133, Tryd.ntmps133
      go_wp2_with fail
      go_ret
      exact ⟨by rw [HV.out] <;> rfl, rfl⟩
  · have h1' : ¬ ((128 : Int) ≤ (n : Int)) := by omega
    have h1d := decide_eq_false h1'
    have HV := Lib.hid (show isC c = false by rw [HE.out]; simp [h1])
    clear h1
    go_enter Tryd.func133, Tryd.ntmps133
    go_wp2_with fail
    go_ret
    exact ⟨by rw [HV.out] <;> rfl, rfl⟩

end Go.Proofs.YtdfkbahlngijcaaDoor

namespace Go.Proofs.YtdfkbahlngijcaaDoor
theorem byte_at (s : ByteArray) {i : Nat} (h : i < s.size) : s.data.toList[i]? = some s[i] := by
  rw [Array.getElem?_toList, Array.getElem?_eq_getElem (show i < s.data.size from h)]
  rfl
end Go.Proofs.YtdfkbahlngijcaaDoor

namespace Go.Proofs.YtdfkbahlngijcaaDoor
open Go.RowKit
set_option linter.unusedVariables false

def annN (c : UInt8) : Nat := if 244 < c.toNat then 0 else if 240 ≤ c.toNat then 4 else if 224 ≤ c.toNat then 3 else if 194 ≤ c.toNat then 2 else if c.toNat < 128 then 1 else 0
set_option maxRecDepth 100000 in
set_option maxHeartbeats 2000000 in
theorem announced_any (c : UInt8) (w : World) : Calls Tryd.prog 128 #[.int .u8 c.toNat] w fun e w' => e = .returned (.int .i64 (annN c)) ∧ w = w' := by
  obtain ⟨n, hn⟩ : ∃ n, n = annN c := ⟨_, rfl⟩
  have HN := Lib.hid hn
  unfold annN at hn
  generalize c.toNat = z at *
  rw [← HN.out]
  by_cases h1 : 244 < z
  · rw [if_pos h1] at hn
    subst hn
    have g1 : (244 : Int) < (z : Int) := by omega
    clear h1
    go_enter Tryd.func128, Tryd.ntmps128
    go_wp2_with fail
    go_ret
    exact ⟨rfl, rfl⟩
  · rw [if_neg h1] at hn
    have g1 : ¬ ((244 : Int) < (z : Int)) := by omega
    by_cases h2 : 240 ≤ z
    · rw [if_pos h2] at hn
      subst hn
      have g2 : (240 : Int) ≤ (z : Int) := by omega
      clear h1 h2
      go_enter Tryd.func128, Tryd.ntmps128
      go_wp2_with fail
      go_ret
      exact ⟨rfl, rfl⟩
    · rw [if_neg h2] at hn
      have g2 : ¬ ((240 : Int) ≤ (z : Int)) := by omega
      by_cases h3 : 224 ≤ z
      · rw [if_pos h3] at hn
        subst hn
        have g3 : (224 : Int) ≤ (z : Int) := by omega
        clear h1 h2 h3
        go_enter Tryd.func128, Tryd.ntmps128
        go_wp2_with fail
        go_ret
        exact ⟨rfl, rfl⟩
      · rw [if_neg h3] at hn
        have g3 : ¬ ((224 : Int) ≤ (z : Int)) := by omega
        by_cases h4 : 194 ≤ z
        · rw [if_pos h4] at hn
          subst hn
          have g4 : (194 : Int) ≤ (z : Int) := by omega
          clear h1 h2 h3 h4
          go_enter Tryd.func128, Tryd.ntmps128
          go_wp2_with fail
          go_ret
          exact ⟨rfl, rfl⟩
        · rw [if_neg h4] at hn
          have g4 : ¬ ((194 : Int) ≤ (z : Int)) := by omega
          by_cases h5 : z < 128
          · rw [if_pos h5] at hn
            subst hn
            have g5 : (z : Int) < (128 : Int) := by omega
            clear h1 h2 h3 h4 h5
            go_enter Tryd.func128, Tryd.ntmps128
            go_wp2_with fail
            go_ret
            exact ⟨rfl, rfl⟩
          · rw [if_neg h5] at hn
            subst hn
            have g5 : ¬ ((z : Int) < (128 : Int)) := by omega
            clear h1 h2 h3 h4 h5
            go_enter Tryd.func128, Tryd.ntmps128
            go_wp2_with fail
            go_ret
            exact ⟨rfl, rfl⟩
def lenR (r : Int) : Int := if r < 0 ∨ 1114111 < r ∨ (55296 ≤ r ∧ r ≤ 57343) then 0 else if r < 128 then 1 else if r < 2048 then 2 else if r < 65536 then 3 else 4
set_option maxRecDepth 100000 in
set_option maxHeartbeats 2000000 in
theorem length_any (r : Int) (w : World) : Calls Tryd.prog 130 #[.int .i64 r] w fun e w' => e = .returned (.int .i64 (lenR r)) ∧ w = w' := by
  obtain ⟨n, hn⟩ : ∃ n, n = lenR r := ⟨_, rfl⟩
  have HN := Lib.hid hn
  unfold lenR at hn
  rw [← HN.out]
  by_cases h1 : r < 0 ∨ 1114111 < r ∨ (55296 ≤ r ∧ r ≤ 57343)
  · rw [if_pos h1] at hn
    subst hn
    by_cases g1 : r < 0
    · clear h1
      go_enter Tryd.func130, Tryd.ntmps130
      go_wp2_with fail
      go_ret
      exact ⟨rfl, rfl⟩
    · by_cases g2 : 1114111 < r
      · clear h1
        go_enter Tryd.func130, Tryd.ntmps130
        go_wp2_with fail
        go_ret
        exact ⟨rfl, rfl⟩
      · have g3 : 55296 ≤ r := by omega
        have g4 : r ≤ 57343 := by omega
        clear h1
        go_enter Tryd.func130, Tryd.ntmps130
        go_wp2_with fail
        go_ret
        exact ⟨rfl, rfl⟩
  · rw [if_neg h1] at hn
    have g1 : ¬ (r < 0) := by omega
    have g2 : ¬ (1114111 < r) := by omega
    have HG : (¬ (55296 ≤ r)) ∨ (55296 ≤ r ∧ ¬ (r ≤ 57343)) := by omega
    by_cases h2 : r < 128
    · rw [if_pos h2] at hn
      subst hn
      have g3 : ¬ (55296 ≤ r) := by omega
      clear h1 HG
      go_enter Tryd.func130, Tryd.ntmps130
      go_wp2_with fail
      go_ret
      exact ⟨rfl, rfl⟩
    · rw [if_neg h2] at hn
      by_cases h3 : r < 2048
      · rw [if_pos h3] at hn
        subst hn
        have g3 : ¬ (55296 ≤ r) := by omega
        clear h1 HG
        go_enter Tryd.func130, Tryd.ntmps130
        go_wp2_with fail
        go_ret
        exact ⟨rfl, rfl⟩
      · rw [if_neg h3] at hn
        by_cases h4 : r < 65536
        · rw [if_pos h4] at hn
          subst hn
          rcases HG with g3 | ⟨g3, g4⟩
          · clear h1
            go_enter Tryd.func130, Tryd.ntmps130
            go_wp2_with fail
            go_ret
            exact ⟨rfl, rfl⟩
          · clear h1
            go_enter Tryd.func130, Tryd.ntmps130
            go_wp2_with fail
            go_ret
            exact ⟨rfl, rfl⟩
        · rw [if_neg h4] at hn
          subst hn
          have g3 : 55296 ≤ r := by omega
          have g4 : ¬ (r ≤ 57343) := by omega
          clear h1 HG
          go_enter Tryd.func130, Tryd.ntmps130
          go_wp2_with fail
          go_ret
          exact ⟨rfl, rfl⟩
end Go.Proofs.YtdfkbahlngijcaaDoor

namespace Go.Proofs.YtdfkbahlngijcaaDoor
open Go.RowKit
set_option linter.unusedVariables false

theorem ann_le (c : UInt8) : annN c ≤ 4 := by
  unfold annN
  repeat' split
  all_goals omega
/-- the rune so far, as the program reckons it -/
def rN (l : List UInt8) (n : Nat) : Nat → Int
  | 0 => 0
  | 1 => if 1 < n then bits BinOp.and IntKind.i64 (wrap64 ((l.getD 0 0).toNat : Int)) (127 / 2 ^ n) else wrap64 ((l.getD 0 0).toNat : Int)
  | i + 2 => bits BinOp.or IntKind.i64 (wrap64 (rN l n (i + 1) * 64)) (wrap64 (bits BinOp.and IntKind.u8 ((l.getD (i + 1) 0).toNat : Int) 63))
/-- the bytes behind the first one, below n, continue -/
def conts (l : List UInt8) (n : Nat) : Prop := ∀ j, 1 ≤ j → j < n → isC (l.getD j 0) = true
def okRune (l : List UInt8) (n : Nat) : Prop := n ≠ 0 ∧ n ≤ l.length ∧ conts l n ∧ lenR (rN l n n) = n
open Classical in
/-- how many bytes the first rune has -/
noncomputable def vstep (l : List UInt8) : Option Nat := if okRune l (annN (l.getD 0 0)) then some (annN (l.getD 0 0)) else none
theorem vstep_yes {l : List UInt8} (h : okRune l (annN (l.getD 0 0))) : vstep l = some (annN (l.getD 0 0)) := if_pos h
theorem vstep_no {l : List UInt8} (h : ¬ okRune l (annN (l.getD 0 0))) : vstep l = none := if_neg h
theorem getD_at (s : ByteArray) {i : Nat} (h : i < s.size) : s.data.toList.getD i 0 = s[i] := by
  rw [List.getD_eq_getElem?_getD, byte_at s h]
  rfl
theorem rN_next (l : List UInt8) (n : Nat) {i : Nat} (h : 1 ≤ i) : rN l n (i + 1) = bits BinOp.or IntKind.i64 (wrap64 (rN l n i * 64)) (wrap64 (bits BinOp.and IntKind.u8 ((l.getD i 0).toNat : Int) 63)) := by
  obtain ⟨k, rfl⟩ : ∃ k, i = k + 1 := ⟨i - 1, by omega⟩
  rfl
def DecPost (l : List UInt8) (w : World) (e : Ending) (w' : World) : Prop :=
  ((∃ (r : Int) (m : Nat), vstep l = some m ∧ e = .returned (.tuple #[.int .i64 r, .int .i64 m, .int .i64 0])) ∨ (vstep l = none ∧ e = .returned (.tuple #[.int .i64 0, .int .i64 0, .int .i64 11]))) ∧ w = w'
theorem dec_bad {l : List UInt8} {w : World} (h : vstep l = none) : DecPost l w (.returned (.tuple #[.int .i64 0, .int .i64 0, .int .i64 11])) w := ⟨.inr ⟨h, rfl⟩, rfl⟩
theorem dec_good {l : List UInt8} {w : World} {m : Nat} (r : Int) (h : vstep l = some m) : DecPost l w (.returned (.tuple #[.int .i64 r, .int .i64 m, .int .i64 0])) w := ⟨.inl ⟨r, m, h, rfl⟩, rfl⟩
set_option maxRecDepth 100000 in
set_option maxHeartbeats 8000000 in
theorem decode_any (s : ByteArray) (w : World) (h0 : 0 < s.size) (hs : s.size ≤ 1048576) : Calls Tryd.prog 110 #[.string s] w (DecPost s.data.toList w) := by
  have HA := Lib.hid (announced_any s[0] w)
  have hne := str_some (t := s) (by omega)
  have HG0 := Lib.hid (getD_at s h0)
  have HLL := Lib.hid (show s.data.toList.length = s.size from Array.length_toList ..)
  have h4 := ann_le s[0]
  have HV := Lib.hid (show ∀ n, n = annN s[0] → (okRune s.data.toList n → vstep s.data.toList = some n) ∧ (¬ okRune s.data.toList n → vstep s.data.toList = none) from fun n hn => by
    subst hn
    rw [← HG0.out]
    exact ⟨vstep_yes, vstep_no⟩)
  obtain ⟨n, hn⟩ : ∃ n, n = annN s[0] := ⟨_, rfl⟩
  have HVN := Lib.hid (HV.out n hn)
  rw [← hn] at HA h4
  clear HV hn
  have hs0 : (0 : Int) < (s.size : Int) := by omega
  have hn4 : (0 : Int) ≤ (n : Int) := by omega
  by_cases hz : n = 0
  · as_aux_lemma =>
    subst hz
    have HN := Lib.hid (HVN.out.2 fun h => h.1 rfl)
    go_enter Tryd.func110, Tryd.ntmps110
    go_wp2_with fail
    refine (HA.out).mono ?_; rintro e w1 ⟨rfl, rfl⟩
    go_wp2_with fail
    go_ret3
    exact dec_bad HN.out
  · have hn1 : ((n : Int) == 0) = false := by rw [beq_eq_false_iff_ne]; omega
    by_cases hb : s.size < n
    · as_aux_lemma =>
      have HN := Lib.hid (HVN.out.2 fun h => by have := h.2.1; rw [HLL.out] at this; omega)
      have hn5 : (s.size : Int) < (n : Int) := by omega
      have hn6 : decide (s.size < n) = true := decide_eq_true hb
      clear hb hz
      go_enter Tryd.func110, Tryd.ntmps110
      go_wp2_with fail
      refine (HA.out).mono ?_; rintro e w1 ⟨rfl, rfl⟩
      go_wp2_with fail
      go_ret3
      exact dec_bad HN.out
    · have hn2 : decide (s.size < n) = false := decide_eq_false (by omega)
      have hn5 : ¬ ((s.size : Int) < (n : Int)) := by omega
      have HBN := Lib.hid (show n ≤ s.size by omega)
      have HNZ := Lib.hid hz
      clear hz hb
      by_cases h1 : 1 < n
      · as_aux_lemma =>
        have hn3 : (1 : Int) < (n : Int) := by omega
        have HR1 := Lib.hid (show bits BinOp.and IntKind.i64 (wrap64 (s[0].toNat : Int)) (127 / 2 ^ n) = rN s.data.toList n 1 by
          show _ = (if 1 < n then bits BinOp.and IntKind.i64 (wrap64 ((s.data.toList.getD 0 0).toNat : Int)) (127 / 2 ^ n) else _)
          rw [if_pos h1, HG0.out])
        go_enter Tryd.func110, Tryd.ntmps110
        go_wp2_with fail
        refine (HA.out).mono ?_; rintro e w1 ⟨rfl, rfl⟩
        go_wp2_with fail
        go_loop [2, 6] (fun s2 s6 => ∃ (i : Nat) (r : Int), i ≤ n ∧ 1 ≤ i ∧ s6 = .int .i64 i ∧ s2 = .int .i64 r ∧ r = rN s.data.toList n i ∧ conts s.data.toList i) (fun _ s6 => n - (intOf s6).toNat)
        case atStart => exact ⟨1, _, by omega, Nat.le_refl _, rfl, rfl, HR1.out, fun j h1 h2 => absurd h2 (by omega)⟩
        case round =>
          obtain ⟨i, r, hi, hi1, rfl, rfl, hr, hct⟩ := hrel
          have HR := Lib.hid hr
          have HCT := Lib.hid hct
          clear hr hct
          by_cases hlt : i < n
          · have hlt' : (i : Int) < (n : Int) := by omega
            have his : i < s.size := by have := HBN.out; omega
            have his' : (i : Int) < (s.size : Int) := by omega
            have hi0 : (0 : Int) ≤ (i : Int) := by omega
            have HC := Lib.hid (continues_any s[i] w)
            have HGI := Lib.hid (getD_at s his)
            by_cases hc : isC s[i] = true
            · as_aux_lemma =>
              rw [hc] at HC
              have HCT2 := Lib.hid (show conts s.data.toList (i + 1) from fun j h1 h2 => by
                rcases Nat.lt_or_ge j i with h | h
                · exact HCT.out j h1 h
                · obtain rfl : j = i := by omega
                  rw [HGI.out]; exact hc)
              have HRN := Lib.hid (rN_next s.data.toList n hi1)
              clear hc
              go_wp2_with fail
              refine (HC.out).mono ?_; rintro e w1 ⟨rfl, rfl⟩
              go_wp2_with fail
              go_round
              case rel => exact ⟨i + 1, _, by omega, by omega, by go_num, rfl, (by rw [HRN.out, ← HR.out, HGI.out]), HCT2.out⟩
              case measure => (simp [intOf] <;> omega)
            · as_aux_lemma =>
              rw [Bool.eq_false_iff.2 hc] at HC
              have HN := Lib.hid (HVN.out.2 fun h => hc (by rw [← HGI.out]; exact h.2.2.1 i hi1 hlt))
              clear hc
              go_wp2_with fail
              refine (HC.out).mono ?_; rintro e w1 ⟨rfl, rfl⟩
              go_wp2_with fail
              go_ret3
              exact dec_bad HN.out
          · as_aux_lemma =>
            obtain rfl : i = n := by omega
            have HL := Lib.hid (length_any r w)
            have hge : ¬ ((i : Int) < (i : Int)) := by omega
            clear hlt
            by_cases hl : lenR r = i
            · have HN := Lib.hid (HVN.out.1 ⟨HNZ.out, by rw [HLL.out]; exact HBN.out, HCT.out, by rw [← HR.out]; exact hl⟩)
              rw [hl] at HL
              clear hl
              go_wp2_with fail
              refine (HL.out).mono ?_; rintro e w1 ⟨rfl, rfl⟩
              go_wp2_with fail
              go_ret3
              exact dec_good _ HN.out
            · have HN := Lib.hid (HVN.out.2 fun h => hl (by rw [HR.out]; exact h.2.2.2))
              generalize lenR r = z at *
              have hz1 : (z == (i : Int)) = false := by rw [beq_eq_false_iff_ne]; exact hl
              have hz2 : (z != (i : Int)) = true := by rw [bne_iff_ne]; exact hl
              clear hl
              go_wp2_with fail
              refine (HL.out).mono ?_; rintro e w1 ⟨rfl, rfl⟩
              go_wp2_with fail
              go_ret3
              exact dec_bad HN.out
      · as_aux_lemma =>
        obtain rfl : n = 1 := by have := HNZ.out; omega
        have HR1 := Lib.hid (show wrap64 (s[0].toNat : Int) = rN s.data.toList 1 1 by
          show _ = (if 1 < 1 then _ else wrap64 ((s.data.toList.getD 0 0).toNat : Int))
          rw [if_neg (by decide), HG0.out]; rfl)
        clear h1
        go_enter Tryd.func110, Tryd.ntmps110
        go_wp2_with fail
        refine (HA.out).mono ?_; rintro e w1 ⟨rfl, rfl⟩
        go_wp2_with fail
        go_loop [2, 6] (fun s2 s6 => ∃ (i : Nat) (r : Int), i ≤ 1 ∧ 1 ≤ i ∧ s6 = .int .i64 i ∧ s2 = .int .i64 r ∧ r = rN s.data.toList 1 i ∧ conts s.data.toList i) (fun _ s6 => 1 - (intOf s6).toNat)
        case atStart => exact ⟨1, _, by omega, Nat.le_refl _, rfl, rfl, HR1.out, fun j h1 h2 => absurd h2 (by omega)⟩
        case round =>
          obtain ⟨i, r, hi, hi1, rfl, rfl, hr, hct⟩ := hrel
          have HR := Lib.hid hr
          have HCT := Lib.hid hct
          clear hr hct
          by_cases hlt : i < 1
          · exact absurd hlt (by omega)
          · as_aux_lemma =>
            obtain rfl : i = 1 := by omega
            have HL := Lib.hid (length_any r w)
            have hge : ¬ (((1 : Nat) : Int) < ((1 : Nat) : Int)) := by omega
            clear hlt
            by_cases hl : lenR r = ((1 : Nat) : Int)
            · have HN := Lib.hid (HVN.out.1 ⟨HNZ.out, by rw [HLL.out]; exact HBN.out, HCT.out, by rw [← HR.out]; exact hl⟩)
              rw [hl] at HL
              clear hl
              go_wp2_with fail
              refine (HL.out).mono ?_; rintro e w1 ⟨rfl, rfl⟩
              go_wp2_with fail
              go_ret3
              exact dec_good _ HN.out
            · have HN := Lib.hid (HVN.out.2 fun h => hl (by rw [HR.out]; exact h.2.2.2))
              generalize lenR r = z at *
              have hz1 : (z == ((1 : Nat) : Int)) = false := by rw [beq_eq_false_iff_ne]; exact hl
              have hz2 : (z != ((1 : Nat) : Int)) = true := by rw [bne_iff_ne]; exact hl
              clear hl
              go_wp2_with fail
              refine (HL.out).mono ?_; rintro e w1 ⟨rfl, rfl⟩
              go_wp2_with fail
              go_ret3
              exact dec_bad HN.out
end Go.Proofs.YtdfkbahlngijcaaDoor

namespace Go.Proofs.YtdfkbahlngijcaaDoor
open Go.RowKit
set_option linter.unusedVariables false

inductive VL : List UInt8 → Prop
  | nil : VL []
  | step {l : List UInt8} {n : Nat} (h : vstep l = some n) (k : VL (l.drop n)) : VL l
theorem vstep_some {l : List UInt8} {n : Nat} (h : vstep l = some n) : n = annN (l.getD 0 0) ∧ okRune l n := by
  by_cases k : okRune l (annN (l.getD 0 0))
  · rw [vstep_yes k] at h
    injection h with h
    subst h
    exact ⟨rfl, k⟩
  · rw [vstep_no k] at h; cases h
theorem VL.next {l : List UInt8} {n : Nat} (h : vstep l = some n) : VL l ↔ VL (l.drop n) := by
  constructor
  · intro k
    cases k with
    | nil =>
      have := (vstep_some h).2.2.1
      simp at this
      exact absurd this (vstep_some h).2.1
    | step h2 k2 =>
      rw [h] at h2
      injection h2 with h2
      rw [h2]; exact k2
  · exact fun k => .step h k
theorem VL.none {l : List UInt8} (h : vstep l = Option.none) (h0 : l ≠ []) : ¬ VL l := by
  intro k
  cases k with
  | nil => exact h0 rfl
  | step h2 _ => rw [h] at h2; cases h2
theorem rN_congr {l l' : List UInt8} {n : Nat} (h : ∀ i, i < n → l'.getD i 0 = l.getD i 0) : ∀ i, i ≤ n → rN l' n i = rN l n i
  | 0, _ => rfl
  | 1, hi => by
    show (if 1 < n then _ else _) = (if 1 < n then _ else _)
    rw [h 0 (by omega)]
  | i + 2, hi => by
    rw [rN_next l' n (by omega), rN_next l n (by omega), rN_congr h (i + 1) (by omega), h (i + 1) (by omega)]
theorem vstep_take {l l' : List UInt8} {n : Nat} (h : vstep l = some n) (e : l'.take n = l.take n) : vstep l' = some n := by
  obtain ⟨h1, h2, h3, h4, h5⟩ := vstep_some h
  have hl : n ≤ l'.length := by
    have := congrArg List.length e
    rw [List.length_take, List.length_take] at this
    omega
  have hg : ∀ i, i < n → l'.getD i 0 = l.getD i 0 := fun i hi => by
    rw [List.getD_eq_getElem?_getD, List.getD_eq_getElem?_getD]
    have := congrArg (fun t => t[i]?) e
    simp only [List.getElem?_take_of_lt hi] at this
    rw [this]
  have h0 : n = annN (l'.getD 0 0) := by rw [hg 0 (by omega)]; exact h1
  have hok : okRune l' n := ⟨h2, hl, fun j a b => by rw [hg j b]; exact h4 j a b, by rw [rN_congr hg n (Nat.le_refl _)]; exact h5⟩
  rw [h0] at hok ⊢
  exact vstep_yes hok
theorem VL.app {u v : List UInt8} (h : VL u) (k : VL v) : VL (u ++ v) := by
  induction h with
  | nil => exact k
  | @step l n h1 _ ih =>
    have hn := (vstep_some h1).2.2.1
    refine .step (vstep_take h1 (List.take_append_of_le_length hn)) ?_
    rw [List.drop_append_of_le_length hn]
    exact ih
def bndL (l : List UInt8) (p : Nat) : Prop := p = l.length ∨ (p < l.length ∧ isC (l.getD p 0) = false)
theorem getD_drop (l : List UInt8) (n i : Nat) : (l.drop n).getD i 0 = l.getD (n + i) 0 := by
  rw [List.getD_eq_getElem?_getD, List.getD_eq_getElem?_getD, List.getElem?_drop]
theorem VL.cut {l : List UInt8} (h : VL l) : ∀ p, bndL l p → VL (l.take p) ∧ VL (l.drop p) := by
  induction h with
  | nil => exact fun p _ => ⟨by rw [List.take_nil]; exact .nil, by rw [List.drop_nil]; exact .nil⟩
  | @step l n h1 h2 ih =>
    intro p hp
    obtain ⟨k1, k2, k3, k4, k5⟩ := vstep_some h1
    rcases Nat.eq_zero_or_pos p with e | e
    · subst e
      exact ⟨by rw [List.take_zero]; exact .nil, .step h1 h2⟩
    · rcases Nat.lt_or_ge p n with hpn | hpn
      · rcases hp with hp | ⟨_, hp⟩
        · omega
        · rw [k4 p (by omega) hpn] at hp; cases hp
      · have hb : bndL (l.drop n) (p - n) := by
          rcases hp with hp | ⟨hp1, hp2⟩
          · exact .inl (by rw [List.length_drop]; omega)
          · exact .inr ⟨by rw [List.length_drop]; omega, by rw [getD_drop, show n + (p - n) = p by omega]; exact hp2⟩
        obtain ⟨i1, i2⟩ := ih (p - n) hb
        refine ⟨.step (vstep_take h1 (by rw [List.take_take, Nat.min_eq_left hpn])) ?_, ?_⟩
        · rw [List.drop_take]
          exact i1
        · rw [List.drop_drop, show n + (p - n) = p by omega] at i2
          exact i2
/-- the bytes between two boundaries -/
theorem VL.mid {l : List UInt8} (h : VL l) {p q : Nat} (hpq : p ≤ q) (hp : bndL l p) (hq : bndL l q) : VL ((l.drop p).take (q - p)) := by
  have h1 := (h.cut p hp).2
  refine (h1.cut (q - p) ?_).1
  rcases hq with hq | ⟨hq1, hq2⟩
  · exact .inl (by rw [List.length_drop]; omega)
  · exact .inr ⟨by rw [List.length_drop]; omega, by rw [getD_drop, show p + (q - p) = q by omega]; exact hq2⟩
theorem bnd_list (s : ByteArray) (p : Nat) : bnd s p = true ↔ bndL s.data.toList p := by
  have hl : s.data.toList.length = s.size := Array.length_toList ..
  unfold bnd bndL
  rw [hl]
  by_cases h : p < s.size
  · rw [dif_pos h, getD_at s h]
    constructor
    · exact fun k => .inr ⟨h, by simpa using k⟩
    · rintro (k | ⟨_, k⟩)
      · omega
      · rw [k]; rfl
  · rw [dif_neg h]
    constructor
    · exact fun k => .inl (of_decide_eq_true k)
    · rintro (k | ⟨k, _⟩)
      · exact decide_eq_true k
      · exact absurd k h
open Classical in
noncomputable def validB (l : List UInt8) : Bool := decide (VL l)
open Classical in
theorem validB_iff {l : List UInt8} : validB l = true ↔ VL l := by unfold validB; exact decide_eq_true_iff
def strN : Value → Nat
  | .string t => t.size
  | _ => 0
theorem ext_drop (t : ByteArray) (m : Nat) : (t.extract m t.size).data.toList = t.data.toList.drop m := by
  rw [ByteArray.data_extract, Array.toList_extract]
  have hl : t.data.toList.length = t.size := Array.length_toList ..
  show (t.data.toList.drop m).take (t.size - m) = _
  rw [List.take_of_length_le]
  rw [List.length_drop, hl]
  exact Nat.le_refl _
set_option maxRecDepth 100000 in
set_option maxHeartbeats 4000000 in
theorem valid_str (s : ByteArray) (w : World) (hs : s.size ≤ 1048576) : Calls Tryd.prog 87 #[.string s] w fun e w' => e = .returned (.bool (validB s.data.toList)) ∧ w = w' := by
  go_enter Tryd.func87, Tryd.ntmps87
  go_wp2_with fail
  go_loop [0] (fun s0 => ∃ t : ByteArray, s0 = .string t ∧ t.size ≤ s.size ∧ (VL s.data.toList ↔ VL t.data.toList)) (fun s0 => strN s0)
  case atStart => exact ⟨s, rfl, Nat.le_refl _, Iff.rfl⟩
  case round =>
    obtain ⟨t, rfl, ht, hv⟩ := hrel
    have HV := Lib.hid hv
    clear hv
    by_cases h0 : t.size = 0
    · as_aux_lemma =>
      have HE := Lib.hid (show validB s.data.toList = true from validB_iff.2 (HV.out.2 (by rw [str_empty h0]; exact .nil)))
      obtain rfl := str_empty h0
      clear h0
      go_wp2_with fail
      go_ret
      exact ⟨by rw [HE.out] <;> rfl, rfl⟩
    · as_aux_lemma =>
      have hne := str_some h0
      have HD := Lib.hid (decode_any t w (by omega) (by omega))
      have HNE := Lib.hid (show t.data.toList ≠ [] from fun e => h0 (by have h := congrArg List.length e; rw [Array.length_toList] at h; exact h))
      have hp : 0 < t.size := by omega
      clear h0
      go_wp2_with fail
      refine (HD.out).mono ?_; rintro e w1 ⟨hd, rfl⟩
      rcases hd with ⟨r, m, hm, rfl⟩ | ⟨hm, rfl⟩
      · obtain ⟨-, k2, k3, -, -⟩ := vstep_some hm
        have k3' : m ≤ t.size := by rw [show t.data.toList.length = t.size from Array.length_toList ..] at k3; exact k3
        have hm0 : (0 : Int) ≤ (m : Int) := by omega
        have hm1 : (m : Int) ≤ (t.size : Int) := by omega
        have HN := Lib.hid (VL.next hm)
        have HSZ := Lib.hid (show (t.extract m t.size).size = t.size - m by rw [ByteArray.size_extract]; omega)
        have hm2 : 0 < m := by omega
        clear hm k2 k3
        go_wp2_with fail
        go_round
        case rel => exact ⟨t.extract m t.size, rfl, by rw [HSZ.out]; omega, by rw [HV.out, HN.out, ext_drop]⟩
        case measure =>
          show (t.extract m t.size).size < t.size
          rw [HSZ.out]; omega
      · have HE := Lib.hid (show validB s.data.toList = false from Bool.eq_false_iff.2 fun h => VL.none hm HNE.out (HV.out.1 (validB_iff.1 h)))
        clear hm
        go_wp2_with fail
        go_ret
        exact ⟨by rw [HE.out] <;> rfl, rfl⟩
end Go.Proofs.YtdfkbahlngijcaaDoor

namespace Go.Proofs.YtdfkbahlngijcaaDoor
open Go.RowKit
set_option linter.unusedVariables false

/-- a configuration -/
structure Cf where
  slots : Int
  gens : Int
  clients : Int
  readers : Int
  queue : Int
  batch : Int
  feed : Int
  t : ByteArray
def fC (x : Cf) : List Value := [.int .i64 x.slots, .int .u64 x.gens, .int .i64 x.clients, .int .i64 x.readers, .int .i64 x.queue, .int .i64 x.batch, .int .i64 x.feed, .string x.t]
def cC (x : Cf) : Array Value := #[.int .i64 x.slots, .int .u64 x.gens, .int .i64 x.clients, .int .i64 x.readers, .int .i64 x.queue, .int .i64 x.batch, .int .i64 x.feed, .string x.t]
def inR (n lo hi : Int) : Bool := decide (lo ≤ n) && decide (n ≤ hi)
def cfgOk (x : Cf) : Bool := inR x.slots 1 16384 && (inR x.gens 1 4294967295 && (inR x.clients 0 8 && (inR x.readers 0 8 && (inR x.queue 1 64 && (inR x.batch 1 16 && inR x.feed 1 64)))))
noncomputable def cfgE (x : Cf) : Int := if cfgOk x = true then (if 65536 < x.t.size then 5 else if validB x.t.data.toList = true then 0 else 11) else 2
set_option maxRecDepth 100000 in
set_option maxHeartbeats 2000000 in
theorem within_any (n lo hi : Int) (w : World) : Calls Tryd.prog 86 #[.int .i64 n, .int .i64 lo, .int .i64 hi] w fun e w' => e = .returned (.bool (inR n lo hi)) ∧ w = w' := by
  by_cases h1 : lo ≤ n
  · by_cases h2 : n ≤ hi
    · have HE := Lib.hid (show inR n lo hi = true by unfold inR; rw [decide_eq_true h1, decide_eq_true h2]; rfl)
      go_enter Tryd.func86, Tryd.ntmps86
      go_wp2_with fail
      go_ret
      exact ⟨by rw [HE.out] <;> rfl, rfl⟩
    · have HE := Lib.hid (show inR n lo hi = false by unfold inR; rw [decide_eq_false h2, Bool.and_false])
      have hd := decide_eq_false h2
      go_enter Tryd.func86, Tryd.ntmps86
      go_wp2_with fail
      go_ret
      exact ⟨by rw [HE.out] <;> rfl, rfl⟩
  · have HE := Lib.hid (show inR n lo hi = false by unfold inR; rw [decide_eq_false h1]; rfl)
    have hd := decide_eq_false h1
    go_enter Tryd.func86, Tryd.ntmps86
    go_wp2_with fail
    go_ret
    exact ⟨by rw [HE.out] <;> rfl, rfl⟩
set_option maxRecDepth 100000 in
set_option maxHeartbeats 16000000 in
theorem cfgCheck_any (x : Cf) (w : World) (ht : x.t.size ≤ 140737488355328) :
    Calls Tryd.prog 62 #[.agg #[.int .i64 x.slots, .int .u64 x.gens, .int .i64 x.clients, .int .i64 x.readers, .int .i64 x.queue, .int .i64 x.batch, .int .i64 x.feed, .string x.t]] w fun e w' => e = .returned (.int .i64 (cfgE x)) ∧ Below w.heap.size w w' := by
  have HPE := Lib.hid (show cfgE x = if cfgOk x = true then (if 65536 < x.t.size then 5 else if validB x.t.data.toList = true then 0 else 11) else 2 from rfl)
  have HPO := Lib.hid (show cfgOk x = (inR x.slots 1 16384 && (inR x.gens 1 4294967295 && (inR x.clients 0 8 && (inR x.readers 0 8 && (inR x.queue 1 64 && (inR x.batch 1 16 && inR x.feed 1 64)))))) from rfl)
  generalize cfgE x = P at *
  generalize cfgOk x = C at *
  obtain ⟨a, b, c, d, e', f, g, t⟩ := x
  replace ht : t.size ≤ 140737488355328 := ht
  replace HPE := Lib.hid (show P = if C = true then (if 65536 < t.size then 5 else if validB t.data.toList = true then 0 else 11) else 2 from HPE.out)
  replace HPO := Lib.hid (show C = (inR a 1 16384 && (inR b 1 4294967295 && (inR c 0 8 && (inR d 0 8 && (inR e' 1 64 && (inR f 1 16 && inR g 1 64)))))) from HPO.out)
  have hnb := block_new w (.cells #[.int .i64 a, .int .u64 b, .int .i64 c, .int .i64 d, .int .i64 e', .int .i64 f, .int .i64 g, .string t] 38)
  have HB2 := Lib.hid ((Below.refl w.heap.size w).alloc (Nat.le_refl _) (.cells #[.int .i64 a, .int .u64 b, .int .i64 c, .int .i64 d, .int .i64 e', .int .i64 f, .int .i64 g, .string t] 38))
  have HW := Lib.hid (fun (n lo hi : Int) => within_any n lo hi (w.alloc (.cells #[.int .i64 a, .int .u64 b, .int .i64 c, .int .i64 d, .int .i64 e', .int .i64 f, .int .i64 g, .string t] 38)))
  have HV := Lib.hid (fun (h : t.size ≤ 1048576) => valid_str t (w.alloc (.cells #[.int .i64 a, .int .u64 b, .int .i64 c, .int .i64 d, .int .i64 e', .int .i64 f, .int .i64 g, .string t] 38)) h)
  have HNB := Lib.hid hnb
  clear hnb
  go_enter Tryd.func62, Tryd.ntmps62
  go_upto_region 1 with (fail)
  try simp only [List.append_eq, List.cons_append, List.nil_append]
  generalize w.alloc (.cells #[.int .i64 a, .int .u64 b, .int .i64 c, .int .i64 d, .int .i64 e', .int .i64 f, .int .i64 g, .string t] 38) = w2 at *
  generalize hbo : w.heap.size = bo at *
  have HBO := Lib.hid hbo
  clear hbo
  have q0 := block_cell HNB.out 0
  have q1 := block_cell HNB.out 1
  have q2 := block_cell HNB.out 2
  have q3 := block_cell HNB.out 3
  have q4 := block_cell HNB.out 4
  have q5 := block_cell HNB.out 5
  have q6 := block_cell HNB.out 6
  have q7 := block_cell HNB.out 7
  simp at q0 q1 q2 q3 q4 q5 q6 q7
  clear HNB
  have HK0 := Lib.hid (HW.out a 1 16384)
  by_cases h0 : inR a 1 16384 = true
  · rw [h0] at HK0
    go_wp2_with fail
    refine (HK0.out).mono ?_; rintro e w3 ⟨rfl, rfl⟩
    by_cases g1 : b < 1
    · as_aux_lemma =>
      have h1 : inR b 1 4294967295 = false := by unfold inR; rw [decide_eq_false (by omega)]; rfl
      have HE := Lib.hid (show P = 2 by rw [HPE.out, HPO.out, h0, h1]; rfl)
      go_wp2_with fail
      go_ret
      exact ⟨by rw [HE.out] <;> rfl, by rw [HBO.out]; exact HB2.out⟩
    · have g1' : decide (b < 1) = false := decide_eq_false g1
      by_cases g2 : 4294967295 < b
      · as_aux_lemma =>
        have h1 : inR b 1 4294967295 = false := by unfold inR; rw [decide_eq_false (show ¬ (b ≤ 4294967295) by omega), Bool.and_false]
        have HE := Lib.hid (show P = 2 by rw [HPE.out, HPO.out, h0, h1]; rfl)
        go_wp2_with fail
        go_ret
        exact ⟨by rw [HE.out] <;> rfl, by rw [HBO.out]; exact HB2.out⟩
      · have g2' : decide (4294967295 < b) = false := decide_eq_false g2
        have h1 : inR b 1 4294967295 = true := by unfold inR; rw [decide_eq_true (show (1 : Int) ≤ b by omega), decide_eq_true (show b ≤ 4294967295 by omega)]; rfl
        have HK2 := Lib.hid (HW.out c 0 8)
        by_cases h2 : inR c 0 8 = true
        · rw [h2] at HK2
          go_wp2_with fail
          refine (HK2.out).mono ?_; rintro e w3 ⟨rfl, rfl⟩
          have HK3 := Lib.hid (HW.out d 0 8)
          by_cases h3 : inR d 0 8 = true
          · rw [h3] at HK3
            go_wp2_with fail
            refine (HK3.out).mono ?_; rintro e w3 ⟨rfl, rfl⟩
            have HK4 := Lib.hid (HW.out e' 1 64)
            by_cases h4 : inR e' 1 64 = true
            · rw [h4] at HK4
              go_wp2_with fail
              refine (HK4.out).mono ?_; rintro e w3 ⟨rfl, rfl⟩
              have HK5 := Lib.hid (HW.out f 1 16)
              by_cases h5 : inR f 1 16 = true
              · rw [h5] at HK5
                go_wp2_with fail
                refine (HK5.out).mono ?_; rintro e w3 ⟨rfl, rfl⟩
                have HK6 := Lib.hid (HW.out g 1 64)
                by_cases h6 : inR g 1 64 = true
                · rw [h6] at HK6
                  go_wp2_with fail
                  refine (HK6.out).mono ?_; rintro e w3 ⟨rfl, rfl⟩
                  have HC := Lib.hid (show C = true by rw [HPO.out, h0, h1, h2, h3, h4, h5, h6]; rfl)
                  clear h0 h1 h2 h3 h4 h5 h6
                  by_cases u : 65536 < t.size
                  · as_aux_lemma =>
                    have u' : (65536 : Int) < (t.size : Int) := by omega
                    have HE := Lib.hid (show P = 5 by rw [HPE.out, HC.out, if_pos rfl, if_pos u])
                    clear u
                    go_wp2_with fail
                    go_ret
                    exact ⟨by rw [HE.out] <;> rfl, by rw [HBO.out]; exact HB2.out⟩
                  · have u' : ¬ ((65536 : Int) < (t.size : Int)) := by omega
                    by_cases hv : validB t.data.toList = true
                    · as_aux_lemma =>
                      have HE := Lib.hid (show P = 0 by rw [HPE.out, HC.out, if_pos rfl, if_neg u, if_pos hv])
                      have HK := Lib.hid (HV.out (by omega))
                      rw [hv] at HK
                      clear u hv
                      go_wp2_with fail
                      refine (HK.out).mono ?_; rintro e w3 ⟨rfl, rfl⟩
                      go_wp2_with fail
                      go_ret
                      exact ⟨by rw [HE.out] <;> rfl, by rw [HBO.out]; exact HB2.out⟩
                    · as_aux_lemma =>
                      have HE := Lib.hid (show P = 11 by rw [HPE.out, HC.out, if_pos rfl, if_neg u, if_neg hv])
                      have HK := Lib.hid (HV.out (by omega))
                      rw [Bool.eq_false_iff.2 hv] at HK
                      clear u hv
                      go_wp2_with fail
                      refine (HK.out).mono ?_; rintro e w3 ⟨rfl, rfl⟩
                      go_wp2_with fail
                      go_ret
                      exact ⟨by rw [HE.out] <;> rfl, by rw [HBO.out]; exact HB2.out⟩
                · as_aux_lemma =>
                  replace h6 := Bool.eq_false_iff.2 h6
                  have HE := Lib.hid (show P = 2 by rw [HPE.out, HPO.out, h0, h1, h2, h3, h4, h5, h6]; rfl)
                  rw [h6] at HK6
                  go_wp2_with fail
                  refine (HK6.out).mono ?_; rintro e w3 ⟨rfl, rfl⟩
                  go_wp2_with fail
                  go_ret
                  exact ⟨by rw [HE.out] <;> rfl, by rw [HBO.out]; exact HB2.out⟩
              · as_aux_lemma =>
                replace h5 := Bool.eq_false_iff.2 h5
                have HE := Lib.hid (show P = 2 by rw [HPE.out, HPO.out, h0, h1, h2, h3, h4, h5]; rfl)
                rw [h5] at HK5
                go_wp2_with fail
                refine (HK5.out).mono ?_; rintro e w3 ⟨rfl, rfl⟩
                go_wp2_with fail
                go_ret
                exact ⟨by rw [HE.out] <;> rfl, by rw [HBO.out]; exact HB2.out⟩
            · as_aux_lemma =>
              replace h4 := Bool.eq_false_iff.2 h4
              have HE := Lib.hid (show P = 2 by rw [HPE.out, HPO.out, h0, h1, h2, h3, h4]; rfl)
              rw [h4] at HK4
              go_wp2_with fail
              refine (HK4.out).mono ?_; rintro e w3 ⟨rfl, rfl⟩
              go_wp2_with fail
              go_ret
              exact ⟨by rw [HE.out] <;> rfl, by rw [HBO.out]; exact HB2.out⟩
          · as_aux_lemma =>
            replace h3 := Bool.eq_false_iff.2 h3
            have HE := Lib.hid (show P = 2 by rw [HPE.out, HPO.out, h0, h1, h2, h3]; rfl)
            rw [h3] at HK3
            go_wp2_with fail
            refine (HK3.out).mono ?_; rintro e w3 ⟨rfl, rfl⟩
            go_wp2_with fail
            go_ret
            exact ⟨by rw [HE.out] <;> rfl, by rw [HBO.out]; exact HB2.out⟩
        · as_aux_lemma =>
          replace h2 := Bool.eq_false_iff.2 h2
          have HE := Lib.hid (show P = 2 by rw [HPE.out, HPO.out, h0, h1, h2]; rfl)
          rw [h2] at HK2
          go_wp2_with fail
          refine (HK2.out).mono ?_; rintro e w3 ⟨rfl, rfl⟩
          go_wp2_with fail
          go_ret
          exact ⟨by rw [HE.out] <;> rfl, by rw [HBO.out]; exact HB2.out⟩
  · as_aux_lemma =>
    replace h0 := Bool.eq_false_iff.2 h0
    have HE := Lib.hid (show P = 2 by rw [HPE.out, HPO.out, h0]; rfl)
    rw [h0] at HK0
    go_wp2_with fail
    refine (HK0.out).mono ?_; rintro e w3 ⟨rfl, rfl⟩
    go_wp2_with fail
    go_ret
    exact ⟨by rw [HE.out] <;> rfl, by rw [HBO.out]; exact HB2.out⟩
end Go.Proofs.YtdfkbahlngijcaaDoor

namespace Go.Proofs.YtdfkbahlngijcaaDoor
open Go.RowKit
set_option linter.unusedVariables false

/-- the bytes that a field takes -/
def szF (x : Ov) : Nat → Nat
  | 0 => 1
  | 1 => 2
  | 2 => 2
  | 3 => 4
  | 4 => 1
  | _ => 2 + x.t.size
theorem fldK_lt (k : Nat) : ∀ f ∈ fldK k, f ≤ 5 := by
  unfold fldK
  split <;> simp
set_option maxRecDepth 100000 in
set_option maxHeartbeats 4000000 in
theorem size_any (x : Ov) (f : Nat) (w : World) (hf : f ≤ 5) (ht : x.t.size ≤ 140737488355328) :
    Calls Tryd.prog 91 #[.agg #[.int .u8 x.k, .int .i64 x.slot, .int .i64 x.at_, .int .i64 x.n, .int .u32 x.id, .int .u8 x.g, .string x.t], .int .u8 f] w fun e w' => e = .returned (.int .i64 (szF x f : Nat)) ∧ Below w.heap.size w w' := by
  have HB := Lib.hid ((Below.refl w.heap.size w).alloc (Nat.le_refl _) (.cells (oC x) 51))
  have hnb := block_new w (.cells (oC x) 51)
  have q6 := block_cell hnb 6
  have HE := Lib.hid (fun (v : Nat) (h : v = szF x f) => (show Ending.returned (.int .i64 (v : Nat)) = .returned (.int .i64 (szF x f : Nat)) by rw [h]))
  have HX := Lib.hid (show szF x 5 = 2 + x.t.size from rfl)
  obtain ⟨k, s, a, n, id, g, t⟩ := x
  replace ht : t.size ≤ 140737488355328 := ht
  unfold oC at q6
  simp at q6
  clear hnb
  have hcs : f = 0 ∨ f = 1 ∨ f = 2 ∨ f = 3 ∨ f = 4 ∨ f = 5 := by omega
  rcases hcs with rfl | rfl | rfl | rfl | rfl | rfl
  · go_enter Tryd.func91, Tryd.ntmps91
    go_wp2_with fail
    go_ret
    exact ⟨rfl, HB.out⟩
  · go_enter Tryd.func91, Tryd.ntmps91
    go_wp2_with fail
    go_ret
    exact ⟨rfl, HB.out⟩
  · go_enter Tryd.func91, Tryd.ntmps91
    go_wp2_with fail
    go_ret
    exact ⟨rfl, HB.out⟩
  · go_enter Tryd.func91, Tryd.ntmps91
    go_wp2_with fail
    go_ret
    exact ⟨rfl, HB.out⟩
  · go_enter Tryd.func91, Tryd.ntmps91
    go_wp2_with fail
    go_ret
    exact ⟨rfl, HB.out⟩
  · have hw : IntKind.i64.wrap (2 + (t.size : Int)) = 2 + (t.size : Int) := by rw [IntKind.wrap_i64]; omega
    go_enter Tryd.func91, Tryd.ntmps91
    go_wp2_with fail
    go_ret
    exact ⟨rfl, HB.out⟩
/-- the bytes that an operation takes -/
def szO (x : Ov) : Nat := 1 + ((fldK x.k.toNat).map (szF x)).sum
/-- a program of a script: a slice of operations -/
structure Pg where
  a : Option Addr
  n : Nat
  c : Nat
  l : List Ov
def fPg (s : Pg) : List Value := [.slice s.a s.n s.c]
theorem fPg_len (s : Pg) : (fPg s).length = 1 := rfl
/-- a slice of programs in memory -/
def IsPg (w : World) (ao : Option Addr) (m : Nat) (ss : List Pg) : Prop := IsR fPg w ao m ss ∧ ∀ s ∈ ss, IsR fO w s.a s.n s.l
theorem IsPg.later {w w' : World} {ao : Option Addr} {m : Nat} {ss : List Pg} (h : IsPg w ao m ss) (hb : Below w.heap.size w w') : IsPg w' ao m ss :=
  ⟨h.1.later hb, fun s hs => (h.2 s hs).later hb⟩
def szP (p : Pg) : Nat := 2 + (p.l.map szO).sum
/-- a script's length as script.length reckons it -/
def lenSc (c : Cf) (ss : List Pg) (picks : Nat) : Nat := 15 + c.t.size + picks + (ss.map szP).sum
/-- an operation at a place of a row, laid open -/
theorem IsR.op {w w' : World} {ao : Option Addr} {len : Nat} {l : List Ov} (h : IsR fO w ao len l) (hb : Below w.heap.size w w') {j : Nat} (hj : j < len) :
    ∃ b off, ao = some ⟨b, off, none⟩ ∧ b < w.heap.size ∧ ∀ (hjl : j < l.length), ∀ i u, (fO l[j])[i]? = some u → w'.cell? ⟨b, off + j * 7 + i, none⟩ = some u := by
  obtain ⟨b, off, e, hlt, h3⟩ := h.2 (by omega)
  refine ⟨b, off, e, hlt, fun hjl i u hi => ?_⟩
  have hi' : i < 7 := by
    have := (List.getElem?_eq_some_iff.1 hi).1
    rw [fO_len] at this; exact this
  have := h3 (j * 7 + i) u (by rw [flatR_at fO_len l j i hjl hi']; exact hi)
  rw [← Nat.add_assoc] at this
  exact (hb.cell (p := ⟨b, off + j * 7 + i, none⟩) hlt).trans this
theorem IsPg.at {w w' : World} {ao : Option Addr} {m : Nat} {ss : List Pg} (h : IsPg w ao m ss) (hb : Below w.heap.size w w') {j : Nat} (hj : j < m) :
    ∃ b off, ao = some ⟨b, off, none⟩ ∧ b < w.heap.size ∧ ∀ (hjl : j < ss.length), w'.cell? ⟨b, off + j, none⟩ = some (.slice ss[j].a ss[j].n ss[j].c) := by
  obtain ⟨b, off, e, hlt, h3⟩ := h.1.2 (by omega)
  refine ⟨b, off, e, hlt, fun hjl => ?_⟩
  have := h3 (j * 1 + 0) (.slice ss[j].a ss[j].n ss[j].c) (by rw [flatR_at fPg_len ss j 0 hjl (by decide)]; rfl)
  rw [Nat.mul_one, Nat.add_zero] at this
  exact (hb.cell (p := ⟨b, off + j, none⟩) hlt).trans this
end Go.Proofs.YtdfkbahlngijcaaDoor

namespace Go.Proofs.YtdfkbahlngijcaaDoor
open Go.RowKit
set_option linter.unusedVariables false

theorem sum_take {α : Type} (f : α → Nat) {l : List α} {j : Nat} (h : j < l.length) : ((l.take (j + 1)).map f).sum = ((l.take j).map f).sum + f l[j] := by
  rw [List.take_succ_eq_append_getElem h, List.map_append, List.sum_append]
  simp
theorem sum_le {α : Type} (f : α → Nat) (l : List α) (j : Nat) : ((l.take j).map f).sum ≤ (l.map f).sum := by
  have e : l.map f = (l.take j).map f ++ (l.drop j).map f := by rw [← List.map_append, List.take_append_drop]
  rw [e, List.sum_append]
  omega
theorem sum_all {α : Type} (f : α → Nat) (l : List α) : ((l.take l.length).map f).sum = (l.map f).sum := by rw [List.take_length]
theorem len_le_sum {α : Type} (f : α → Nat) (hf : ∀ x, 1 ≤ f x) (l : List α) : l.length ≤ (l.map f).sum := by
  induction l with
  | nil => simp
  | cons a l ih => have := hf a; simp only [List.length_cons, List.map_cons, List.sum_cons]; omega
theorem plain_kind {x : Ov} (h : plainO x = true) : 1 ≤ x.k ∧ x.k ≤ 16 := by
  unfold plainO at h
  by_cases k : x.k < 1 ∨ 16 < x.k
  · rw [if_pos k] at h; cases h
  · omega
theorem plain_text {x : Ov} (h : plainO x = true) : x.t.size ≤ 256 := by
  unfold plainO at h
  by_cases k : x.k < 1 ∨ 16 < x.k
  · rw [if_pos k] at h; cases h
  · rw [if_neg k] at h
    simp only [Bool.and_eq_true] at h
    have h5 := h.2.2.2.2.2
    unfold p5 hasB at h5
    split at h5
    · exact of_decide_eq_true h5
    · have := of_decide_eq_true h5
      omega
def scA (c : Cf) (po : Option Addr) (pn pc : Nat) (qo : Option Addr) (qn qc : Nat) : Array Value := #[.int .i64 c.slots, .int .u64 c.gens, .int .i64 c.clients, .int .i64 c.readers, .int .i64 c.queue, .int .i64 c.batch, .int .i64 c.feed, .string c.t, .slice po pn pc, .slice qo qn qc]
set_option maxRecDepth 100000 in
set_option maxHeartbeats 16000000 in
theorem length_sc (c : Cf) (po : Option Addr) (pn pc : Nat) (qo : Option Addr) (qn qc : Nat) (ss : List Pg) (w : World) (hp : IsPg w po pn ss)
    (hpl : ∀ s ∈ ss, ∀ x ∈ s.l, plainO x = true) (hsm : lenSc c ss qn ≤ 1000000000000) :
    Calls Tryd.prog 64 #[.agg #[.int .i64 c.slots, .int .u64 c.gens, .int .i64 c.clients, .int .i64 c.readers, .int .i64 c.queue, .int .i64 c.batch, .int .i64 c.feed, .string c.t, .slice po pn pc, .slice qo qn qc]] w fun e w' => e = .returned (.int .i64 (lenSc c ss qn : Nat)) ∧ Below w.heap.size w w' := by
  have HP := Lib.hid hp
  have HPL := Lib.hid hpl
  have hln := hp.1.1
  have HLN := Lib.hid hln
  have HB0 := Lib.hid ((Below.refl w.heap.size w).alloc (Nat.le_refl _) (.cells (scA c po pn pc qo qn qc) 42))
  have hnb := block_new w (.cells (scA c po pn pc qo qn qc) 42)
  have q7 := block_cell hnb 7
  have q8 := block_cell hnb 8
  have q9 := block_cell hnb 9
  obtain ⟨A, hA⟩ : ∃ A, A = 15 + c.t.size + qn := ⟨_, rfl⟩
  have HLS := Lib.hid (show lenSc c ss qn = A + (ss.map szP).sum by rw [hA]; rfl)
  have HT := Lib.hid (show A + (ss.map szP).sum ≤ 1000000000000 by rw [← HLS.out]; exact hsm)
  have htl : c.t.size + qn ≤ 1000000000000 := by have := HT.out; omega
  have hpnl : pn ≤ 1000000000000 := by have h1 := HT.out; have h2 := len_le_sum szP (fun x => by unfold szP; omega) ss; have h3 := HLN.out; omega
  generalize lenSc c ss qn = L at *
  obtain ⟨ca, cb, cc, cd, ce, cf, cg, t⟩ := c
  unfold scA at q7 q8 q9
  simp at q7 q8 q9
  replace htl : t.size + qn ≤ 1000000000000 := htl
  replace hA : A = 15 + t.size + qn := hA
  have hw1 : IntKind.i64.wrap (13 + (t.size : Int)) = 13 + (t.size : Int) := by rw [IntKind.wrap_i64]; omega
  have hw2 : IntKind.i64.wrap (13 + (t.size : Int) + 2) = 13 + (t.size : Int) + 2 := by rw [IntKind.wrap_i64]; omega
  have hw3 : IntKind.i64.wrap (13 + (t.size : Int) + 2 + (qn : Int)) = 13 + (t.size : Int) + 2 + (qn : Int) := by rw [IntKind.wrap_i64]; omega
  have HA := Lib.hid (show 13 + (t.size : Int) + 2 + (qn : Int) = (A : Int) by omega)
  clear hp hpl hln hnb hsm hA
  go_enter Tryd.func64, Tryd.ntmps64
  go_wp2_with fail
  rw [HA.out]
  clear hw1 hw2 hw3 q7 q8 q9
  go_loopw [3, 23] (fun s3 s23 wr => ∃ (i B : Nat), i ≤ pn ∧ s23 = .int .i64 i ∧ s3 = .int .i64 B ∧ B = A + ((ss.take i).map szP).sum ∧ Below w.heap.size w wr) (fun _ s23 _ => pn - (intOf s23).toNat)
  case atStart => exact ⟨0, A, Nat.zero_le _, rfl, rfl, rfl, HB0.out⟩
  case round =>
    obtain ⟨i, B, hi, rfl, rfl, hB, hbr⟩ := hrel
    have HBB := Lib.hid hB
    have HBR := Lib.hid hbr
    have hBl : B ≤ 1000000000000 := by have h1 := sum_le szP ss i; have h2 := HT.out; omega
    clear hB
    by_cases hlt : i < pn
    · as_aux_lemma =>
        have hlt' : (i : Int) < (pn : Int) := by omega
        have hi0 : (0 : Int) ≤ (i : Int) := by omega
        have HIL := Lib.hid (show i < ss.length by have := HLN.out; omega)
        obtain ⟨bp, op, rfl, hbp, hcl⟩ := HP.out.at hbr hlt
        have c0 := hcl HIL.out
        have HOPS := Lib.hid (HP.out.2 (ss[i]'HIL.out) (List.getElem_mem _))
        have HPS := Lib.hid (HPL.out (ss[i]'HIL.out) (List.getElem_mem _))
        have HST := Lib.hid (sum_take szP HIL.out)
        have HSL := Lib.hid (sum_le szP ss (i + 1))
        generalize ss[i]'HIL.out = p at *
        obtain ⟨sa, sn, sc, sl⟩ := p
        have HOPS2 := Lib.hid (show IsR fO w sa sn sl from HOPS.out)
        have HPS2 := Lib.hid (show ∀ x ∈ sl, plainO x = true from HPS.out)
        have HST2 := Lib.hid (show ((ss.take (i + 1)).map szP).sum = ((ss.take i).map szP).sum + (2 + (sl.map szO).sum) from HST.out)
        have HSN := Lib.hid (show sl.length = sn from HOPS.out.1)
        have HTB := Lib.hid (show B + 2 + (sl.map szO).sum ≤ 1000000000000 by have h1 := HST2.out; have h2 := HSL.out; have h3 := HT.out; have h4 := HBB.out; omega)
        have hsnl : sn ≤ 1000000000000 := by have h1 := HTB.out; have h2 := len_le_sum szO (fun x => by unfold szO; omega) sl; have h3 := HSN.out; omega
        replace c0 : wr.cell? ⟨bp, op + i, none⟩ = some (.slice sa sn sc) := c0
        clear HOPS HPS HST HSL hcl hbr
        go_wp2_with fail
        clear c0
        generalize wr = w3 at *
        go_loopw [3, 31] (fun s3 s31 wr => ∃ (j D : Nat), j ≤ sn ∧ s31 = .int .i64 j ∧ s3 = .int .i64 D ∧ D = B + 2 + ((sl.take j).map szO).sum ∧ Below w.heap.size w wr) (fun _ s31 _ => sn - (intOf s31).toNat)
        case atStart => exact ⟨0, B + 2, Nat.zero_le _, rfl, by go_num, rfl, HBR.out⟩
        case round =>
          obtain ⟨j, D, hj, rfl, rfl, hD, hbr⟩ := hrel
          have HDD := Lib.hid hD
          have HBR2 := Lib.hid hbr
          have hDl : D ≤ 1000000000000 := by have h1 := sum_le szO sl j; have h2 := HTB.out; omega
          have hszw := hbr.size
          clear hD
          by_cases hlj : j < sn
          · as_aux_lemma =>
              have hlj' : (j : Int) < (sn : Int) := by omega
              have hj0 : (0 : Int) ≤ (j : Int) := by omega
              have HJL := Lib.hid (show j < sl.length by rw [HSN.out]; exact hlj)
              obtain ⟨bo, oo, rfl, hbo, hcl⟩ := HOPS2.out.op hbr hlj
              have hcl := hcl HJL.out
              have HPX := Lib.hid (HPS2.out (sl[j]'HJL.out) (List.getElem_mem _))
              have HST := Lib.hid (sum_take szO HJL.out)
              have HSL := Lib.hid (sum_le szO sl (j + 1))
              generalize sl[j]'HJL.out = x at *
              have c0 := hcl 0 _ rfl
              have c1 := hcl 1 _ rfl
              have c2 := hcl 2 _ rfl
              have c3 := hcl 3 _ rfl
              have c4 := hcl 4 _ rfl
              have c5 := hcl 5 _ rfl
              have c6 := hcl 6 _ rfl
              rw [Nat.add_zero] at c0
              obtain ⟨k1, k2⟩ := plain_kind HPX.out
              obtain ⟨kn, hkn⟩ : ∃ kn : Nat, x.k = kn := ⟨x.k.toNat, by omega⟩
              have htx := plain_text HPX.out
              have hk1 : 1 ≤ kn := by omega
              have hk2 : kn ≤ 16 := by omega
              have HSZ := Lib.hid (show szO x = 1 + ((fldK kn).map (szF x)).sum by unfold szO; rw [hkn, Int.toNat_natCast])
              have HOB := Lib.hid (block_new wr (.cells #[.int .u8 kn, .int .i64 x.slot, .int .i64 x.at_, .int .i64 x.n, .int .u32 x.id, .int .u8 x.g, .string x.t] 51))
              have HBA := Lib.hid (hbr.alloc hszw (.cells #[.int .u8 kn, .int .i64 x.slot, .int .i64 x.at_, .int .i64 x.n, .int .u32 x.id, .int .u8 x.g, .string x.t] 51))
              have HFD := Lib.hid (fields_any kn hk1 hk2 (wr.alloc (.cells #[.int .u8 kn, .int .i64 x.slot, .int .i64 x.at_, .int .i64 x.n, .int .u32 x.id, .int .u8 x.g, .string x.t] 51)))
              have HSF := Lib.hid (fun (f : Nat) (u : World) (hf : f ≤ 5) => size_any x f u hf (by omega))
              rw [hkn] at c0 HSF
              have HL3 := Lib.hid (fldK_len kn)
              have HFL := Lib.hid (fldK_lt kn)
              have HTD := Lib.hid (show D + szO x ≤ 1000000000000 by have h1 := HST.out; have h2 := HSL.out; have h3 := HTB.out; have h4 := HDD.out; omega)
              have hkn' : (kn : Int) ≤ 16 := by omega
              generalize fldK kn = fl at *
              have hD1 : IntKind.i64.wrap ((D : Int) + 1) = (D : Int) + 1 := by rw [IntKind.wrap_i64]; omega
              clear hcl hbr hkn k1 k2
              go_wp2_with fail
              refine (HFD.out).mono ?_; rintro e w5 ⟨bf, rfl, hcf, hbf, hb5⟩
              have HO5 := Lib.hid (block_below hb5 HOB.out (by simp))
              have HB5 := Lib.hid (HBA.out.trans (hb5.mono (by have := HBA.out.size; exact this)))
              have HC5 := Lib.hid (show FldAt w5 bf fl from hcf)
              have HLT := Lib.hid (show wr.heap.size < w5.heap.size from block_lt HO5.out)
              have HBF := Lib.hid hbf
              have hs5 := HB5.out.size
              clear hcf hb5 hbf HFD HOB HBA c0 c1 c2 c3 c4 c5 c6
              obtain ⟨ln, hln⟩ : ∃ ln, ln = fl.length := ⟨_, rfl⟩
              rw [← hln]
              have HLF := Lib.hid hln
              have hl3 : ln ≤ 3 := by rw [hln]; exact HL3.out
              clear hln
              go_wp2_with fail
              generalize hwz : wr.heap.size = bz at *
              clear hwz
              go_loopw [3, 41] (fun s3 s41 wr => ∃ (q E : Nat), q ≤ ln ∧ s41 = .int .i64 q ∧ s3 = .int .i64 E ∧ E = D + 1 + ((fl.take q).map (szF x)).sum ∧ Below w5.heap.size w5 wr) (fun _ s41 _ => ln - (intOf s41).toNat)
              case atStart => exact ⟨0, D + 1, Nat.zero_le _, rfl, by go_num, rfl, Below.refl _ _⟩
              case round =>
                obtain ⟨q, E, hq, rfl, rfl, hE, hbq⟩ := hrel
                have HEE := Lib.hid hE
                have HBQ := Lib.hid hbq
                have hEl : E ≤ 1000000000000 := by have h1 := sum_le (szF x) fl q; have h2 := HTD.out; have h3 := HSZ.out; omega
                clear hE
                by_cases hlq : q < ln
                · as_aux_lemma =>
                    have hlq' : (q : Int) < (ln : Int) := by omega
                    have hq0 : (0 : Int) ≤ (q : Int) := by omega
                    have HQL := Lib.hid (show q < fl.length by rw [← HLF.out]; exact hlq)
                    have cf := (hbq.cell (p := ⟨bf, q, none⟩) HBF.out).trans (HC5.out q HQL.out)
                    have HOQ := Lib.hid (block_below hbq HO5.out HLT.out)
                    have d0 := block_cell HOQ.out 0
                    have d1 := block_cell HOQ.out 1
                    have d2 := block_cell HOQ.out 2
                    have d3 := block_cell HOQ.out 3
                    have d4 := block_cell HOQ.out 4
                    have d5 := block_cell HOQ.out 5
                    have d6 := block_cell HOQ.out 6
                    simp at d0 d1 d2 d3 d4 d5 d6
                    have HST3 := Lib.hid (sum_take (szF x) HQL.out)
                    have HSL3 := Lib.hid (sum_le (szF x) fl (q + 1))
                    have HF5 := Lib.hid (HFL.out (fl[q]'HQL.out) (List.getElem_mem _))
                    generalize fl[q]'HQL.out = fv at *
                    have HCS := Lib.hid (HSF.out fv wr HF5.out)
                    have hEs : E + szF x fv ≤ 1000000000000 := by have h1 := HST3.out; have h2 := HSL3.out; have h3 := HTD.out; have h4 := HSZ.out; have h5 := HEE.out; omega
                    have hwE : IntKind.i64.wrap ((E : Int) + (szF x fv : Nat)) = (E : Int) + (szF x fv : Nat) := by rw [IntKind.wrap_i64]; omega
                    have HNX := Lib.hid (show E + szF x fv = D + 1 + ((fl.take (q + 1)).map (szF x)).sum by have h1 := HST3.out; have h5 := HEE.out; omega)
                    clear hbq
                    go_wp2_with fail
                    refine (HCS.out).mono ?_; rintro e w6 ⟨rfl, hb6⟩
                    have HB6 := Lib.hid (HBQ.out.trans (hb6.mono HBQ.out.size))
                    clear hb6
                    generalize szF x fv = zz at *
                    go_wp2_with fail
                    go_roundw
                    case rel => exact ⟨q + 1, E + zz, by omega, by go_num, by go_num, HNX.out, HB6.out⟩
                    case measure => (simp [intOf] <;> omega)
                · as_aux_lemma =>
                    have hlq' : ¬ ((q : Int) < (ln : Int)) := by omega
                    have HNX := Lib.hid (show E = B + 2 + ((sl.take (j + 1)).map szO).sum by
                      have h1 := HEE.out
                      rw [show q = fl.length by rw [← HLF.out]; omega, sum_all] at h1
                      have h2 := HST.out
                      have h3 := HSZ.out
                      have h4 := HDD.out
                      omega)
                    have HBN := Lib.hid (HB5.out.trans (hbq.mono hs5))
                    clear hlq hbq
                    go_wp2_with fail
                    go_roundw
                    case rel => exact ⟨j + 1, E, by omega, by go_num, rfl, HNX.out, HBN.out⟩
                    case measure => (simp [intOf] <;> omega)
          · as_aux_lemma =>
              have hlj' : ¬ ((j : Int) < (sn : Int)) := by omega
              have HNX := Lib.hid (show D = A + ((ss.take (i + 1)).map szP).sum by
                have h1 := HDD.out
                rw [show j = sl.length by rw [HSN.out]; omega, sum_all] at h1
                have h2 := HST2.out
                have h3 := HBB.out
                omega)
              clear hlj hbr
              go_wp2_with fail
              go_roundw
              case rel => exact ⟨i + 1, D, by omega, by go_num, rfl, HNX.out, HBR2.out⟩
              case measure => (simp [intOf] <;> omega)
    · as_aux_lemma =>
        have hlt' : ¬ ((i : Int) < (pn : Int)) := by omega
        have HE := Lib.hid (show B = L by
          have h1 := HBB.out
          rw [show i = ss.length by have := HLN.out; omega, sum_all] at h1
          rw [HLS.out]; exact h1)
        clear hlt hbr
        go_wp2_with fail
        go_ret
        exact ⟨by rw [HE.out] <;> rfl, HBR.out⟩
end Go.Proofs.YtdfkbahlngijcaaDoor

namespace Go.Proofs.YtdfkbahlngijcaaDoor
open Go.RowKit
set_option linter.unusedVariables false

/-- what the programs of a script give: 0 if they are all plain and not too long -/
def progE : List Pg → Int
  | [] => 0
  | p :: r => if 256 < p.n then 5 else if p.l.all plainO = true then progE r else 2
/-- what script.Check gives -/
noncomputable def scE (c : Cf) (ss : List Pg) (ps : List Int) : Int :=
  if cfgE c ≠ 0 then cfgE c else if (ss.length : Int) ≠ c.clients then 2 else if progE ss ≠ 0 then progE ss else if 65535 < ps.length then 5 else
    if ps.all (fun q => inR q 0 c.clients) = true then (if 65536 < lenSc c ss ps.length then 5 else 0) else 2
theorem progE_zero {ss : List Pg} (h : progE ss = 0) : ∀ s ∈ ss, s.n ≤ 256 ∧ s.l.all plainO = true := by
  induction ss with
  | nil => intro s hs; cases hs
  | cons p r ih =>
    unfold progE at h
    by_cases h1 : 256 < p.n
    · rw [if_pos h1] at h; cases h
    · rw [if_neg h1] at h
      by_cases h2 : p.l.all plainO = true
      · rw [if_pos h2] at h
        intro s hs
        rcases List.mem_cons.1 hs with rfl | hs
        · exact ⟨by omega, h2⟩
        · exact ih h s hs
      · rw [if_neg h2] at h; cases h
theorem cfg_zero {c : Cf} (h : cfgE c = 0) : 0 ≤ c.clients ∧ c.clients ≤ 8 ∧ c.t.size ≤ 65536 := by
  unfold cfgE at h
  by_cases h1 : cfgOk c = true
  · rw [if_pos h1] at h
    by_cases h2 : 65536 < c.t.size
    · rw [if_pos h2] at h; cases h
    · unfold cfgOk inR at h1
      simp only [Bool.and_eq_true, decide_eq_true_eq] at h1
      exact ⟨h1.2.2.1.1, h1.2.2.1.2, by omega⟩
  · rw [if_neg h1] at h; cases h
theorem szF_le {x : Ov} (h : x.t.size ≤ 256) (f : Nat) : szF x f ≤ 258 := by
  unfold szF; split <;> omega
theorem sum_bound {α : Type} (f : α → Nat) (b : Nat) (l : List α) (h : ∀ x ∈ l, f x ≤ b) : (l.map f).sum ≤ l.length * b := by
  induction l with
  | nil => simp
  | cons a l ih =>
    have h1 := h a (List.mem_cons_self ..)
    have h2 := ih (fun x hx => h x (List.mem_cons_of_mem _ hx))
    simp only [List.length_cons, List.map_cons, List.sum_cons, Nat.add_mul]
    omega
theorem szO_le {x : Ov} (h : plainO x = true) : szO x ≤ 775 := by
  have h1 := plain_text h
  have h2 := sum_bound (szF x) 258 (fldK x.k.toNat) (fun f _ => szF_le h1 f)
  have h3 := fldK_len x.k.toNat
  have h4 : (fldK x.k.toNat).length * 258 ≤ 3 * 258 := Nat.mul_le_mul_right _ h3
  unfold szO
  omega
theorem len_bound {c : Cf} {ss : List Pg} {n : Nat} (h : cfgE c = 0) (hl : (ss.length : Int) = c.clients) (hp : progE ss = 0) (hn : ∀ s ∈ ss, s.l.length = s.n) (hq : n ≤ 65535) :
    lenSc c ss n ≤ 1000000000000 := by
  obtain ⟨h1, h2, h3⟩ := cfg_zero h
  have h4 := sum_bound szP 198402 ss (fun s hs => by
    obtain ⟨a, b⟩ := progE_zero hp s hs
    have h5 := sum_bound szO 775 s.l (fun x hx => szO_le (List.all_eq_true.1 b x hx))
    have h6 : s.l.length * 775 ≤ 256 * 775 := Nat.mul_le_mul_right _ (by rw [hn s hs]; exact a)
    unfold szP
    omega)
  have h5 : ss.length * 198402 ≤ 8 * 198402 := Nat.mul_le_mul_right _ (by omega)
  unfold lenSc
  omega
def fI (q : Int) : List Value := [.int .i64 q]
theorem fI_len (q : Int) : (fI q).length = 1 := rfl
/-- a pick at its place, laid open -/
theorem IsR.pick {w w' : World} {ao : Option Addr} {m : Nat} {ps : List Int} (h : IsR fI w ao m ps) (hb : Below w.heap.size w w') {j : Nat} (hj : j < m) :
    ∃ b off, ao = some ⟨b, off, none⟩ ∧ b < w.heap.size ∧ ∀ (hjl : j < ps.length), w'.cell? ⟨b, off + j, none⟩ = some (.int .i64 ps[j]) := by
  obtain ⟨b, off, e, hlt, h3⟩ := h.2 (by omega)
  refine ⟨b, off, e, hlt, fun hjl => ?_⟩
  have := h3 (j * 1 + 0) (.int .i64 ps[j]) (by rw [flatR_at fI_len ps j 0 hjl (by decide)]; rfl)
  rw [Nat.mul_one, Nat.add_zero] at this
  exact (hb.cell (p := ⟨b, off + j, none⟩) hlt).trans this
theorem drop_at {α : Type} {l : List α} {j : Nat} (h : j < l.length) : l.drop j = l[j] :: l.drop (j + 1) := List.drop_eq_getElem_cons h
end Go.Proofs.YtdfkbahlngijcaaDoor

namespace Go.Proofs.YtdfkbahlngijcaaDoor
open Go.RowKit
set_option linter.unusedVariables false

set_option maxRecDepth 100000 in
set_option maxHeartbeats 16000000 in
theorem check_sc (c : Cf) (po : Option Addr) (pn pc : Nat) (qo : Option Addr) (qn qc : Nat) (ss : List Pg) (ps : List Int) (w : World) (hp : IsPg w po pn ss) (hq : IsR fI w qo qn ps)
    (hct : c.t.size ≤ 140737488355328) (hpt : ∀ s ∈ ss, ∀ x ∈ s.l, x.t.size ≤ 140737488355328) (hpn : pn ≤ 140737488355328) (hqn : qn ≤ 140737488355328) :
    Calls Tryd.prog 25 #[.agg #[.int .i64 c.slots, .int .u64 c.gens, .int .i64 c.clients, .int .i64 c.readers, .int .i64 c.queue, .int .i64 c.batch, .int .i64 c.feed, .string c.t, .slice po pn pc, .slice qo qn qc]] w fun e w' => e = .returned (.int .i64 (scE c ss ps)) ∧ Below w.heap.size w w' := by
  have HP := Lib.hid hp
  have HQ := Lib.hid hq
  have HLN := Lib.hid (show ss.length = pn from hp.1.1)
  have HQN := Lib.hid (show ps.length = qn from hq.1)
  have HPT := Lib.hid hpt
  have HSC := Lib.hid (show scE c ss ps = if cfgE c ≠ 0 then cfgE c else if (ss.length : Int) ≠ c.clients then 2 else if progE ss ≠ 0 then progE ss else if 65535 < ps.length then 5 else
    if ps.all (fun q => inR q 0 c.clients) = true then (if 65536 < lenSc c ss ps.length then 5 else 0) else 2 from rfl)
  have HLB := Lib.hid (fun h1 h2 h3 h4 h5 => len_bound (c := c) (ss := ss) (n := qn) h1 h2 h3 h4 h5)
  have HLEN := Lib.hid (fun (u : World) (h : IsPg u po pn ss) h2 h3 => length_sc c po pn pc qo qn qc ss u h h2 h3)
  have HB0 := Lib.hid ((Below.refl w.heap.size w).alloc (Nat.le_refl _) (.cells (scA c po pn pc qo qn qc) 42))
  have HNB := Lib.hid (block_new w (.cells (scA c po pn pc qo qn qc) 42))
  have HCK := Lib.hid (cfgCheck_any c (w.alloc (.cells (scA c po pn pc qo qn qc) 42)) hct)
  rw [HLN.out, HQN.out] at HSC
  have HSM := Lib.hid (show IsPg w po pn ss from hp)
  generalize hE : cfgE c = E at *
  have HE := Lib.hid hE
  generalize scE c ss ps = P at *
  obtain ⟨L, hL⟩ : ∃ L, L = lenSc c ss qn := ⟨_, rfl⟩
  rw [← hL] at HSC HLEN HLB
  clear hL
  obtain ⟨ca, cb, cl, cd, ce, cf, cg, t⟩ := c
  replace HSC := Lib.hid (show P = if E ≠ 0 then E else if (pn : Int) ≠ cl then 2 else if progE ss ≠ 0 then progE ss else if 65535 < qn then 5 else
    if ps.all (fun q => inR q 0 cl) = true then (if 65536 < L then 5 else 0) else 2 from HSC.out)
  clear hE hp hq hpt
  have q0 := block_cell HNB.out 0
  have q1 := block_cell HNB.out 1
  have q2 := block_cell HNB.out 2
  have q3 := block_cell HNB.out 3
  have q4 := block_cell HNB.out 4
  have q5 := block_cell HNB.out 5
  have q6 := block_cell HNB.out 6
  have q7 := block_cell HNB.out 7
  unfold scA at q0 q1 q2 q3 q4 q5 q6 q7 HNB HCK HB0
  simp at q0 q1 q2 q3 q4 q5 q6 q7
  replace HLEN := Lib.hid (show ∀ (u : World), IsPg u po pn ss → (∀ s ∈ ss, ∀ x ∈ s.l, plainO x = true) → L ≤ 1000000000000 → Calls Tryd.prog 64 #[.agg #[.int .i64 ca, .int .u64 cb, .int .i64 cl, .int .i64 cd, .int .i64 ce, .int .i64 cf, .int .i64 cg, .string t, .slice po pn pc, .slice qo qn qc]] u fun e w' => e = .returned (.int .i64 (L : Nat)) ∧ Below u.heap.size u w' from HLEN.out)
  go_enter Tryd.func25, Tryd.ntmps25
  go_wp2_with fail
  refine (HCK.out).mono ?_; rintro e w2 ⟨rfl, hb2⟩
  have HO2 := Lib.hid (block_below hb2 HNB.out (by simp))
  have HB2 := Lib.hid (HB0.out.trans (hb2.mono (by have := HB0.out.size; exact this)))
  have HLT := Lib.hid (block_lt HO2.out)
  have HP2 := Lib.hid (HP.out.later HB2.out)
  have HQ2 := Lib.hid (HQ.out.later HB2.out)
  clear hb2 HCK HB0 HNB q0 q1 q2 q3 q4 q5 q6 q7 HP HQ HSM
  generalize hbo : w.heap.size = bz0 at *
  have HBO := Lib.hid hbo
  have HSZ := Lib.hid (show bz0 ≤ w2.heap.size by have := HLT.out; omega)
  clear hbo
  have q0 := block_cell HO2.out 0
  have q1 := block_cell HO2.out 1
  have q2 := block_cell HO2.out 2
  have q3 := block_cell HO2.out 3
  have q4 := block_cell HO2.out 4
  have q5 := block_cell HO2.out 5
  have q6 := block_cell HO2.out 6
  have q7 := block_cell HO2.out 7
  have q8 := block_cell HO2.out 8
  have q9 := block_cell HO2.out 9
  simp at q0 q1 q2 q3 q4 q5 q6 q7 q8 q9
  by_cases h0 : E = 0
  · have HE0 := Lib.hid (show cfgE { slots := ca, gens := cb, clients := cl, readers := cd, queue := ce, batch := cf, feed := cg, t := t } = 0 from HE.out.trans h0)
    subst h0
    by_cases h1 : (pn : Int) = cl
    · subst h1
      go_wp2_with fail
      go_loopw [26] (fun s26 wr => ∃ (i : Nat), i ≤ pn ∧ s26 = .int .i64 i ∧ progE ss = progE (ss.drop i) ∧ Below w2.heap.size w2 wr) (fun s26 _ => pn - (intOf s26).toNat)
      case atStart => exact ⟨0, Nat.zero_le _, rfl, rfl, Below.refl _ _⟩
      case round =>
        obtain ⟨i, hi, rfl, hG, hbr⟩ := hrel
        have HG := Lib.hid hG
        have HBR := Lib.hid hbr
        clear hG
        by_cases hlt : i < pn
        · as_aux_lemma =>
            have hlt' : (i : Int) < (pn : Int) := by omega
            have hi0 : (0 : Int) ≤ (i : Int) := by omega
            have HIL := Lib.hid (show i < ss.length by rw [HLN.out]; exact hlt)
            obtain ⟨bp, op, rfl, hbp, hcl⟩ := HP2.out.at hbr hlt
            have c0 := hcl HIL.out
            have HOPS := Lib.hid (HP2.out.2 (ss[i]'HIL.out) (List.getElem_mem _))
            have HPX := Lib.hid (HPT.out (ss[i]'HIL.out) (List.getElem_mem _))
            have HG2 := Lib.hid (show progE ss = if 256 < (ss[i]'HIL.out).n then 5 else if (ss[i]'HIL.out).l.all plainO = true then progE (ss.drop (i + 1)) else 2 by rw [HG.out, drop_at HIL.out]; rfl)
            generalize ss[i]'HIL.out = p at *
            obtain ⟨sa, sn, sc, sl⟩ := p
            have HOPS2 := Lib.hid (show IsR fO w2 sa sn sl from HOPS.out)
            have HPX2 := Lib.hid (show ∀ x ∈ sl, x.t.size ≤ 140737488355328 from HPX.out)
            have HSN := Lib.hid (show sl.length = sn from HOPS.out.1)
            replace HG2 := Lib.hid (show progE ss = if 256 < sn then 5 else if sl.all plainO = true then progE (ss.drop (i + 1)) else 2 from HG2.out)
            replace c0 : wr.cell? ⟨bp, op + i, none⟩ = some (.slice sa sn sc) := c0
            clear HOPS HPX hcl
            by_cases h256 : 256 < sn
            · have h256' : (256 : Int) < (sn : Int) := by omega
              have HX := Lib.hid (show P = 5 by rw [HSC.out, if_neg (fun h => h rfl), if_neg (fun h => h rfl), HG2.out, if_pos h256, if_pos (by decide)])
              clear hbr
              go_wp2_with fail
              go_ret
              exact ⟨by rw [HX.out] <;> rfl, by rw [HBO.out]; exact HB2.out.trans (HBR.out.mono HSZ.out)⟩
            · have h256' : ¬ ((256 : Int) < (sn : Int)) := by omega
              have hsn : (sn : Int) ≤ 256 := by omega
              clear hbr
              go_wp2_with fail
              clear c0
              generalize wr = w3 at *
              go_loopw [35] (fun s35 wr => ∃ (j : Nat), j ≤ sn ∧ s35 = .int .i64 j ∧ sl.all plainO = (sl.drop j).all plainO ∧ Below w2.heap.size w2 wr) (fun s35 _ => sn - (intOf s35).toNat)
              case atStart => exact ⟨0, Nat.zero_le _, rfl, rfl, HBR.out⟩
              case round =>
                obtain ⟨j, hj, rfl, hA, hbj⟩ := hrel
                have HA := Lib.hid hA
                have HBJ := Lib.hid hbj
                have hszj := hbj.size
                clear hA
                by_cases hlj : j < sn
                · as_aux_lemma =>
                    have hlj' : (j : Int) < (sn : Int) := by omega
                    have hj0 : (0 : Int) ≤ (j : Int) := by omega
                    have HJL := Lib.hid (show j < sl.length by rw [HSN.out]; exact hlj)
                    obtain ⟨bo, oo, rfl, hbo, hcl⟩ := HOPS2.out.op hbj hlj
                    have hcl := hcl HJL.out
                    have HT := Lib.hid (HPX2.out (sl[j]'HJL.out) (List.getElem_mem _))
                    have HA2 := Lib.hid (show sl.all plainO = (plainO (sl[j]'HJL.out) && (sl.drop (j + 1)).all plainO) by rw [HA.out, drop_at HJL.out]; rfl)
                    generalize sl[j]'HJL.out = x at *
                    have c0 := hcl 0 _ rfl
                    have c1 := hcl 1 _ rfl
                    have c2 := hcl 2 _ rfl
                    have c3 := hcl 3 _ rfl
                    have c4 := hcl 4 _ rfl
                    have c5 := hcl 5 _ rfl
                    have c6 := hcl 6 _ rfl
                    rw [Nat.add_zero] at c0
                    have HOB := Lib.hid (block_new wr (.cells #[.int .u8 x.k, .int .i64 x.slot, .int .i64 x.at_, .int .i64 x.n, .int .u32 x.id, .int .u8 x.g, .string x.t] 51))
                    have HBA := Lib.hid (hbj.alloc hszj (.cells #[.int .u8 x.k, .int .i64 x.slot, .int .i64 x.at_, .int .i64 x.n, .int .u32 x.id, .int .u8 x.g, .string x.t] 51))
                    have HCP := Lib.hid (plainS_any x (wr.alloc (.cells #[.int .u8 x.k, .int .i64 x.slot, .int .i64 x.at_, .int .i64 x.n, .int .u32 x.id, .int .u8 x.g, .string x.t] 51)) HT.out)
                    have d0 := block_cell HOB.out 0
                    have d1 := block_cell HOB.out 1
                    have d2 := block_cell HOB.out 2
                    have d3 := block_cell HOB.out 3
                    have d4 := block_cell HOB.out 4
                    have d5 := block_cell HOB.out 5
                    have d6 := block_cell HOB.out 6
                    simp at d0 d1 d2 d3 d4 d5 d6
                    clear hcl hbj
                    by_cases hpl : plainO x = true
                    · rw [hpl] at HCP
                      have HA3 := Lib.hid (show sl.all plainO = (sl.drop (j + 1)).all plainO by rw [HA2.out, hpl, Bool.true_and])
                      clear hpl
                      go_wp2_with fail
                      refine (HCP.out).mono ?_; rintro e w5 ⟨rfl, hb5⟩
                      have HB5 := Lib.hid (HBA.out.trans (hb5.mono (by have := HBA.out.size; exact this)))
                      clear hb5 c0 c1 c2 c3 c4 c5 c6 d0 d1 d2 d3 d4 d5 d6 HCP HBA HOB
                      go_wp2_with fail
                      go_roundw
                      case rel => exact ⟨j + 1, by omega, by go_num, HA3.out, HB5.out⟩
                      case measure => (simp [intOf] <;> omega)
                    · have hpf := Bool.eq_false_iff.2 hpl
                      rw [hpf] at HCP
                      have HX := Lib.hid (show P = 2 by
                        have e : progE ss = 2 := by rw [HG2.out, if_neg h256, HA2.out, hpf, Bool.false_and]; rfl
                        rw [HSC.out, if_neg (fun h => h rfl), if_neg (fun h => h rfl), e]; rfl)
                      clear hpl hpf
                      go_wp2_with fail
                      refine (HCP.out).mono ?_; rintro e w5 ⟨rfl, hb5⟩
                      have HB5 := Lib.hid (HBA.out.trans (hb5.mono (by have := HBA.out.size; exact this)))
                      clear hb5 c0 c1 c2 c3 c4 c5 c6 d0 d1 d2 d3 d4 d5 d6 HCP HBA HOB
                      go_wp2_with fail
                      go_ret
                      exact ⟨by rw [HX.out] <;> rfl, by rw [HBO.out]; exact HB2.out.trans (HB5.out.mono HSZ.out)⟩
                · as_aux_lemma =>
                    have hlj' : ¬ ((j : Int) < (sn : Int)) := by omega
                    have HA3 := Lib.hid (show sl.all plainO = true by rw [HA.out, List.drop_of_length_le (by rw [HSN.out]; omega)]; rfl)
                    have HG3 := Lib.hid (show progE ss = progE (ss.drop (i + 1)) by rw [HG2.out, if_neg h256, if_pos HA3.out])
                    clear hlj hbj
                    go_wp2_with fail
                    go_roundw
                    case rel => exact ⟨i + 1, by omega, by go_num, HG3.out, HBJ.out⟩
                    case measure => (simp [intOf] <;> omega)
        · as_aux_lemma =>
            have hlt' : ¬ ((i : Int) < (pn : Int)) := by omega
            have HG3 := Lib.hid (show progE ss = 0 by rw [HG.out, List.drop_of_length_le (by rw [HLN.out]; omega)]; rfl)
            replace HSC := Lib.hid (show P = if 65535 < qn then 5 else if ps.all (fun q => inR q 0 pn) = true then (if 65536 < L then 5 else 0) else 2 by
              rw [HSC.out, if_neg (fun h => h rfl), if_neg (fun h => h rfl), if_neg (fun h => h HG3.out)])
            have HOR := Lib.hid (block_below hbr HO2.out HLT.out)
            have r2 := block_cell HOR.out 2
            have r9 := block_cell HOR.out 9
            simp at r2 r9
            have hszr := hbr.size
            by_cases hq5 : 65535 < qn
            · have hq5' : (65535 : Int) < (qn : Int) := by omega
              have HX := Lib.hid (show P = 5 by rw [HSC.out, if_pos hq5])
              clear hlt hbr
              go_wp2_with fail
              go_ret
              exact ⟨by rw [HX.out] <;> rfl, by rw [HBO.out]; exact HB2.out.trans (HBR.out.mono HSZ.out)⟩
            · have hq5' : ¬ ((65535 : Int) < (qn : Int)) := by omega
              have hqn2 : (qn : Int) ≤ 65535 := by omega
              have HQ5 := Lib.hid hq5
              replace HSC := Lib.hid (show P = if ps.all (fun q => inR q 0 pn) = true then (if 65536 < L then 5 else 0) else 2 by rw [HSC.out, if_neg hq5])
              clear hlt hbr hq5
              go_wp2_with fail
              clear r2 r9
              generalize wr = w3 at *
              go_loopw [51] (fun s51 wr => ∃ (k : Nat), k ≤ qn ∧ s51 = .int .i64 k ∧ ps.all (fun q => inR q 0 pn) = (ps.drop k).all (fun q => inR q 0 pn) ∧ Below w2.heap.size w2 wr) (fun s51 _ => qn - (intOf s51).toNat)
              case atStart => exact ⟨0, Nat.zero_le _, rfl, rfl, HBR.out⟩
              case round =>
                obtain ⟨k, hk, rfl, hA, hbk⟩ := hrel
                have HA := Lib.hid hA
                have HBK := Lib.hid hbk
                have HOK := Lib.hid (block_below hbk HO2.out HLT.out)
                have hszk := hbk.size
                clear hA
                by_cases hlk : k < qn
                · as_aux_lemma =>
                    have hlk' : (k : Int) < (qn : Int) := by omega
                    have hk0 : (0 : Int) ≤ (k : Int) := by omega
                    have HKL := Lib.hid (show k < ps.length by rw [HQN.out]; exact hlk)
                    obtain ⟨bk, ok, rfl, hbk2, hcl⟩ := HQ2.out.pick hbk hlk
                    have c0 := hcl HKL.out
                    have HA2 := Lib.hid (show ps.all (fun q => inR q 0 pn) = (inR (ps[k]'HKL.out) 0 pn && (ps.drop (k + 1)).all (fun q => inR q 0 pn)) by rw [HA.out, drop_at HKL.out]; rfl)
                    generalize ps[k]'HKL.out = v at *
                    have r2 := block_cell HOK.out 2
                    simp at r2
                    clear hcl hbk
                    by_cases hv0 : v < 0
                    · have HX := Lib.hid (show P = 2 by
                        have e : inR v 0 pn = false := by unfold inR; rw [decide_eq_false (by omega)]; rfl
                        rw [HSC.out, HA2.out, e]; rfl)
                      go_wp2_with fail
                      go_ret
                      exact ⟨by rw [HX.out] <;> rfl, by rw [HBO.out]; exact HB2.out.trans (HBK.out.mono HSZ.out)⟩
                    · by_cases hv1 : (pn : Int) < v
                      · have HX := Lib.hid (show P = 2 by
                          have e : inR v 0 pn = false := by unfold inR; rw [decide_eq_false (show ¬ v ≤ (pn : Int) by omega), Bool.and_false]
                          rw [HSC.out, HA2.out, e]; rfl)
                        go_wp2_with fail
                        go_ret
                        exact ⟨by rw [HX.out] <;> rfl, by rw [HBO.out]; exact HB2.out.trans (HBK.out.mono HSZ.out)⟩
                      · have HA3 := Lib.hid (show ps.all (fun q => inR q 0 pn) = (ps.drop (k + 1)).all (fun q => inR q 0 pn) by
                          have e : inR v 0 pn = true := by unfold inR; rw [decide_eq_true (by omega), decide_eq_true (by omega)]; rfl
                          rw [HA2.out, e, Bool.true_and])
                        go_wp2_with fail
                        go_roundw
                        case rel => exact ⟨k + 1, by omega, by go_num, HA3.out, HBK.out⟩
                        case measure => (simp [intOf] <;> omega)
                · as_aux_lemma =>
                    have hlk' : ¬ ((k : Int) < (qn : Int)) := by omega
                    have HA3 := Lib.hid (show ps.all (fun q => inR q 0 pn) = true by rw [HA.out, List.drop_of_length_le (by rw [HQN.out]; omega)]; rfl)
                    replace HSC := Lib.hid (show P = if 65536 < L then 5 else 0 by rw [HSC.out, if_pos HA3.out])
                    have hL : L ≤ 1000000000000 := HLB.out trivial (by rw [HLN.out]) HG3.out (fun s hs => (HP2.out.2 s hs).1) (by have := HQ5.out; omega)
                    have HCL := Lib.hid (HLEN.out wr (HP2.out.later hbk) (fun s hs x hx => List.all_eq_true.1 (progE_zero HG3.out s hs).2 x hx) hL)
                    have r0 := block_cell HOK.out 0
                    have r1 := block_cell HOK.out 1
                    have r2 := block_cell HOK.out 2
                    have r3 := block_cell HOK.out 3
                    have r4 := block_cell HOK.out 4
                    have r5 := block_cell HOK.out 5
                    have r6 := block_cell HOK.out 6
                    have r7 := block_cell HOK.out 7
                    have r8 := block_cell HOK.out 8
                    have r9 := block_cell HOK.out 9
                    simp at r0 r1 r2 r3 r4 r5 r6 r7 r8 r9
                    clear hbk
                    by_cases h6 : 65536 < L
                    · have h6' : (65536 : Int) < (L : Int) := by omega
                      have HX := Lib.hid (show P = 5 by rw [HSC.out, if_pos h6])
                      go_wp2_with fail
                      refine (HCL.out).mono ?_; rintro e w6 ⟨rfl, hb6⟩
                      have HB6 := Lib.hid (HBK.out.trans (hb6.mono HBK.out.size))
                      clear hb6
                      go_wp2_with fail
                      go_ret
                      exact ⟨by rw [HX.out] <;> rfl, by rw [HBO.out]; exact HB2.out.trans (HB6.out.mono HSZ.out)⟩
                    · have h6' : ¬ ((65536 : Int) < (L : Int)) := by omega
                      have HX := Lib.hid (show P = 0 by rw [HSC.out, if_neg h6])
                      go_wp2_with fail
                      refine (HCL.out).mono ?_; rintro e w6 ⟨rfl, hb6⟩
                      have HB6 := Lib.hid (HBK.out.trans (hb6.mono HBK.out.size))
                      clear hb6
                      go_wp2_with fail
                      go_ret
                      exact ⟨by rw [HX.out] <;> rfl, by rw [HBO.out]; exact HB2.out.trans (HB6.out.mono HSZ.out)⟩
    · as_aux_lemma =>
      have HX := Lib.hid (show P = 2 by rw [HSC.out, if_neg (fun h => h rfl), if_pos h1])
      go_wp2_with fail
      go_ret
      exact ⟨by rw [HX.out] <;> rfl, by rw [HBO.out]; exact HB2.out⟩
  · as_aux_lemma =>
    have HX := Lib.hid (show P = E by rw [HSC.out, if_pos h0])
    go_wp2_with fail
    go_ret
    exact ⟨by rw [HX.out] <;> rfl, by rw [HBO.out]; exact HB2.out⟩
end Go.Proofs.YtdfkbahlngijcaaDoor

namespace Go.Proofs.YtdfkbahlngijcaaDoor
open Go.RowKit
set_option linter.unusedVariables false

def c1 : Cf := ⟨1, 1, 1, 0, 1, 1, 1, ⟨#[]⟩⟩
theorem valid_nil : validB ([] : List UInt8) = true := by rw [validB_iff]; exact VL.nil
def pg1 (a : Option Addr) (x : Ov) : Pg := ⟨a, 1, 1, [x]⟩
theorem scE_one (x : Ov) (a : Option Addr) : scE c1 [pg1 a x] [] = if plainO x = true then 0 else 2 := by
  have h0 : cfgE c1 = 0 := by
    unfold cfgE
    rw [if_pos (by decide), if_neg (by decide), if_pos (by exact valid_nil)]
  have h1 : progE [pg1 a x] = if plainO x = true then 0 else 2 := by
    unfold progE
    rw [if_neg (show ¬ 256 < (pg1 a x).n from by show ¬ 256 < 1; decide)]
    by_cases h : plainO x = true
    · rw [if_pos h, if_pos (by simp [h, pg1])]; rfl
    · rw [if_neg h, if_neg (by simp [h, pg1])]
  unfold scE
  rw [if_neg (by rw [h0]; exact fun h => h rfl), if_neg (show ¬ (([pg1 a x].length : Int) ≠ c1.clients) from fun h => h rfl), h1]
  by_cases h : plainO x = true
  · rw [if_pos h, if_neg (fun h => h rfl), if_neg (show ¬ 65535 < ([] : List Int).length by decide), if_pos (show ([] : List Int).all _ = true from rfl), if_neg]
    have := szO_le h
    unfold lenSc szP
    simp [c1, pg1]
    have e : (ByteArray.mk #[]).size = 0 := rfl
    omega
  · rw [if_neg h, if_pos (by decide)]
theorem one_pg (x : Ov) (v : World) (m : Nat) (hm : m = v.heap.size) :
    IsPg ((v.alloc (.cells (oC x) 51)).alloc (.cells #[.slice (some ⟨m, 0, none⟩) 1 1] 60)) (some ⟨m + 1, 0, none⟩) 1 [pg1 (some ⟨m, 0, none⟩) x] := by
  have h1 := block_new v (.cells (oC x) 51)
  have h2 := block_alloc h1 (.cells #[.slice (some ⟨m, 0, none⟩) 1 1] 60)
  have h3 := block_new (v.alloc (.cells (oC x) 51)) (.cells #[.slice (some ⟨m, 0, none⟩) 1 1] 60)
  rw [World.size_alloc] at h3
  subst hm
  refine ⟨⟨rfl, fun _ => ⟨_, _, rfl, block_lt h3, fun j u hj => ?_⟩⟩, fun s hs => ?_⟩
  · rw [Nat.zero_add, block_cell h3]
    rw [flatR_one] at hj
    simpa [fPg, pg1] using hj
  · rcases List.mem_singleton.1 hs with rfl
    refine ⟨rfl, fun _ => ⟨_, _, rfl, block_lt h2, fun j u hj => ?_⟩⟩
    rw [Nat.zero_add, block_cell h2]
    have e : flatR fO (pg1 (some ⟨v.heap.size, 0, none⟩) x).l = fO x := flatR_one fO x
    rw [e] at hj
    simpa [fO, oC] using hj
theorem plainT_any (x : Ov) (w : World) (ht : x.t.size ≤ 140737488355328) :
    Calls Tryd.prog 52 #[.agg #[.int .u8 x.k, .int .i64 x.slot, .int .i64 x.at_, .int .i64 x.n, .int .u32 x.id, .int .u8 x.g, .string x.t]] w fun e w' => e = .returned (.bool (plainO x)) ∧ Below w.heap.size w w' := by
  have HCK := Lib.hid (fun (a b : Option Addr) (u : World) (hp : IsPg u a 1 [pg1 b x]) => check_sc c1 a 1 1 none 0 0 [pg1 b x] [] u hp (IsR.nil _ _ _) (by decide) (by
    intro s hs y hy
    rcases List.mem_singleton.1 hs with rfl
    rcases List.mem_singleton.1 hy with rfl
    exact ht) (by decide) (by decide))
  have HB0 := Lib.hid ((((((Below.refl w.heap.size w).alloc (Nat.le_refl _) (.cells (oC x) 51)).alloc (by simp) (.cells #[.int .i64 1, .int .u64 1, .int .i64 1, .int .i64 0, .int .i64 1, .int .i64 1, .int .i64 1, .string ⟨#[]⟩] 38)).alloc (by simp; omega) (.cells (oC x) 51)).alloc (by simp; omega) (.cells #[.slice (some ⟨w.heap.size + 1 + 1, 0, none⟩) 1 1] 60)))
  have HPG := Lib.hid (one_pg x ((w.alloc (.cells (oC x) 51)).alloc (.cells #[.int .i64 1, .int .u64 1, .int .i64 1, .int .i64 0, .int .i64 1, .int .i64 1, .int .i64 1, .string ⟨#[]⟩] 38)) (w.heap.size + 1 + 1) (by simp))
  have HSO := Lib.hid (fun b => scE_one x b)
  unfold oC at HB0 HPG
  go_enter Tryd.func52, Tryd.ntmps52
  go_wp2_with fail
  refine (HCK.out _ _ _ HPG.out).mono ?_; rintro e w2 ⟨rfl, hb2⟩
  rw [HSO.out]
  have HB2 := Lib.hid (HB0.out.trans (hb2.mono HB0.out.size))
  clear hb2
  by_cases h : plainO x = true
  · rw [if_pos h]
    go_wp2_with fail
    go_ret
    exact ⟨by rw [h] <;> rfl, HB2.out⟩
  · rw [if_neg h]
    have hf := Bool.eq_false_iff.2 h
    go_wp2_with fail
    go_ret
    exact ⟨by rw [hf] <;> rfl, HB2.out⟩
end Go.Proofs.YtdfkbahlngijcaaDoor

namespace Go.Proofs.YtdfkbahlngijcaaDoor
open Go.RowKit
set_option linter.unusedVariables false

/-- the words of a kind: its name and the letters of its fields -/
def wordsL : Nat → List UInt8
  | 1 => [105, 110, 115, 101, 114, 116, 32, 97, 116]
  | 2 => [100, 101, 108, 101, 116, 101, 32, 97, 110]
  | 3 => [115, 101, 116, 32, 105, 97, 103]
  | 4 => [100, 114, 111, 112, 32, 105]
  | 5 => [97, 99, 113, 117, 105, 114, 101, 32]
  | 6 => [108, 101, 110, 32, 115]
  | 7 => [114, 101, 97, 100, 32, 115, 97, 110]
  | 8 => [114, 117, 110, 101, 32, 115, 110]
  | 9 => [108, 105, 110, 101, 32, 115, 110]
  | 10 => [109, 97, 114, 107, 32, 115, 105]
  | 11 => [115, 101, 101, 107, 32, 115, 97]
  | 12 => [110, 101, 120, 116, 32, 115, 110]
  | 13 => [114, 101, 108, 101, 97, 115, 101, 32, 115]
  | 14 => [115, 117, 98, 115, 99, 114, 105, 98, 101, 32]
  | 15 => [114, 101, 99, 101, 105, 118, 101, 32]
  | 16 => [99, 108, 111, 115, 101, 32]
  | _ => []
def wordsS (k : Nat) : ByteArray := ⟨(wordsL k).toArray⟩
def wordsA : Array Value := #[.string ⟨#[105, 110, 115, 101, 114, 116, 32, 97, 116]⟩, .string ⟨#[100, 101, 108, 101, 116, 101, 32, 97, 110]⟩, .string ⟨#[115, 101, 116, 32, 105, 97, 103]⟩, .string ⟨#[100, 114, 111, 112, 32, 105]⟩, .string ⟨#[97, 99, 113, 117, 105, 114, 101, 32]⟩, .string ⟨#[108, 101, 110, 32, 115]⟩, .string ⟨#[114, 101, 97, 100, 32, 115, 97, 110]⟩, .string ⟨#[114, 117, 110, 101, 32, 115, 110]⟩, .string ⟨#[108, 105, 110, 101, 32, 115, 110]⟩, .string ⟨#[109, 97, 114, 107, 32, 115, 105]⟩, .string ⟨#[115, 101, 101, 107, 32, 115, 97]⟩, .string ⟨#[110, 101, 120, 116, 32, 115, 110]⟩, .string ⟨#[114, 101, 108, 101, 97, 115, 101, 32, 115]⟩, .string ⟨#[115, 117, 98, 115, 99, 114, 105, 98, 101, 32]⟩, .string ⟨#[114, 101, 99, 101, 105, 118, 101, 32]⟩, .string ⟨#[99, 108, 111, 115, 101, 32]⟩]
theorem wix1 (w : World) : (Instr.index 132 (.agg wordsA) (.int .u8 0)).run Tryd.prog w = .ok (.string (wordsS 1)) w := by kernel_rfl
set_option maxRecDepth 100000 in
set_option maxHeartbeats 16000000 in
theorem words_1 (w : World) : Calls Tryd.prog 54 #[.int .u8 1] w fun e w' => e = .returned (.string (wordsS 1)) ∧ w = w' := by
  have hix := wix1
  unfold wordsA at hix
  generalize wordsS 1 = S at *
  go_enter Tryd.func54, Tryd.ntmps54
  go_wp2_with fail
  go_ret
  exact ⟨rfl, rfl⟩
theorem wix2 (w : World) : (Instr.index 132 (.agg wordsA) (.int .u8 1)).run Tryd.prog w = .ok (.string (wordsS 2)) w := by kernel_rfl
set_option maxRecDepth 100000 in
set_option maxHeartbeats 16000000 in
theorem words_2 (w : World) : Calls Tryd.prog 54 #[.int .u8 2] w fun e w' => e = .returned (.string (wordsS 2)) ∧ w = w' := by
  have hix := wix2
  unfold wordsA at hix
  generalize wordsS 2 = S at *
  go_enter Tryd.func54, Tryd.ntmps54
  go_wp2_with fail
  go_ret
  exact ⟨rfl, rfl⟩
theorem wix3 (w : World) : (Instr.index 132 (.agg wordsA) (.int .u8 2)).run Tryd.prog w = .ok (.string (wordsS 3)) w := by kernel_rfl
set_option maxRecDepth 100000 in
set_option maxHeartbeats 16000000 in
theorem words_3 (w : World) : Calls Tryd.prog 54 #[.int .u8 3] w fun e w' => e = .returned (.string (wordsS 3)) ∧ w = w' := by
  have hix := wix3
  unfold wordsA at hix
  generalize wordsS 3 = S at *
  go_enter Tryd.func54, Tryd.ntmps54
  go_wp2_with fail
  go_ret
  exact ⟨rfl, rfl⟩
theorem wix4 (w : World) : (Instr.index 132 (.agg wordsA) (.int .u8 3)).run Tryd.prog w = .ok (.string (wordsS 4)) w := by kernel_rfl
set_option maxRecDepth 100000 in
set_option maxHeartbeats 16000000 in
theorem words_4 (w : World) : Calls Tryd.prog 54 #[.int .u8 4] w fun e w' => e = .returned (.string (wordsS 4)) ∧ w = w' := by
  have hix := wix4
  unfold wordsA at hix
  generalize wordsS 4 = S at *
  go_enter Tryd.func54, Tryd.ntmps54
  go_wp2_with fail
  go_ret
  exact ⟨rfl, rfl⟩
theorem wix5 (w : World) : (Instr.index 132 (.agg wordsA) (.int .u8 4)).run Tryd.prog w = .ok (.string (wordsS 5)) w := by kernel_rfl
set_option maxRecDepth 100000 in
set_option maxHeartbeats 16000000 in
theorem words_5 (w : World) : Calls Tryd.prog 54 #[.int .u8 5] w fun e w' => e = .returned (.string (wordsS 5)) ∧ w = w' := by
  have hix := wix5
  unfold wordsA at hix
  generalize wordsS 5 = S at *
  go_enter Tryd.func54, Tryd.ntmps54
  go_wp2_with fail
  go_ret
  exact ⟨rfl, rfl⟩
theorem wix6 (w : World) : (Instr.index 132 (.agg wordsA) (.int .u8 5)).run Tryd.prog w = .ok (.string (wordsS 6)) w := by kernel_rfl
set_option maxRecDepth 100000 in
set_option maxHeartbeats 16000000 in
theorem words_6 (w : World) : Calls Tryd.prog 54 #[.int .u8 6] w fun e w' => e = .returned (.string (wordsS 6)) ∧ w = w' := by
  have hix := wix6
  unfold wordsA at hix
  generalize wordsS 6 = S at *
  go_enter Tryd.func54, Tryd.ntmps54
  go_wp2_with fail
  go_ret
  exact ⟨rfl, rfl⟩
theorem wix7 (w : World) : (Instr.index 132 (.agg wordsA) (.int .u8 6)).run Tryd.prog w = .ok (.string (wordsS 7)) w := by kernel_rfl
set_option maxRecDepth 100000 in
set_option maxHeartbeats 16000000 in
theorem words_7 (w : World) : Calls Tryd.prog 54 #[.int .u8 7] w fun e w' => e = .returned (.string (wordsS 7)) ∧ w = w' := by
  have hix := wix7
  unfold wordsA at hix
  generalize wordsS 7 = S at *
  go_enter Tryd.func54, Tryd.ntmps54
  go_wp2_with fail
  go_ret
  exact ⟨rfl, rfl⟩
theorem wix8 (w : World) : (Instr.index 132 (.agg wordsA) (.int .u8 7)).run Tryd.prog w = .ok (.string (wordsS 8)) w := by kernel_rfl
set_option maxRecDepth 100000 in
set_option maxHeartbeats 16000000 in
theorem words_8 (w : World) : Calls Tryd.prog 54 #[.int .u8 8] w fun e w' => e = .returned (.string (wordsS 8)) ∧ w = w' := by
  have hix := wix8
  unfold wordsA at hix
  generalize wordsS 8 = S at *
  go_enter Tryd.func54, Tryd.ntmps54
  go_wp2_with fail
  go_ret
  exact ⟨rfl, rfl⟩
theorem wix9 (w : World) : (Instr.index 132 (.agg wordsA) (.int .u8 8)).run Tryd.prog w = .ok (.string (wordsS 9)) w := by kernel_rfl
set_option maxRecDepth 100000 in
set_option maxHeartbeats 16000000 in
theorem words_9 (w : World) : Calls Tryd.prog 54 #[.int .u8 9] w fun e w' => e = .returned (.string (wordsS 9)) ∧ w = w' := by
  have hix := wix9
  unfold wordsA at hix
  generalize wordsS 9 = S at *
  go_enter Tryd.func54, Tryd.ntmps54
  go_wp2_with fail
  go_ret
  exact ⟨rfl, rfl⟩
theorem wix10 (w : World) : (Instr.index 132 (.agg wordsA) (.int .u8 9)).run Tryd.prog w = .ok (.string (wordsS 10)) w := by kernel_rfl
set_option maxRecDepth 100000 in
set_option maxHeartbeats 16000000 in
theorem words_10 (w : World) : Calls Tryd.prog 54 #[.int .u8 10] w fun e w' => e = .returned (.string (wordsS 10)) ∧ w = w' := by
  have hix := wix10
  unfold wordsA at hix
  generalize wordsS 10 = S at *
  go_enter Tryd.func54, Tryd.ntmps54
  go_wp2_with fail
  go_ret
  exact ⟨rfl, rfl⟩
theorem wix11 (w : World) : (Instr.index 132 (.agg wordsA) (.int .u8 10)).run Tryd.prog w = .ok (.string (wordsS 11)) w := by kernel_rfl
set_option maxRecDepth 100000 in
set_option maxHeartbeats 16000000 in
theorem words_11 (w : World) : Calls Tryd.prog 54 #[.int .u8 11] w fun e w' => e = .returned (.string (wordsS 11)) ∧ w = w' := by
  have hix := wix11
  unfold wordsA at hix
  generalize wordsS 11 = S at *
  go_enter Tryd.func54, Tryd.ntmps54
  go_wp2_with fail
  go_ret
  exact ⟨rfl, rfl⟩
theorem wix12 (w : World) : (Instr.index 132 (.agg wordsA) (.int .u8 11)).run Tryd.prog w = .ok (.string (wordsS 12)) w := by kernel_rfl
set_option maxRecDepth 100000 in
set_option maxHeartbeats 16000000 in
theorem words_12 (w : World) : Calls Tryd.prog 54 #[.int .u8 12] w fun e w' => e = .returned (.string (wordsS 12)) ∧ w = w' := by
  have hix := wix12
  unfold wordsA at hix
  generalize wordsS 12 = S at *
  go_enter Tryd.func54, Tryd.ntmps54
  go_wp2_with fail
  go_ret
  exact ⟨rfl, rfl⟩
theorem wix13 (w : World) : (Instr.index 132 (.agg wordsA) (.int .u8 12)).run Tryd.prog w = .ok (.string (wordsS 13)) w := by kernel_rfl
set_option maxRecDepth 100000 in
set_option maxHeartbeats 16000000 in
theorem words_13 (w : World) : Calls Tryd.prog 54 #[.int .u8 13] w fun e w' => e = .returned (.string (wordsS 13)) ∧ w = w' := by
  have hix := wix13
  unfold wordsA at hix
  generalize wordsS 13 = S at *
  go_enter Tryd.func54, Tryd.ntmps54
  go_wp2_with fail
  go_ret
  exact ⟨rfl, rfl⟩
theorem wix14 (w : World) : (Instr.index 132 (.agg wordsA) (.int .u8 13)).run Tryd.prog w = .ok (.string (wordsS 14)) w := by kernel_rfl
set_option maxRecDepth 100000 in
set_option maxHeartbeats 16000000 in
theorem words_14 (w : World) : Calls Tryd.prog 54 #[.int .u8 14] w fun e w' => e = .returned (.string (wordsS 14)) ∧ w = w' := by
  have hix := wix14
  unfold wordsA at hix
  generalize wordsS 14 = S at *
  go_enter Tryd.func54, Tryd.ntmps54
  go_wp2_with fail
  go_ret
  exact ⟨rfl, rfl⟩
theorem wix15 (w : World) : (Instr.index 132 (.agg wordsA) (.int .u8 14)).run Tryd.prog w = .ok (.string (wordsS 15)) w := by kernel_rfl
set_option maxRecDepth 100000 in
set_option maxHeartbeats 16000000 in
theorem words_15 (w : World) : Calls Tryd.prog 54 #[.int .u8 15] w fun e w' => e = .returned (.string (wordsS 15)) ∧ w = w' := by
  have hix := wix15
  unfold wordsA at hix
  generalize wordsS 15 = S at *
  go_enter Tryd.func54, Tryd.ntmps54
  go_wp2_with fail
  go_ret
  exact ⟨rfl, rfl⟩
theorem wix16 (w : World) : (Instr.index 132 (.agg wordsA) (.int .u8 15)).run Tryd.prog w = .ok (.string (wordsS 16)) w := by kernel_rfl
set_option maxRecDepth 100000 in
set_option maxHeartbeats 16000000 in
theorem words_16 (w : World) : Calls Tryd.prog 54 #[.int .u8 16] w fun e w' => e = .returned (.string (wordsS 16)) ∧ w = w' := by
  have hix := wix16
  unfold wordsA at hix
  generalize wordsS 16 = S at *
  go_enter Tryd.func54, Tryd.ntmps54
  go_wp2_with fail
  go_ret
  exact ⟨rfl, rfl⟩
theorem words_any (k : Nat) (h1 : 1 ≤ k) (h2 : k ≤ 16) (w : World) : Calls Tryd.prog 54 #[.int .u8 k] w fun e w' => e = .returned (.string (wordsS k)) ∧ w = w' := by
  have h : k = 1 ∨ k = 2 ∨ k = 3 ∨ k = 4 ∨ k = 5 ∨ k = 6 ∨ k = 7 ∨ k = 8 ∨ k = 9 ∨ k = 10 ∨ k = 11 ∨ k = 12 ∨ k = 13 ∨ k = 14 ∨ k = 15 ∨ k = 16 := by omega
  rcases h with rfl | rfl | rfl | rfl | rfl | rfl | rfl | rfl | rfl | rfl | rfl | rfl | rfl | rfl | rfl | rfl
  · exact words_1 w
  · exact words_2 w
  · exact words_3 w
  · exact words_4 w
  · exact words_5 w
  · exact words_6 w
  · exact words_7 w
  · exact words_8 w
  · exact words_9 w
  · exact words_10 w
  · exact words_11 w
  · exact words_12 w
  · exact words_13 w
  · exact words_14 w
  · exact words_15 w
  · exact words_16 w
end Go.Proofs.YtdfkbahlngijcaaDoor

namespace Go.Proofs.YtdfkbahlngijcaaDoor
open Go.RowKit
set_option linter.unusedVariables false

/-- a kind's name -/
def nameL (k : Nat) : List UInt8 := (wordsL k).takeWhile (fun c => c != 32)
/-- the letters of a kind's fields -/
def letL (k : Nat) : List UInt8 := ((wordsL k).dropWhile (fun c => c != 32)).drop 1
theorem cut_words (k : Nat) (h1 : 1 ≤ k) (h2 : k ≤ 16) : Lib.cut (wordsL k) [32] = (nameL k, letL k, true) := by
  have h : k = 1 ∨ k = 2 ∨ k = 3 ∨ k = 4 ∨ k = 5 ∨ k = 6 ∨ k = 7 ∨ k = 8 ∨ k = 9 ∨ k = 10 ∨ k = 11 ∨ k = 12 ∨ k = 13 ∨ k = 14 ∨ k = 15 ∨ k = 16 := by omega
  rcases h with rfl | rfl | rfl | rfl | rfl | rfl | rfl | rfl | rfl | rfl | rfl | rfl | rfl | rfl | rfl | rfl <;> decide
theorem letL_len (k : Nat) : (letL k).length ≤ 3 := by
  by_cases h : k ≤ 16
  · have h : k = 0 ∨ k = 1 ∨ k = 2 ∨ k = 3 ∨ k = 4 ∨ k = 5 ∨ k = 6 ∨ k = 7 ∨ k = 8 ∨ k = 9 ∨ k = 10 ∨ k = 11 ∨ k = 12 ∨ k = 13 ∨ k = 14 ∨ k = 15 ∨ k = 16 := by omega
    rcases h with rfl | rfl | rfl | rfl | rfl | rfl | rfl | rfl | rfl | rfl | rfl | rfl | rfl | rfl | rfl | rfl | rfl <;> decide
  · have e : wordsL k = [] := by unfold wordsL; split <;> first | omega | rfl
    unfold letL; rw [e]; decide
theorem wordsL_len (k : Nat) : (wordsL k).length ≤ 10 := by
  by_cases h : k ≤ 16
  · have h : k = 0 ∨ k = 1 ∨ k = 2 ∨ k = 3 ∨ k = 4 ∨ k = 5 ∨ k = 6 ∨ k = 7 ∨ k = 8 ∨ k = 9 ∨ k = 10 ∨ k = 11 ∨ k = 12 ∨ k = 13 ∨ k = 14 ∨ k = 15 ∨ k = 16 := by omega
    rcases h with rfl | rfl | rfl | rfl | rfl | rfl | rfl | rfl | rfl | rfl | rfl | rfl | rfl | rfl | rfl | rfl | rfl <;> decide
  · have e : wordsL k = [] := by unfold wordsL; split <;> first | omega | rfl
    rw [e]; decide
theorem wordsS_size (k : Nat) : (wordsS k).size ≤ 10 := by
  have := wordsL_len k
  show (wordsL k).toArray.size ≤ 10
  simpa using this
end Go.Proofs.YtdfkbahlngijcaaDoor

namespace Go.Proofs.YtdfkbahlngijcaaDoor
open Go.RowKit
set_option linter.unusedVariables false

/-- the word of a field, by its letter -/
def letW (x : Ov) (c : UInt8) : List UInt8 :=
  if c = 115 then numL x.slot else if c = 97 then numL x.at_ else if c = 110 then numL x.n else if c = 105 then numL x.id else if c = 103 then numL x.g else quoteL x.t
/-- the words of an operation -/
def opW (x : Ov) : List (List UInt8) := nameL x.k.toNat :: (letL x.k.toNat).map (letW x)
/-- the line of an operation -/
def opL (x : Ov) : List UInt8 := joinW (opW x)
structure OvOk (x : Ov) : Prop where
  k : 0 ≤ x.k ∧ x.k < 256
  id : 0 ≤ x.id ∧ x.id < 4294967296
  g : 0 ≤ x.g ∧ x.g < 256
def zeroU (x : Ov) : Prop := (0 ∉ fldK x.k.toNat → x.slot = 0) ∧ (1 ∉ fldK x.k.toNat → x.at_ = 0) ∧ (2 ∉ fldK x.k.toNat → x.n = 0) ∧ (3 ∉ fldK x.k.toNat → x.id = 0) ∧ (4 ∉ fldK x.k.toNat → x.g = 0) ∧ (5 ∉ fldK x.k.toNat → x.t.size = 0)
theorem plain_parts {x : Ov} (h : plainO x = true) : p0 x = true ∧ p1 x = true ∧ p2 x = true ∧ p3 x = true ∧ p4 x = true ∧ p5 x = true := by
  unfold plainO at h
  split at h
  · cases h
  · simpa only [Bool.and_eq_true] using h
theorem hasB_no {l : List Nat} {f : Nat} {a b : Bool} (h : hasB l f a b = true) (hn : f ∉ l) : a = true := by
  unfold hasB at h; rwa [if_neg hn] at h
theorem hasB_or {l : List Nat} {f : Nat} {a b : Bool} (h : hasB l f a b = true) : a = true ∨ b = true := by
  unfold hasB at h; split at h
  · exact .inr h
  · exact .inl h
theorem plain_zero {x : Ov} (h : plainO x = true) : zeroU x := by
  obtain ⟨h0, h1, h2, h3, h4, h5⟩ := plain_parts h
  refine ⟨fun k => ?_, fun k => ?_, fun k => ?_, fun k => ?_, fun k => ?_, fun k => ?_⟩
  · simpa using hasB_no h0 k
  · simpa using hasB_no h1 k
  · simpa using hasB_no h2 k
  · simpa using hasB_no h3 k
  · simpa using hasB_no h4 k
  · simpa using hasB_no h5 k
/-- the numbers of a plain operation -/
structure NumsOk (x : Ov) : Prop where
  slot : 0 ≤ x.slot ∧ x.slot ≤ 65535
  at_ : 0 ≤ x.at_ ∧ x.at_ ≤ 65535
  n : 0 ≤ x.n ∧ x.n ≤ 65535
theorem plain_nums {x : Ov} (h : plainO x = true) : NumsOk x := by
  obtain ⟨h0, h1, h2, h3, h4, h5⟩ := plain_parts h
  refine ⟨?_, ?_, ?_⟩
  · rcases hasB_or h0 with k | k
    · simp at k; omega
    · simp at k; omega
  · rcases hasB_or h1 with k | k
    · simp at k; omega
    · simp at k; omega
  · rcases hasB_or h2 with k | k
    · simp at k; omega
    · simp at k; omega
theorem kind_cases {k : Nat} (h1 : 1 ≤ k) (h2 : k ≤ 16) : k = 1 ∨ k = 2 ∨ k = 3 ∨ k = 4 ∨ k = 5 ∨ k = 6 ∨ k = 7 ∨ k = 8 ∨ k = 9 ∨ k = 10 ∨ k = 11 ∨ k = 12 ∨ k = 13 ∨ k = 14 ∨ k = 15 ∨ k = 16 := by omega
theorem nameL_inj_aux : ∀ a : Nat, a < 17 → ∀ b : Nat, b < 17 → 1 ≤ a → 1 ≤ b → nameL a = nameL b → a = b := by decide +kernel
theorem nameL_inj {a b : Nat} (h1 : 1 ≤ a) (h2 : a ≤ 16) (h3 : 1 ≤ b) (h4 : b ≤ 16) (h : nameL a = nameL b) : a = b := nameL_inj_aux a (by omega) b (by omega) h1 h3 h
theorem nameL_no32 : ∀ a : Nat, a < 17 → ∀ c ∈ nameL a, c ≠ 32 := by decide +kernel
theorem ov_ext {x y : Ov} (h0 : x.k = y.k) (h1 : x.slot = y.slot) (h2 : x.at_ = y.at_) (h3 : x.n = y.n) (h4 : x.id = y.id) (h5 : x.g = y.g) (h6 : x.t = y.t) : x = y := by
  cases x; cases y; simp only at *; subst h0; subst h1; subst h2; subst h3; subst h4; subst h5; subst h6; rfl
theorem numOK_of {v : Int} (h : 0 ≤ v ∧ v ≤ 4294967295) : numOK v := ⟨h.1, by omega⟩
structure NumsBig (x : Ov) : Prop where
  slot : numOK x.slot
  at_ : numOK x.at_
  n : numOK x.n
  id : numOK x.id
  g : numOK x.g
theorem NumsOk.big {x : Ov} (h : NumsOk x) (ho : OvOk x) : NumsBig x :=
  ⟨⟨h.slot.1, by have := h.slot.2; omega⟩, ⟨h.at_.1, by have := h.at_.2; omega⟩, ⟨h.n.1, by have := h.n.2; omega⟩, ⟨ho.id.1, by have := ho.id.2; omega⟩, ⟨ho.g.1, by have := ho.g.2; omega⟩⟩
theorem letW_s (x : Ov) : letW x 115 = numL x.slot := rfl
theorem letW_a (x : Ov) : letW x 97 = numL x.at_ := rfl
theorem letW_n (x : Ov) : letW x 110 = numL x.n := rfl
theorem letW_i (x : Ov) : letW x 105 = numL x.id := rfl
theorem letW_g (x : Ov) : letW x 103 = numL x.g := rfl
theorem letW_t (x : Ov) : letW x 116 = quoteL x.t := rfl
/-- the words of an operation determine it -/
theorem opW_inj {x y : Ov} (hx : zeroU x) (hy : zeroU y) (hx1 : 1 ≤ x.k ∧ x.k ≤ 16) (hy1 : 1 ≤ y.k ∧ y.k ≤ 16) (nx : NumsBig x) (ny : NumsBig y) (h : opW x = opW y) : x = y := by
  unfold opW at h
  injection h with hn hl
  have hk := nameL_inj (by omega) (by omega) (by omega) (by omega) hn
  have hk2 : x.k = y.k := by omega
  obtain ⟨k, hkx⟩ : ∃ k : Nat, x.k.toNat = k := ⟨_, rfl⟩
  unfold zeroU at hx hy
  rw [← hk] at hl hy
  rw [hkx] at hl hx hy
  have te : ∀ {a b : ByteArray}, a.size = 0 → b.size = 0 → a = b := fun {a b} ha hb => by rw [str_empty ha, str_empty hb]
  rcases kind_cases (k := k) (by omega) (by omega) with rfl | rfl | rfl | rfl | rfl | rfl | rfl | rfl | rfl | rfl | rfl | rfl | rfl | rfl | rfl | rfl
  all_goals
    simp [fldK] at hx hy
    first
      | rw [show letL _ = [97, 116] by decide] at hl
      | rw [show letL _ = [97, 110] by decide] at hl
      | rw [show letL _ = [105, 97, 103] by decide] at hl
      | rw [show letL _ = [105] by decide] at hl
      | rw [show letL _ = [] by decide] at hl
      | rw [show letL _ = [115] by decide] at hl
      | rw [show letL _ = [115, 97, 110] by decide] at hl
      | rw [show letL _ = [115, 110] by decide] at hl
      | rw [show letL _ = [115, 105] by decide] at hl
      | rw [show letL _ = [115, 97] by decide] at hl
    simp only [List.map_cons, List.map_nil, letW_s, letW_a, letW_n, letW_i, letW_g, letW_t, List.cons.injEq, and_true] at hl
    apply ov_ext hk2
    all_goals first
      | exact numL_inj nx.slot ny.slot (by first | exact hl | exact hl.1)
      | exact numL_inj nx.at_ ny.at_ (by first | exact hl | exact hl.1 | exact hl.2 | exact hl.2.1)
      | exact numL_inj nx.n ny.n (by first | exact hl | exact hl.1 | exact hl.2 | exact hl.2.2)
      | exact numL_inj nx.id ny.id (by first | exact hl | exact hl.1 | exact hl.2)
      | exact numL_inj nx.g ny.g (by first | exact hl.2.2)
      | exact quoteL_inj (by first | exact hl.2)
      | (simp only [hx, hy]; done)
      | exact te (by simp [hx]) (by simp [hy])
theorem letW_no32 (x : Ov) (c : UInt8) : ∀ d ∈ letW x c, d ≠ 32 := by
  intro d hd
  unfold letW at hd
  split at hd
  · exact numL_no32 _ d hd
  split at hd
  · exact numL_no32 _ d hd
  split at hd
  · exact numL_no32 _ d hd
  split at hd
  · exact numL_no32 _ d hd
  split at hd
  · exact numL_no32 _ d hd
  exact quote_no32 _ d hd
theorem opW_no32 {x : Ov} (hk : 1 ≤ x.k ∧ x.k ≤ 16) : ∀ w ∈ opW x, ∀ c ∈ w, c ≠ 32 := by
  intro w hw c hc
  unfold opW at hw
  rcases List.mem_cons.1 hw with rfl | hw
  · exact nameL_no32 _ (by omega) c hc
  · obtain ⟨d, _, rfl⟩ := List.mem_map.1 hw
    exact letW_no32 x d c hc
theorem opW_split {x : Ov} (hk : 1 ≤ x.k ∧ x.k ≤ 16) : splitW (opL x) = opW x := split_join (opW x) (by unfold opW; simp) (opW_no32 hk)
/-- an operation that has the line s -/
structure HasLine (s : List UInt8) (x : Ov) : Prop where
  ok : OvOk x
  plain : plainO x = true
  line : opL x = s
theorem HasLine.big {s : List UInt8} {x : Ov} (h : HasLine s x) : NumsBig x := (plain_nums h.plain).big h.ok
theorem HasLine.words {s : List UInt8} {x : Ov} (h : HasLine s x) : opW x = splitW s := by rw [← h.line, opW_split (plain_kind h.plain)]
theorem HasLine.only {s : List UInt8} {x y : Ov} (hx : HasLine s x) (hy : HasLine s y) : x = y :=
  opW_inj (plain_zero hx.plain) (plain_zero hy.plain) (plain_kind hx.plain) (plain_kind hy.plain) hx.big hy.big (by rw [hx.words, hy.words])
/-- what text.Op gives -/
def opR (x : Ov) : List UInt8 × Int := if plainO x = true then (opL x, 0) else ([], 2)
def zeroO : Ov := ⟨0, 0, 0, 0, 0, 0, ⟨#[]⟩⟩
/-- what text.ParseOp gives -/
noncomputable def parO (s : List UInt8) : Option Ov := by
  classical exact if h : ∃ x, HasLine s x then some h.choose else none
theorem parO_some {s : List UInt8} {x : Ov} (h : HasLine s x) : parO s = some x := by
  classical
  unfold parO
  have hx : ∃ x, HasLine s x := ⟨x, h⟩
  rw [dif_pos hx]
  rw [hx.choose_spec.only h]
theorem parO_none {s : List UInt8} (h : ∀ x, ¬ HasLine s x) : parO s = none := by
  classical
  unfold parO
  rw [dif_neg (fun ⟨x, hx⟩ => h x hx)]
theorem parO_inv {s : List UInt8} {x : Ov} (h : parO s = some x) : HasLine s x := by
  classical
  unfold parO at h
  split at h
  · rename_i hx
    injection h with h
    rw [← h]; exact hx.choose_spec
  · cases h
noncomputable def parR (s : List UInt8) : Ov × Int := match parO s with | some x => (x, 0) | none => (zeroO, 4)
end Go.Proofs.YtdfkbahlngijcaaDoor

namespace Go.Proofs.YtdfkbahlngijcaaDoor
open Go.RowKit
set_option linter.unusedVariables false

def setM (w : World) (r : Nat) (o : Obj) : World := { w with heap := w.heap.setIfInBounds r o }
theorem underM : Tryd.prog.underlying 103 = some (.map 21 9) := Tryd.underlying103
/-- each entry has the value that V gives its key -/
def MOk (V : Int → Option Value) (es : Array MapEntry) : Prop := ∀ e ∈ es.toList, ∃ z, e.key = .int .i32 z ∧ V z = some e.val
def Has (es : Array MapEntry) (z : Int) : Prop := ∃ e ∈ es.toList, e.key = .int .i32 z
theorem MOk.nil (V : Int → Option Value) : MOk V #[] := fun e h => by simp at h
theorem MOk.keys {V : Int → Option Value} {es : Array MapEntry} (h : MOk V es) : ∀ x ∈ es.toList, MapKept.IsKey (.int .i32) x.key := fun x hx => by
  obtain ⟨z, hz, _⟩ := h x hx
  rw [hz]; rfl
set_option maxRecDepth 100000 in
theorem run_ins {V : Int → Option Value} {w : World} {r : Nat} {es : Array MapEntry} {clk : Nat} (hb : w.heap[r]? = some (.map es clk)) (h : MOk V es) {z : Int} {v : Value} (hv : V z = some v) :
    ∃ es' clk', (Instr.mapUpdate 103 (.map (some r)) (.int .i32 z) v).run Tryd.prog w = .ok () (setM w r (.map es' clk')) ∧ MOk V es' ∧ Has es' z ∧ ∀ y, Has es y → Has es' y := by
  have hu := Tryd.underlying21
  have hk : MapKept.IsKey (.int .i32) (.int .i32 z) := rfl
  rcases MapKept.findNow_spec hk es.toList 0 h.keys with ⟨h1, h2⟩ | ⟨j, e, h1, h2, h3⟩
  · refine ⟨es.push { key := .int .i32 z, val := v, born := clk }, clk + 1, ?_, ?_, ?_, ?_⟩
    · simp [Instr.mapUpdate, run_underlying underM, MapKept.run_getObj_map hb, MapKept.run_checkKey hu hk, MapKept.run_findKey hu h1, MapKept.run_setObj_map _ hb, Result.andThen]
      rfl
    · intro e he
      simp only [Array.toList_push, List.mem_append, List.mem_singleton] at he
      rcases he with he | rfl
      · exact h e he
      · exact ⟨z, rfl, hv⟩
    · exact ⟨_, by simp only [Array.toList_push, List.mem_append, List.mem_singleton]; exact .inr rfl, rfl⟩
    · rintro y ⟨e, he, hk⟩
      exact ⟨e, by simp only [Array.toList_push, List.mem_append]; exact .inl he, hk⟩
  · have hj : es[j]? = some e := by simpa using h2
    have hmem : ∀ (f : MapEntry → MapEntry) x, x ∈ (es.modify j f).toList → x ∈ es.toList ∨ x = f e := by
      intro f x hx
      obtain ⟨i, hi⟩ := List.mem_iff_getElem?.1 hx
      rw [Array.getElem?_toList, Array.getElem?_modify] at hi
      split at hi
      · rename_i hij
        subst hij
        rw [hj] at hi
        exact .inr (Option.some.inj hi).symm
      · exact .inl (List.mem_iff_getElem?.2 ⟨i, by rw [Array.getElem?_toList]; exact hi⟩)
    have hold : ∀ (f : MapEntry → MapEntry) x, x ∈ es.toList → x ∈ (es.modify j f).toList ∨ (x = e ∧ f e ∈ (es.modify j f).toList) := by
      intro f x hx
      obtain ⟨i, hi⟩ := List.mem_iff_getElem?.1 hx
      rw [Array.getElem?_toList] at hi
      by_cases hij : j = i
      · subst hij
        rw [hj] at hi
        refine .inr ⟨(Option.some.inj hi).symm, List.mem_iff_getElem?.2 ⟨j, ?_⟩⟩
        rw [Array.getElem?_toList, Array.getElem?_modify, if_pos rfl, hj]
        rfl
      · refine .inl (List.mem_iff_getElem?.2 ⟨i, ?_⟩)
        rw [Array.getElem?_toList, Array.getElem?_modify, if_neg hij]
        exact hi
    refine ⟨es.modify j fun e => { e with key := .int .i32 z, val := v }, clk, ?_, ?_, ?_, ?_⟩
    · simp [Instr.mapUpdate, run_underlying underM, MapKept.run_getObj_map hb, MapKept.run_checkKey hu hk, MapKept.run_findKey hu h1, hj, h3, MapKept.run_keyThatStays hk, MapKept.run_setObj_map _ hb, Result.andThen]
      rfl
    · intro x hx
      rcases hmem _ x hx with hx | rfl
      · exact h x hx
      · exact ⟨z, rfl, hv⟩
    · rcases hold (fun e => { e with key := .int .i32 z, val := v }) e (List.mem_iff_getElem?.2 ⟨j, h2⟩) with hh | ⟨_, hh⟩
      · exact ⟨e, hh, h3⟩
      · exact ⟨_, hh, rfl⟩
    · rintro y ⟨x, hx, hk2⟩
      rcases hold (fun e => { e with key := .int .i32 z, val := v }) x hx with hh | ⟨rfl, hh⟩
      · exact ⟨x, hh, hk2⟩
      · refine ⟨_, hh, ?_⟩
        rw [h3] at hk2
        exact hk2
set_option maxRecDepth 100000 in
theorem run_lk {V : Int → Option Value} {w : World} {r : Nat} {es : Array MapEntry} {clk : Nat} (hb : w.heap[r]? = some (.map es clk)) (h : MOk V es) {z : Int} {v : Value} (hv : V z = some v) (hz : Has es z) :
    (Instr.lookup 103 (.map (some r)) (.int .i32 z) false).run Tryd.prog w = .ok v w := by
  have hu := Tryd.underlying21
  have hk : MapKept.IsKey (.int .i32) (.int .i32 z) := rfl
  rcases MapKept.findNow_spec hk es.toList 0 h.keys with ⟨h1, h2⟩ | ⟨j, e, h1, h2, h3⟩
  · obtain ⟨e, he, hk⟩ := hz
    exact absurd hk (h2 e he)
  · obtain ⟨y, hy, hvy⟩ := h e (List.mem_iff_getElem?.2 ⟨j, h2⟩)
    rw [h3] at hy
    injection hy with _ hy
    rw [← hy, hv] at hvy
    have e2 : v = e.val := Option.some.inj hvy
    simp [Instr.lookup, run_underlying underM, MapKept.run_getObj_map hb, MapKept.run_checkKey hu hk, MapKept.run_findKey hu h1, Result.andThen, e2]
/-- the relation between the worlds of the region: what is older than b0 stays; new blocks other than maps stay; maps only gain keys, with the values of V -/
structure RlM (b0 : Nat) (V : Int → Option Value) (w w' : World) : Prop where
  low : Below b0 w w'
  cells : ∀ (i : Nat) c t fr, w.heap[i]? = some (.cells c t fr) → w'.heap[i]? = some (.cells c t fr)
  map : ∀ (i : Nat) es clk, w.heap[i]? = some (.map es clk) → MOk V es → ∃ es' clk', w'.heap[i]? = some (.map es' clk') ∧ MOk V es' ∧ ∀ z, Has es z → Has es' z
theorem RlM.trans {b0 : Nat} {V : Int → Option Value} {a b c : World} (h : RlM b0 V a b) (k : RlM b0 V b c) : RlM b0 V a c where
  low := h.low.trans k.low
  cells := fun i cs t fr e => k.cells i cs t fr (h.cells i cs t fr e)
  map := fun i es clk e ho => by
    obtain ⟨es1, c1, e1, o1, h1⟩ := h.map i es clk e ho
    obtain ⟨es2, c2, e2, o2, h2⟩ := k.map i es1 c1 e1 o1
    exact ⟨es2, c2, e2, o2, fun z hz => h2 z (h1 z hz)⟩
theorem RlM.of {b0 : Nat} {V : Int → Option Value} {w w' : World} (hb : b0 ≤ w.heap.size) (h : Below w.heap.size w w') : RlM b0 V w w' where
  low := h.mono hb
  cells := fun i cs t fr e => block_below h e (block_lt e)
  map := fun i es clk e ho => ⟨es, clk, block_below h e (block_lt e), ho, fun z hz => hz⟩
theorem below_setM {b0 : Nat} {w : World} {r : Nat} (hr : b0 ≤ r) (o : Obj) : Below b0 w (setM w r o) where
  os := rfl
  tape := rfl
  output := rfl
  size := by simp [setM]
  block := fun i hi => by
    show (w.heap.setIfInBounds r o)[i]? = w.heap[i]?
    rw [Array.getElem?_setIfInBounds, if_neg (by omega)]
theorem setM_at {w : World} {r : Nat} {o o' : Obj} (h : w.heap[r]? = some o) : (setM w r o').heap[r]? = some o' := (MapKept.heap_set h).1
theorem setM_other {w : World} {r i : Nat} {o' : Obj} (h : i ≠ r) : (setM w r o').heap[i]? = w.heap[i]? := by
  show (w.heap.setIfInBounds r o')[i]? = _
  rw [Array.getElem?_setIfInBounds, if_neg (fun e => h e.symm)]
theorem RlM.ins {b0 : Nat} {V : Int → Option Value} {w : World} {r : Nat} {es es' : Array MapEntry} {clk clk' : Nat} (hr : b0 ≤ r) (hb : w.heap[r]? = some (.map es clk)) (ho : MOk V es') (hh : ∀ y, Has es y → Has es' y) : RlM b0 V w (setM w r (.map es' clk')) where
  low := below_setM hr _
  cells := fun i cs t fr e => by
    rw [setM_other]
    · exact e
    · intro k
      subst k
      rw [hb] at e; cases e
  map := fun i es2 clk2 e ho2 => by
    by_cases k : i = r
    · subst k
      rw [hb] at e
      cases e
      exact ⟨es', clk', setM_at hb, ho, hh⟩
    · exact ⟨es2, clk2, by rw [setM_other k]; exact e, ho2, fun z hz => hz⟩
/-- the value is a map of the region's own, with these keys -/
def MapV (b0 : Nat) (V : Int → Option Value) (zs : List Int) (v : Value) (w : World) : Prop := ∃ r es clk, v = .map (some r) ∧ b0 ≤ r ∧ w.heap[r]? = some (.map es clk) ∧ MOk V es ∧ ∀ z ∈ zs, Has es z
theorem MapV.stab (b0 : Nat) (V : Int → Option Value) (zs : List Int) : ∀ v w w', MapV b0 V zs v w → RlM b0 V w w' → MapV b0 V zs v w' := by
  rintro v w w' ⟨r, es, clk, rfl, hr, h1, h2, h3⟩ hl
  obtain ⟨es', clk', e1, e2, e3⟩ := hl.map r es clk h1 h2
  exact ⟨r, es', clk', rfl, hr, e1, e2, fun z hz => e3 z (h3 z hz)⟩
theorem MapV.nil {b0 : Nat} {V : Int → Option Value} {w : World} (h : b0 ≤ w.heap.size) : MapV b0 V [] (.map (some w.heap.size)) (w.alloc (.map #[] 0)) :=
  ⟨_, _, _, rfl, h, block_new w _, MOk.nil V, fun z hz => by cases hz⟩
theorem MapV.app {b0 : Nat} {V : Int → Option Value} {zs ys : List Int} {v : Value} {w : World} (h : MapV b0 V zs v w) (k : MapV b0 V ys v w) : MapV b0 V (zs ++ ys) v w := by
  obtain ⟨r, es, clk, rfl, hr, h1, h2, h3⟩ := h
  obtain ⟨r', es', clk', e, _, k1, _, k3⟩ := k
  injection e with e
  injection e with e
  subst e
  rw [h1] at k1
  cases k1
  refine ⟨r, es, clk, rfl, hr, h1, h2, fun z hz => ?_⟩
  rcases List.mem_append.1 hz with hz | hz
  · exact h3 z hz
  · exact k3 z hz
/-- a new key put in -/
theorem MapV.put {b0 : Nat} {V : Int → Option Value} {u : Value} {w : World} (h : MapV b0 V [] u w) {z : Int} {v : Value} (hv : V z = some v) :
    ∃ w', (Instr.mapUpdate 103 u (.int .i32 z) v).run Tryd.prog w = .ok () w' ∧ RlM b0 V w w' ∧ MapV b0 V [z] u w' := by
  obtain ⟨r, es, clk, rfl, hr, h1, h2, h3⟩ := h
  obtain ⟨es', clk', e1, e2, e3, e4⟩ := run_ins h1 h2 hv
  exact ⟨_, e1, RlM.ins hr h1 e2 e4, r, es', clk', rfl, hr, setM_at h1, e2, fun y hy => by rcases List.mem_singleton.1 hy with rfl; exact e3⟩
theorem MapV.look {b0 : Nat} {V : Int → Option Value} {zs : List Int} {u : Value} {w : World} (h : MapV b0 V zs u w) {z : Int} {v : Value} (hv : V z = some v) (hz : z ∈ zs) :
    (Instr.lookup 103 u (.int .i32 z) false).run Tryd.prog w = .ok v w := by
  obtain ⟨r, es, clk, rfl, hr, h1, h2, h3⟩ := h
  exact run_lk h1 h2 hv (h3 z hz)
end Go.Proofs.YtdfkbahlngijcaaDoor

namespace Go.Proofs.YtdfkbahlngijcaaDoor
open Go.RowKit
set_option linter.unusedVariables false

set_option maxRecDepth 100000 in
set_option maxHeartbeats 2000000 in
theorem cutlite_any (s : ByteArray) (i : Nat) (w : World) (hi : i < s.size) (hix : Lib.indexByte s.data.toList 32 = (i : Int)) (hs : s.size ≤ 1000000) :
    Calls Tryd.prog 84 #[.string s, .string ⟨#[32]⟩] w fun e w' => e = .returned (.tuple #[.string (s.extract 0 i), .string (s.extract (i + 1) s.size), .bool true]) ∧ ∃ n, w' = w.drewN n := by
  have HI := Lib.hid (Tryd.stringslite_Index_one s 32 w)
  rw [hix] at HI
  clear hix
  have h0 : (0 : Int) ≤ (i : Int) := by omega
  have hle : (i : Int) ≤ (s.size : Int) := by omega
  have hle1 : (i : Int) + 1 ≤ (s.size : Int) := by omega
  have h1 : (0 : Int) ≤ (i : Int) + 1 := by omega
  go_enter Tryd.func84, Tryd.ntmps84
  go_wp2_with fail
  refine (HI.out).mono ?_; rintro e w2 ⟨rfl, rfl⟩
  go_wp2_with fail
  go_quiet (fail)
  go_wp2_with fail
  go_ret3
  exact ⟨rfl, _, rfl⟩
set_option maxRecDepth 100000 in
set_option maxHeartbeats 2000000 in
theorem cutstr_any (s : ByteArray) (i : Nat) (w : World) (hi : i < s.size) (hix : Lib.indexByte s.data.toList 32 = (i : Int)) (hs : s.size ≤ 1000000) :
    Calls Tryd.prog 53 #[.string s, .string ⟨#[32]⟩] w fun e w' => e = .returned (.tuple #[.string (s.extract 0 i), .string (s.extract (i + 1) s.size), .bool true]) ∧ ∃ n, w' = w.drewN n := by
  have HI := Lib.hid (cutlite_any s i w hi hix hs)
  clear hix hi
  go_enter Tryd.func53, Tryd.ntmps53
  go_wp2_with fail
  refine (HI.out).mono ?_; rintro e w2 ⟨rfl, n, hw⟩
  have HW := Lib.hid hw
  clear hw
  go_wp2_with fail
  go_ret3
  exact ⟨rfl, n, HW.out⟩
theorem wordsS_list (k : Nat) : (wordsS k).data.toList = wordsL k := by simp [wordsS]
theorem cutK_facts : ∀ k : Nat, k < 17 → 1 ≤ k → Lib.indexByte (wordsL k) 32 = ((nameL k).length : Int) ∧ (nameL k).length < (wordsL k).length ∧ (wordsL k).take (nameL k).length = nameL k ∧ (wordsL k).drop ((nameL k).length + 1) = letL k := by
  intro k h1 h2
  have h : k = 1 ∨ k = 2 ∨ k = 3 ∨ k = 4 ∨ k = 5 ∨ k = 6 ∨ k = 7 ∨ k = 8 ∨ k = 9 ∨ k = 10 ∨ k = 11 ∨ k = 12 ∨ k = 13 ∨ k = 14 ∨ k = 15 ∨ k = 16 := by omega
  rcases h with rfl | rfl | rfl | rfl | rfl | rfl | rfl | rfl | rfl | rfl | rfl | rfl | rfl | rfl | rfl | rfl <;> decide +kernel
theorem extract_list (s : ByteArray) (a b : Nat) : s.extract a b = ⟨((s.data.toList.take b).drop a).toArray⟩ := by
  apply ByteArray.ext
  rw [ByteArray.data_extract]
  apply Array.toList_inj.1
  rw [List.toList_toArray]
  rw [Array.toList_extract, List.extract_eq_take_drop, List.drop_take]
theorem cutK_any (k : Nat) (h1 : 1 ≤ k) (h2 : k ≤ 16) (w : World) :
    Calls Tryd.prog 53 #[.string (wordsS k), .string ⟨#[32]⟩] w fun e w' => e = .returned (.tuple #[.string ⟨(nameL k).toArray⟩, .string ⟨(letL k).toArray⟩, .bool true]) ∧ ∃ n, w' = w.drewN n := by
  obtain ⟨f1, f2, f3, f4⟩ := cutK_facts k (by omega) h1
  have hsz : (wordsS k).size = (wordsL k).length := by show (wordsL k).toArray.size = _; simp
  have := wordsL_len k
  have h := cutstr_any (wordsS k) (nameL k).length w (by rw [hsz]; exact f2) (by rw [wordsS_list]; exact f1) (by rw [hsz]; omega)
  rw [extract_list, extract_list, wordsS_list, hsz, List.take_length, f4, List.drop_zero, f3] at h
  exact h
end Go.Proofs.YtdfkbahlngijcaaDoor

namespace Go.Proofs.YtdfkbahlngijcaaDoor
open Go.RowKit
set_option linter.unusedVariables false

def vO (x : Ov) (z : Int) : Option Value := some (.string ⟨(letW x (UInt8.ofNat z.toNat)).toArray⟩)
theorem RlM.refl (b0 : Nat) (V : Int → Option Value) (w : World) : RlM b0 V w w := ⟨Below.refl _ _, fun _ _ _ _ h => h, fun _ es clk h ho => ⟨es, clk, h, ho, fun _ hz => hz⟩⟩
theorem itoa_num (v : Int) (h : numOK v) (u : World) (ht : Tab u) : Calls Tryd.prog 27 #[.int .i64 v] u fun e w' => e = .returned (.string ⟨(numL v).toArray⟩) ∧ Below u.heap.size u w' := by
  obtain ⟨n, rfl⟩ : ∃ n : Nat, v = n := ⟨v.toNat, by have := h.1; omega⟩
  have e : numL (n : Int) = Lib.decDigits n := by unfold numL; rw [if_pos h]; rfl
  rw [e]
  exact itoa_nat n (by have := h.2; omega) u ht
theorem letL_six : ∀ k : Nat, k < 17 → ∀ c ∈ letL k, c.toNat < 128 ∧ ((c.toNat : Int) ∈ ([115, 97, 110, 105, 103, 116] : List Int)) := by decide +kernel
structure OpS (x : Ov) (w0 : World) (B pos : Nat) (v : Value) (ws : List (List UInt8)) (w : World) : Prop where
  box : w.heap[w0.heap.size]? = some (.cells (oC x) 51 (0, 0))
  it : w.heap[B + 1]? = some (.stringIter ⟨(letL x.k.toNat).toArray⟩ pos)
  own : w.ownsRow B 9 1 v ws.length (flatR fS ws)
  low : Below w0.heap.size w0 w
  base : w0.heap.size + 1 ≤ B
theorem OpS.later {x : Ov} {w0 : World} {B pos : Nat} {v : Value} {ws : List (List UInt8)} {w w' : World} (h : OpS x w0 B pos v ws w) (hb : Below w.heap.size w w') : OpS x w0 B pos v ws w' :=
  ⟨block_below hb h.box (block_lt h.box), block_below hb h.it (block_lt h.it), own_below h.own hb, h.low.trans (hb.mono h.low.size), h.base⟩
theorem OpS.next {x : Ov} {w0 : World} {B pos : Nat} {v : Value} {ws : List (List UInt8)} {w : World} (h : OpS x w0 B pos v ws w) (pos' : Nat) : OpS x w0 B pos' v ws (w.iterAt (B + 1) ⟨(letL x.k.toNat).toArray⟩ pos') := by
  have hb := h.base
  have ho : ∀ (b : Nat) cs T fr, w.heap[b]? = some (.cells cs T fr) → (w.iterAt (B + 1) ⟨(letL x.k.toNat).toArray⟩ pos').heap[b]? = some (.cells cs T fr) := fun b cs T fr e => by
    rw [Lib.iterAt_other w (B + 1) b _ pos' (fun k => by rw [k, h.it] at e; cases e)]; exact e
  refine ⟨ho _ _ _ _ h.box, Lib.iterAt_heap w (B + 1) _ pos pos' h.it, ?_, Lib.below_iterAt h.low (by omega) _ _, hb⟩
  obtain ⟨h0, hk | ⟨g, cap', cur, h1, hg, h2, h3⟩⟩ := h.own
  · exact ⟨h0, .inl hk⟩
  · exact ⟨h0, .inr ⟨g, cap', cur, h1, hg, ho _ _ _ _ h2, h3⟩⟩
theorem keep_iter {w w1 w' : World} {B k n i : Nat} {t : TypeId} {v : Value} {xs : List Value} {s : ByteArray} {p : Nat} (h : w.ownsRow B t k v n xs) (hg : w.grownBy w' v.ownBlock) (e : w.heap[i]? = some (.stringIter s p)) : w'.heap[i]? = some (.stringIter s p) := by
  rw [hg.block i (block_lt e) (fun e' => by
    obtain ⟨-, c1, h1⟩ := own_typ1 h e'.symm
    rw [e] at h1; cases h1)]
  exact e
theorem OpS.grown {x : Ov} {w0 : World} {B pos : Nat} {v v' : Value} {ws : List (List UInt8)} {s : List UInt8} {w w' : World} (h : OpS x w0 B pos v ws w) (hg : w.grownBy w' v.ownBlock) (ho : w'.ownsRow B 9 1 v' (ws.length + 1) (flatR fS ws ++ [.string ⟨s.toArray⟩])) : OpS x w0 B pos v' (ws ++ [s]) w' := by
  have hB : B ≤ w.heap.size := by have := block_lt h.it; omega
  have hbl : Below B w w' := (Below.refl B w).grown hg hB fun q hq => (own_typ1 h.own hq).1
  refine ⟨keep_append h.own h.box (by decide) hg h.box, keep_iter (w1 := w) h.own hg h.it, ?_, h.low.trans (hbl.mono (by have := h.base; omega)), h.base⟩
  rw [flatS_app, flatS_one, List.length_append]
  exact ho
theorem OpS.start (x : Ov) (w0 w3 : World) (nm : List UInt8) (hbox : w3.heap[w0.heap.size]? = some (.cells (oC x) 51 (0, 0))) (hlow : Below w0.heap.size w0 w3) :
    OpS x w0 w3.heap.size 0 (.slice (some ⟨w3.heap.size, 0, none⟩) 1 1) [nm] ((w3.alloc (.cells #[.string ⟨nm.toArray⟩] 9)).iter ⟨(letL x.k.toNat).toArray⟩ 0) := by
  have h1 := block_new w3 (.cells #[.string ⟨nm.toArray⟩] 9)
  have hb : Below w3.heap.size w3 ((w3.alloc (.cells #[.string ⟨nm.toArray⟩] 9)).iter ⟨(letL x.k.toNat).toArray⟩ 0) := ((Below.refl _ _).alloc (Nat.le_refl _) _).alloc (by simp) _
  refine ⟨block_below hb hbox (block_lt hbox), ?_, ?_, hlow.trans (hb.mono hlow.size), block_lt hbox⟩
  · have := World.iter_heap (w3.alloc (.cells #[.string ⟨nm.toArray⟩] 9)) ⟨(letL x.k.toNat).toArray⟩ 0
    simpa using this
  · have h2 := block_alloc h1 (.stringIter ⟨(letL x.k.toNat).toArray⟩ 0)
    exact ⟨rfl, .inr ⟨w3.heap.size, 1, _, rfl, Nat.le_refl _, h2, by simp, by decide, by show (1 : Nat) = _; rfl, rfl⟩⟩
theorem joinW_opW (x : Ov) (h : plainO x = true) : (joinW (opW x)).length ≤ 100000 ∧ (opW x).length ≤ 4 := by
  obtain ⟨k1, k2⟩ := plain_kind h
  have h4 : (opW x).length ≤ 4 := by
    unfold opW
    have := letL_len x.k.toNat
    simp; omega
  have ht := plain_text h
  have hq := quote_len x.t
  have hk : ∀ w ∈ opW x, w.length ≤ 600 := by
    intro w hw
    unfold opW at hw
    rcases List.mem_cons.1 hw with rfl | hw
    · have h1 := wordsL_len x.k.toNat
      have h2 : (nameL x.k.toNat).length ≤ (wordsL x.k.toNat).length := (List.takeWhile_sublist _).length_le
      omega
    · obtain ⟨d, _, rfl⟩ := List.mem_map.1 hw
      unfold letW
      have hn := fun v => numL_len v
      split
      · have := hn x.slot; omega
      split
      · have := hn x.at_; omega
      split
      · have := hn x.n; omega
      split
      · have := hn x.id; omega
      split
      · have := hn x.g; omega
      omega
  have hj := joinW_most (opW x) 600 hk
  have := Nat.mul_le_mul_right (600 + 1) h4
  exact ⟨by omega, h4⟩

/-- a slice of one new string -/
def NewS (s : List UInt8) (v : Value) (w : World) : Prop := ∃ g, v = .slice (some ⟨g, 0, none⟩) 1 1 ∧ w.heap[g]? = some (.cells #[.string ⟨s.toArray⟩] 9 (0, 0))
theorem NewS.stab (s : List UInt8) (b0 : Nat) (V : Int → Option Value) : ∀ v w w', NewS s v w → RlM b0 V w w' → NewS s v w' := by
  rintro v w w' ⟨g, rfl, h⟩ hl
  exact ⟨g, rfl, hl.cells _ _ _ _ h⟩

set_option maxRecDepth 100000 in
set_option maxHeartbeats 8000000 in
theorem opT_plain (x : Ov) (w : World) (kn : Nat) (hk : x.k = kn) (ho : OvOk x) (ht : x.t.size ≤ 140737488355328) (hp : plainO x = true) (htab : Tab w) :
    Calls Tryd.prog 21 #[.agg #[.int .u8 x.k, .int .i64 x.slot, .int .i64 x.at_, .int .i64 x.n, .int .u32 x.id, .int .u8 x.g, .string x.t]] w fun e w' => e = .returned (.tuple #[.string ⟨(opL x).toArray⟩, .int .i64 0]) ∧ Below w.heap.size w w' := by
  obtain ⟨i0, hi0, hz0, hz1, hz2⟩ := info_parts infoStr
  have HB0 := Lib.hid ((Below.refl w.heap.size w).alloc (Nat.le_refl _) (.cells (oC x) 51))
  have HNB := Lib.hid (block_new w (.cells (oC x) 51))
  have HP := Lib.hid (plainT_any x (w.alloc (.cells (oC x) 51)) ht)
  have HT := Lib.hid htab
  rw [hp] at HP
  unfold oC at HB0 HP
  obtain ⟨k1, k2⟩ := plain_kind hp
  have HW := Lib.hid (fun u => words_any kn (by omega) (by omega) u)
  have HC := Lib.hid (cut_words kn (by omega) (by omega))
  have HNM := Lib.hid ((plain_nums hp).big ho)
  have HTX := Lib.hid (plain_text hp)
  have HJW := Lib.hid (joinW_opW x hp)
  have HK := Lib.hid (show x.k.toNat = kn by omega)
  have HSIX := Lib.hid (letL_six kn (by omega))
  have HOW := Lib.hid (show opW x = nameL kn :: (letL kn).map (letW x) by unfold opW; rw [HK.out])
  have hwid : IntKind.i64.wrap x.id = x.id := by rw [IntKind.wrap_i64]; have := ho.id; omega
  have hwg : IntKind.i64.wrap x.g = x.g := by rw [IntKind.wrap_i64]; have := ho.g; omega
  have HWI := Lib.hid hwid
  have HWG := Lib.hid hwg
  clear ho hwid hwg htab
  rw [hk] at HB0 HP ⊢
  go_enter Tryd.func21, Tryd.ntmps21
  have HNB2 := Lib.hid (show (w.alloc (.cells #[.int .u8 kn, .int .i64 x.slot, .int .i64 x.at_, .int .i64 x.n, .int .u32 x.id, .int .u8 x.g, .string x.t] 51)).heap[w.heap.size]? = some (.cells (oC x) 51 (0, 0)) by
    have := HNB.out
    unfold oC at this ⊢
    rw [← hk]; exact this)
  go_wp2_with fail
  refine (HP.out).mono ?_; rintro e w2 ⟨rfl, hb2⟩
  have HO2 := Lib.hid (block_below hb2 HNB2.out (by simp))
  have HB2 := Lib.hid (HB0.out.trans (hb2.mono HB0.out.size))
  have e0 := block_cell HO2.out 0
  simp [oC] at e0
  rw [hk] at e0
  clear hb2
  go_wp2_with fail
  refine (HW.out w2).mono ?_; rintro e w3 ⟨rfl, rfl⟩
  have HCUT := Lib.hid (cutK_any kn (by omega) (by omega) w2)
  go_wp2_with fail
  refine (HCUT.out).mono ?_; rintro e w3 ⟨rfl, n3, hw3⟩
  have HB3 := Lib.hid (show Below w.heap.size w w3 by rw [hw3]; exact below_drewN HB2.out n3)
  have HO3 := Lib.hid (show w3.heap[w.heap.size]? = some (.cells (oC x) 51 (0, 0)) by rw [hw3]; exact HO2.out)
  clear hw3 e0
  go_wp2_with fail
  have HST := Lib.hid (OpS.start x w w3 (nameL kn) HO3.out HB3.out)
  rw [HK.out] at HST
  generalize hBB : w3.heap.size = B at *
  generalize hnm : nameL kn = nm at *
  generalize hlt : letL kn = lt at *
  have HLT := Lib.hid hlt
  clear hlt hBB hnm
  generalize World.iter _ _ _ = w4 at *
  go_loopw [7] (fun s wr => ∃ (pos : Nat), pos ≤ lt.length ∧ OpS x w B pos s (nm :: (lt.take pos).map (letW x)) wr) (fun s wr => lt.length - wr.iterPos (B + 1))
  case atStart => exact ⟨0, Nat.zero_le _, by simpa using HST.out⟩
  case round =>
    obtain ⟨pos, hpos, hS⟩ := hrel
    clear HST
    have hit : wr.heap[B + 1]? = some (.stringIter ⟨lt.toArray⟩ pos) := by have := hS.it; rw [HK.out, HLT.out] at this; exact this
    have hmu : wr.iterPos (B + 1) = pos := by simp [World.iterPos, hit]
    by_cases hlt : pos < lt.length
    · have hp2 : pos < (⟨lt.toArray⟩ : ByteArray).size := by show pos < lt.toArray.size; simpa using hlt
      obtain ⟨c, hc⟩ : ∃ c, c = lt[pos]'hlt := ⟨_, rfl⟩
      have hsix := HSIX.out c (by rw [hc]; exact List.getElem_mem _)
      have hcs : (⟨lt.toArray⟩ : ByteArray)[pos]'hp2 = c := by rw [hc]; rfl
      have hnext : ∀ ty, (Instr.next (.pointer (some ⟨B + 1, 0, none⟩)) true ty).run Tryd.prog wr = _ := fun ty => Lib.run_next_ascii_at wr (B + 1) ⟨lt.toArray⟩ pos ty hit hp2 (by rw [hcs]; exact hsix.1)
      rw [hcs] at hnext
      have hS1 := hS.next (pos + 1)
      rw [HK.out, HLT.out] at hS1
      have HSIX2 := Lib.hid hsix.2
      have HCC := Lib.hid hc
      have HV := Lib.hid (show vO x (c.toNat : Int) = some (.string ⟨(letW x c).toArray⟩) by unfold vO; simp)
      clear hsix hcs hS hit hp2 hc
      generalize wr.iterAt (B + 1) ⟨lt.toArray⟩ (pos + 1) = W1 at hnext hS1
      have HS1 := Lib.hid hS1
      have HLEN := Lib.hid (show (nm :: (lt.take pos).map (letW x)).length ≤ 5 by
        have := HJW.out.2
        rw [HOW.out] at this
        simp at this ⊢
        omega)
      have HTK := Lib.hid (show nm :: (lt.take (pos + 1)).map (letW x) = (nm :: (lt.take pos).map (letW x)) ++ [letW x c] by rw [List.take_succ_eq_append_getElem hlt, List.map_append, HCC.out]; rfl)
      have hlt2 : ¬ lt.length ≤ pos := by omega
      generalize nm :: (lt.take pos).map (letW x) = ws at *
      have hcl : ∀ (u : World), Below W1.heap.size W1 u → OpS x w B (pos + 1) u7 ws u := fun u hu => HS1.out.later hu
      have HCL := Lib.hid hcl
      have hW1 : W1.heap.size = W1.heap.size := rfl
      clear hcl hS1 hW1
      go_upto_region 8 with (go_wp2)
      refine wp_region_rel (RlM W1.heap.size (vO x)) 32 1 (RlM.of (Nat.le_refl _) (Below.refl _ _).drew) (fun _ _ _ h k => h.trans k) (by kernel_rfl) (by decide) (by decide) (by kernel_rfl) (by kernel_rfl) ?_
      simp only [List.take_succ_cons, List.take_zero, List.drop_succ_cons, List.drop_zero, fill, Act.put, List.setIfInBounds_toArray, List.set_cons_zero, List.set_cons_succ, Nat.zero_add, Nat.reduceAdd]
      apply OpsOKM.eq
      · intro vs u hb hd
        clear hd
        go_wp2_with fail
        exact ⟨rfl, _, rfl, RlM.refl _ _ _, rfl⟩
      refine OpsOKM.step (fun v w => MapV W1.heap.size (vO x) [] v w) (MapV.stab _ _ _) ?_ ?_
      · intro vs u hb hd
        clear hd
        have hmk := run_makeMap (P := Tryd.prog) 103 u
        go_wp2_with fail
        exact ⟨rfl, _, rfl, RlM.of hb.low.size ((Below.refl _ _).alloc (Nat.le_refl _) _), MapV.nil hb.low.size⟩
      apply OpsOKM.eq
      · intro vs u hb hd
        clear hd
        go_wp2_with fail
        exact ⟨rfl, _, rfl, RlM.refl _ _ _, rfl⟩
      apply OpsOKM.eq
      · intro vs u hb hd
        have e2 := hd ⟨2, .data⟩ (by simp) (by decide)
        simp at e2
        clear hd
        simp only [e2]
        have hlow := hb.low
        have q := block_cell (HCL.out u hlow).box 1
        simp [oC] at q
        go_wp2_with fail
        exact ⟨rfl, _, rfl, RlM.refl _ _ _, rfl⟩
      apply OpsOKM.eq
      · intro vs u hb hd
        have e3 := hd ⟨3, .data⟩ (by simp) (by decide)
        simp at e3
        clear hd
        simp only [e3]
        go_wp2_with fail
        refine (itoa_num x.slot HNM.out.slot u (HT.out.below ((HS1.out.later hb.low).low))).mono ?_
        rintro e w5 ⟨rfl, hb5⟩
        go_wp2_with fail
        exact ⟨rfl, _, rfl, RlM.of hb.low.size hb5, rfl⟩
      refine OpsOKM.lead (fun v w => MapV W1.heap.size (vO x) [115] v w) (MapV.stab _ _ _) (by kernel_rfl) (by decide) ?_ ?_
      · intro vs u hb hd
        have hm1 := hd ⟨1, .data⟩ (by simp) (by decide)
        have e4 := hd ⟨4, .data⟩ (by simp) (by decide)
        simp at e4
        clear hd
        simp only [e4]
        obtain ⟨W, hW, hrl, hmv⟩ := MapV.put hm1 (show vO x 115 = some (.string ⟨(numL x.slot).toArray⟩) from rfl)
        go_wp2_with fail
        exact ⟨rfl, undef, rfl, hrl, hmv⟩
      apply OpsOKM.eq
      · intro vs u hb hd
        clear hd
        go_wp2_with fail
        exact ⟨rfl, _, rfl, RlM.refl _ _ _, rfl⟩
      apply OpsOKM.eq
      · intro vs u hb hd
        have e6 := hd ⟨6, .data⟩ (by simp) (by decide)
        simp at e6
        clear hd
        simp only [e6]
        have hlow := hb.low
        have q := block_cell (HCL.out u hlow).box 2
        simp [oC] at q
        go_wp2_with fail
        exact ⟨rfl, _, rfl, RlM.refl _ _ _, rfl⟩
      apply OpsOKM.eq
      · intro vs u hb hd
        have e7 := hd ⟨7, .data⟩ (by simp) (by decide)
        simp at e7
        have e4 := hd ⟨4, .chain⟩ (by simp) (by decide)
        simp at e4
        clear hd
        simp only [e7, e4]
        go_wp2_with fail
        refine (itoa_num x.at_ HNM.out.at_ u (HT.out.below ((HS1.out.later hb.low).low))).mono ?_
        rintro e w5 ⟨rfl, hb5⟩
        go_wp2_with fail
        exact ⟨rfl, _, rfl, RlM.of hb.low.size hb5, rfl⟩
      refine OpsOKM.lead (fun v w => MapV W1.heap.size (vO x) [97] v w) (MapV.stab _ _ _) (by kernel_rfl) (by decide) ?_ ?_
      · intro vs u hb hd
        have hm1 := hd ⟨1, .data⟩ (by simp) (by decide)
        have e8 := hd ⟨8, .data⟩ (by simp) (by decide)
        simp at e8
        clear hd
        simp only [e8]
        obtain ⟨W, hW, hrl, hmv⟩ := MapV.put hm1 (show vO x 97 = some (.string ⟨(numL x.at_).toArray⟩) from rfl)
        go_wp2_with fail
        exact ⟨rfl, undef, rfl, hrl, hmv⟩
      apply OpsOKM.eq
      · intro vs u hb hd
        clear hd
        go_wp2_with fail
        exact ⟨rfl, _, rfl, RlM.refl _ _ _, rfl⟩
      apply OpsOKM.eq
      · intro vs u hb hd
        have e10 := hd ⟨10, .data⟩ (by simp) (by decide)
        simp at e10
        clear hd
        simp only [e10]
        have hlow := hb.low
        have q := block_cell (HCL.out u hlow).box 3
        simp [oC] at q
        go_wp2_with fail
        exact ⟨rfl, _, rfl, RlM.refl _ _ _, rfl⟩
      apply OpsOKM.eq
      · intro vs u hb hd
        have e11 := hd ⟨11, .data⟩ (by simp) (by decide)
        simp at e11
        have e8 := hd ⟨8, .chain⟩ (by simp) (by decide)
        simp at e8
        clear hd
        simp only [e11, e8]
        go_wp2_with fail
        refine (itoa_num x.n HNM.out.n u (HT.out.below ((HS1.out.later hb.low).low))).mono ?_
        rintro e w5 ⟨rfl, hb5⟩
        go_wp2_with fail
        exact ⟨rfl, _, rfl, RlM.of hb.low.size hb5, rfl⟩
      refine OpsOKM.lead (fun v w => MapV W1.heap.size (vO x) [110] v w) (MapV.stab _ _ _) (by kernel_rfl) (by decide) ?_ ?_
      · intro vs u hb hd
        have hm1 := hd ⟨1, .data⟩ (by simp) (by decide)
        have e12 := hd ⟨12, .data⟩ (by simp) (by decide)
        simp at e12
        clear hd
        simp only [e12]
        obtain ⟨W, hW, hrl, hmv⟩ := MapV.put hm1 (show vO x 110 = some (.string ⟨(numL x.n).toArray⟩) from rfl)
        go_wp2_with fail
        exact ⟨rfl, undef, rfl, hrl, hmv⟩
      apply OpsOKM.eq
      · intro vs u hb hd
        clear hd
        go_wp2_with fail
        exact ⟨rfl, _, rfl, RlM.refl _ _ _, rfl⟩
      apply OpsOKM.eq
      · intro vs u hb hd
        have e14 := hd ⟨14, .data⟩ (by simp) (by decide)
        simp at e14
        clear hd
        simp only [e14]
        have hlow := hb.low
        have q := block_cell (HCL.out u hlow).box 4
        simp [oC] at q
        go_wp2_with fail
        exact ⟨rfl, _, rfl, RlM.refl _ _ _, rfl⟩
      apply OpsOKM.eq
      · intro vs u hb hd
        have e15 := hd ⟨15, .data⟩ (by simp) (by decide)
        simp at e15
        clear hd
        simp only [e15]
        have hwid := HWI.out
        go_wp2_with fail
        exact ⟨rfl, _, rfl, RlM.refl _ _ _, rfl⟩
      apply OpsOKM.eq
      · intro vs u hb hd
        have e16 := hd ⟨16, .data⟩ (by simp) (by decide)
        simp at e16
        have e12 := hd ⟨12, .chain⟩ (by simp) (by decide)
        simp at e12
        clear hd
        simp only [e16, e12]
        go_wp2_with fail
        refine (itoa_num x.id HNM.out.id u (HT.out.below ((HS1.out.later hb.low).low))).mono ?_
        rintro e w5 ⟨rfl, hb5⟩
        go_wp2_with fail
        exact ⟨rfl, _, rfl, RlM.of hb.low.size hb5, rfl⟩
      refine OpsOKM.lead (fun v w => MapV W1.heap.size (vO x) [105] v w) (MapV.stab _ _ _) (by kernel_rfl) (by decide) ?_ ?_
      · intro vs u hb hd
        have hm1 := hd ⟨1, .data⟩ (by simp) (by decide)
        have e17 := hd ⟨17, .data⟩ (by simp) (by decide)
        simp at e17
        clear hd
        simp only [e17]
        obtain ⟨W, hW, hrl, hmv⟩ := MapV.put hm1 (show vO x 105 = some (.string ⟨(numL x.id).toArray⟩) from rfl)
        go_wp2_with fail
        exact ⟨rfl, undef, rfl, hrl, hmv⟩
      apply OpsOKM.eq
      · intro vs u hb hd
        clear hd
        go_wp2_with fail
        exact ⟨rfl, _, rfl, RlM.refl _ _ _, rfl⟩
      apply OpsOKM.eq
      · intro vs u hb hd
        have e19 := hd ⟨19, .data⟩ (by simp) (by decide)
        simp at e19
        clear hd
        simp only [e19]
        have hlow := hb.low
        have q := block_cell (HCL.out u hlow).box 5
        simp [oC] at q
        go_wp2_with fail
        exact ⟨rfl, _, rfl, RlM.refl _ _ _, rfl⟩
      apply OpsOKM.eq
      · intro vs u hb hd
        have e20 := hd ⟨20, .data⟩ (by simp) (by decide)
        simp at e20
        clear hd
        simp only [e20]
        have hwg := HWG.out
        go_wp2_with fail
        exact ⟨rfl, _, rfl, RlM.refl _ _ _, rfl⟩
      apply OpsOKM.eq
      · intro vs u hb hd
        have e21 := hd ⟨21, .data⟩ (by simp) (by decide)
        simp at e21
        have e17 := hd ⟨17, .chain⟩ (by simp) (by decide)
        simp at e17
        clear hd
        simp only [e21, e17]
        go_wp2_with fail
        refine (itoa_num x.g HNM.out.g u (HT.out.below ((HS1.out.later hb.low).low))).mono ?_
        rintro e w5 ⟨rfl, hb5⟩
        go_wp2_with fail
        exact ⟨rfl, _, rfl, RlM.of hb.low.size hb5, rfl⟩
      refine OpsOKM.lead (fun v w => MapV W1.heap.size (vO x) [103] v w) (MapV.stab _ _ _) (by kernel_rfl) (by decide) ?_ ?_
      · intro vs u hb hd
        have hm1 := hd ⟨1, .data⟩ (by simp) (by decide)
        have e22 := hd ⟨22, .data⟩ (by simp) (by decide)
        simp at e22
        clear hd
        simp only [e22]
        obtain ⟨W, hW, hrl, hmv⟩ := MapV.put hm1 (show vO x 103 = some (.string ⟨(numL x.g).toArray⟩) from rfl)
        go_wp2_with fail
        exact ⟨rfl, undef, rfl, hrl, hmv⟩
      apply OpsOKM.eq
      · intro vs u hb hd
        clear hd
        go_wp2_with fail
        exact ⟨rfl, _, rfl, RlM.refl _ _ _, rfl⟩
      apply OpsOKM.eq
      · intro vs u hb hd
        have e24 := hd ⟨24, .data⟩ (by simp) (by decide)
        simp at e24
        clear hd
        simp only [e24]
        have hlow := hb.low
        have q := block_cell (HCL.out u hlow).box 6
        simp [oC] at q
        go_wp2_with fail
        exact ⟨rfl, _, rfl, RlM.refl _ _ _, rfl⟩
      apply OpsOKM.eq
      · intro vs u hb hd
        have e25 := hd ⟨25, .data⟩ (by simp) (by decide)
        simp at e25
        have e22 := hd ⟨22, .chain⟩ (by simp) (by decide)
        simp at e22
        clear hd
        simp only [e25, e22]
        go_wp2_with fail
        refine (quote_any x.t u (by have := HTX.out; omega)).mono ?_
        rintro e w5 ⟨rfl, hb5⟩
        go_wp2_with fail
        exact ⟨rfl, _, rfl, RlM.of hb.low.size hb5, rfl⟩
      refine OpsOKM.lead (fun v w => MapV W1.heap.size (vO x) [116] v w) (MapV.stab _ _ _) (by kernel_rfl) (by decide) ?_ ?_
      · intro vs u hb hd
        have hm1 := hd ⟨1, .data⟩ (by simp) (by decide)
        have e26 := hd ⟨26, .data⟩ (by simp) (by decide)
        simp at e26
        clear hd
        simp only [e26]
        obtain ⟨W, hW, hrl, hmv⟩ := MapV.put hm1 (show vO x 116 = some (.string ⟨(quoteL x.t).toArray⟩) from rfl)
        go_wp2_with fail
        exact ⟨rfl, undef, rfl, hrl, hmv⟩
      refine OpsOKM.step (fun v w => MapV W1.heap.size (vO x) [115, 97, 110, 105, 103, 116] v w) (MapV.stab _ _ _) ?_ ?_
      · intro vs u hb hd
        have hm1 := hd ⟨1, .data⟩ (by simp) (by decide)
        have hm5 := hd ⟨5, .data⟩ (by simp) (by decide)
        have hm9 := hd ⟨9, .data⟩ (by simp) (by decide)
        have hm13 := hd ⟨13, .data⟩ (by simp) (by decide)
        have hm18 := hd ⟨18, .data⟩ (by simp) (by decide)
        have hm23 := hd ⟨23, .data⟩ (by simp) (by decide)
        have hm27 := hd ⟨27, .data⟩ (by simp) (by decide)
        clear hd
        go_wp2_with fail
        exact ⟨rfl, _, rfl, RlM.refl _ _ _, ((((hm5.app hm9).app hm13).app hm18).app hm23).app hm27⟩
      apply OpsOKM.eq
      · intro vs u hb hd
        clear hd
        go_wp2_with fail
        exact ⟨rfl, _, rfl, RlM.refl _ _ _, rfl⟩
      apply OpsOKM.eq
      · intro vs u hb hd
        have hm28 := hd ⟨28, .data⟩ (by simp) (by decide)
        have e29 := hd ⟨29, .data⟩ (by simp) (by decide)
        simp at e29
        clear hd
        simp only [e29]
        have hlk := MapV.look hm28 HV.out HSIX2.out
        go_wp2_with fail
        exact ⟨rfl, _, rfl, RlM.refl _ _ _, rfl⟩
      refine OpsOKM.step (fun v w => NewS (letW x c) v w) (NewS.stab _ _ _) ?_ ?_
      · intro vs u hb hd
        have e30 := hd ⟨30, .data⟩ (by simp) (by decide)
        simp at e30
        clear hd
        simp only [e30]
        go_wp2_with fail
        exact ⟨rfl, _, rfl, RlM.of hb.low.size ((Below.refl _ _).alloc (Nat.le_refl _) _), _, rfl, block_new _ _⟩
      refine OpsOKM.done ?_
      intro vs u hbu hS
      have hm31 := hS 31 (by decide)
      have h0 := hS 0 (by decide)
      simp at h0 hm31
      obtain ⟨g, hg, hgc⟩ := hm31
      simp only [h0, hg]
      clear hS h0 hg
      have HS2 := Lib.hid (HCL.out u hbu.low)
      have HGC := Lib.hid hgc
      have hB : B ≤ u.heap.size := by have := block_lt HS2.out.it; omega
      have hle := HLEN.out
      clear hbu hgc
      go_wp2_with (at_builtin; refine wpList_append_lies _ rfl _ _ 59 rfl B 9 i0 _ 1 16 Tryd.underlying59 hi0 hz0 hz1 hz2 rfl (by decide) _ ws.length _ rfl HS2.out.own ⟨g, 0, none⟩ 1 1 [.string ⟨(letW x c).toArray⟩] rfl rfl (World.news_of_block (cs := #[_]) (t := 9) (fr := (0, 0)) HGC.out) (by simp [Value.oneCell']) (by omega) (by unfold maxLen; omega) (by omega) hB u.heap.size rfl ?c1)
      case c1 =>
        intro gg cap w8 hown8 hgrow8 hat8 hlt8
        have HS9 := Lib.hid (HS2.out.grown hgrow8 hown8)
        clear hown8 hgrow8 hat8 hlt8
        go_wp2_with fail
        go_roundw
        case rel => exact ⟨pos + 1, by omega, by rw [HTK.out]; exact HS9.out⟩
        case measure =>
          have h9 := HS9.out.it
          have hmu2 : w8.iterPos (B + 1) = pos + 1 := by simp [World.iterPos, h9]
          rw [hmu, hmu2]
          omega
    · obtain rfl : pos = lt.length := by omega
      have hnext : ∀ ty, (Instr.next (.pointer (some ⟨B + 1, 0, none⟩)) true ty).run Tryd.prog wr = _ := fun ty => Lib.run_next_end_at wr (B + 1) ⟨lt.toArray⟩ lt.length ty hit (by show ¬ _ < lt.toArray.size; simp)
      have HOE := Lib.hid (show opW x = nm :: (lt.take lt.length).map (letW x) by rw [HOW.out, List.take_length])
      have HS1 := Lib.hid hS
      have HJ := Lib.hid (join_row hS.own (by simp) (by
        have := HJW.out.2; rw [HOE.out] at this; omega) (by have := HJW.out.1; rw [HOE.out] at this; omega))
      clear hS hit
      go_wp2_with fail
      refine (HJ.out).mono ?_; rintro e w8 ⟨rfl, hb8⟩
      have HB8 := Lib.hid (below_two HS1.out.low hb8)
      clear hb8
      go_wp2_with fail
      go_ret2
      exact ⟨by rw [show opL x = joinW (opW x) from rfl, HOW.out] <;> rfl, HB8.out⟩
set_option maxRecDepth 100000 in
set_option maxHeartbeats 4000000 in
theorem opT_any (x : Ov) (w : World) (ho : OvOk x) (ht : x.t.size ≤ 140737488355328) (htab : Tab w) :
    Calls Tryd.prog 21 #[.agg #[.int .u8 x.k, .int .i64 x.slot, .int .i64 x.at_, .int .i64 x.n, .int .u32 x.id, .int .u8 x.g, .string x.t]] w fun e w' => e = .returned (.tuple #[.string ⟨(opR x).1.toArray⟩, .int .i64 (opR x).2]) ∧ Below w.heap.size w w' := by
  by_cases hp : plainO x = true
  · have e : opR x = (opL x, 0) := if_pos hp
    rw [e]
    exact opT_plain x w x.k.toNat (by have := ho.k; omega) ho ht hp htab
  · have HE := Lib.hid (show opR x = ([], 2) from if_neg hp)
    have HB0 := Lib.hid ((Below.refl w.heap.size w).alloc (Nat.le_refl _) (.cells (oC x) 51))
    have HP := Lib.hid (plainT_any x (w.alloc (.cells (oC x) 51)) ht)
    rw [Bool.eq_false_iff.2 hp] at HP
    unfold oC at HB0 HP
    clear ho htab
    go_enter Tryd.func21, Tryd.ntmps21
    go_wp2_with fail
    refine (HP.out).mono ?_; rintro e w2 ⟨rfl, hb2⟩
    have HB2 := Lib.hid (HB0.out.trans (hb2.mono HB0.out.size))
    clear hb2
    go_wp2_with fail
    go_ret2
    exact ⟨by rw [HE.out] <;> rfl, HB2.out⟩
end Go.Proofs.YtdfkbahlngijcaaDoor

namespace Go.Proofs.YtdfkbahlngijcaaDoor
open Go.RowKit
set_option linter.unusedVariables false

def lineL (ws : List (List UInt8)) : List UInt8 := joinW ws ++ [10]
def cfgV (c : Cf) : List Int := [c.slots, c.gens, c.clients, c.readers, c.queue, c.batch, c.feed]
def cfgW (c : Cf) : List (List UInt8) := [[99, 111, 110, 102, 105, 103]] ++ (cfgV c).map numL ++ [quoteL c.t]
def clientW (i : Nat) : List (List UInt8) := [[99, 108, 105, 101, 110, 116], numL i]
def pickW (q : Int) (n : Nat) : List (List UInt8) := [[112, 105, 99, 107], numL q, numL n]
def opsT (l : List Ov) : List UInt8 := l.flatMap fun x => lineL [opL x]
def progT : Nat → List Pg → List UInt8
  | _, [] => []
  | i, p :: r => lineL (clientW i) ++ (opsT p.l ++ progT (i + 1) r)
/-- the lines of picks: n times q so far -/
def picksG : Int → Nat → List Int → List UInt8
  | q, n, [] => lineL (pickW q n)
  | q, n, x :: r => if x = q then picksG q (n + 1) r else lineL (pickW q n) ++ picksG x 1 r
def picksT : List Int → List UInt8
  | [] => []
  | q :: r => picksG q 1 r
/-- the lines of a script -/
def fmtL (c : Cf) (ss : List Pg) (ps : List Int) : List UInt8 := lineL (cfgW c) ++ (progT 0 ss ++ picksT ps)
/-- what Format gives -/
noncomputable def fmtR (c : Cf) (ss : List Pg) (ps : List Int) : List UInt8 × Int :=
  if scE c ss ps ≠ 0 then ([], scE c ss ps) else if 65536 < (fmtL c ss ps).length then ([], 5) else (fmtL c ss ps, 0)
theorem opsT_at {l : List Ov} {j : Nat} (h : j < l.length) : opsT (l.drop j) = lineL [opL l[j]] ++ opsT (l.drop (j + 1)) := by
  rw [drop_at h]; rfl
theorem progT_at {ss : List Pg} {i : Nat} (h : i < ss.length) : progT i (ss.drop i) = lineL (clientW i) ++ (opsT ss[i].l ++ progT (i + 1) (ss.drop (i + 1))) := by
  rw [drop_at h]; rfl
theorem picksG_run (q : Int) : ∀ (m n : Nat) (l : List Int), (l = [] ∨ ∃ x r, l = x :: r ∧ x ≠ q) → picksG q n (List.replicate m q ++ l) = lineL (pickW q (n + m)) ++ picksT l
  | 0, n, l, h => by
    rcases h with rfl | ⟨x, r, rfl, hx⟩
    · show lineL (pickW q n) = lineL (pickW q (n + 0)) ++ []
      rw [List.append_nil]; rfl
    · show (if x = q then _ else lineL (pickW q n) ++ picksG x 1 r) = lineL (pickW q n) ++ picksG x 1 r
      rw [if_neg hx]
  | m + 1, n, l, h => by
    show (if q = q then picksG q (n + 1) (List.replicate m q ++ l) else _) = _
    rw [if_pos rfl, picksG_run q m (n + 1) l h, show n + 1 + m = n + (m + 1) by omega]
/-- the first run of picks -/
theorem picksT_run {l : List Int} {q : Int} {n : Nat} (h1 : 1 ≤ n) (h2 : n ≤ l.length) (he : ∀ i (h : i < l.length), i < n → l[i] = q) (hn : ∀ h : n < l.length, l[n] ≠ q) :
    picksT l = lineL (pickW q n) ++ picksT (l.drop n) := by
  have ht : l.take n = List.replicate n q := by
    rw [List.eq_replicate_iff]
    refine ⟨by rw [List.length_take]; omega, fun b hb => ?_⟩
    obtain ⟨i, hi, rfl⟩ := List.getElem_of_mem hb
    rw [List.length_take] at hi
    rw [List.getElem_take]
    exact he i (by omega) (by omega)
  have hl : l = List.replicate n q ++ l.drop n := by rw [← ht, List.take_append_drop]
  have hd : l.drop n = [] ∨ ∃ x r, l.drop n = x :: r ∧ x ≠ q := by
    rcases Nat.lt_or_ge n l.length with h | h
    · exact .inr ⟨_, _, drop_at h, hn h⟩
    · exact .inl (List.drop_of_length_le h)
  obtain ⟨m, rfl⟩ : ∃ m, n = m + 1 := ⟨n - 1, by omega⟩
  conv => lhs; rw [hl]
  show picksG q 1 (List.replicate m q ++ l.drop (m + 1)) = _
  rw [picksG_run q m 1 _ hd, Nat.add_comm 1 m]
theorem pickW_len (q : Int) (n : Nat) : (lineL (pickW q n)).length ≤ 27 := by
  have h1 := numL_len q
  have h2 := numL_len n
  show ([112, 105, 99, 107] ++ 32 :: (numL q ++ 32 :: numL n) ++ [10]).length ≤ 27
  simp only [List.length_append, List.length_cons, List.length_nil]
  omega
theorem len_two {a b n : Nat} (h1 : a ≤ 27) (h2 : b ≤ (n + 1) * 27) : a + b ≤ (n + 1 + 1) * 27 := by omega
theorem len_one {b n : Nat} (h2 : b ≤ (n + 1) * 27) : b ≤ (n + 1 + 1) * 27 := Nat.le_trans h2 (Nat.mul_le_mul_right 27 (Nat.le_succ _))
theorem picksG_len (l : List Int) : ∀ (q : Int) (n : Nat), (picksG q n l).length ≤ (l.length + 1) * 27 := by
  induction l with
  | nil => exact fun q n => pickW_len q n
  | cons x r ih =>
    intro q n
    have e : picksG q n (x :: r) = if x = q then picksG q (n + 1) r else lineL (pickW q n) ++ picksG x 1 r := rfl
    by_cases h : x = q
    · rw [e, if_pos h, List.length_cons]
      exact len_one (ih q (n + 1))
    · rw [e, if_neg h, List.length_append, List.length_cons]
      exact len_two (pickW_len q n) (ih x 1)
theorem picksT_len : ∀ l : List Int, (picksT l).length ≤ l.length * 27
  | [] => by show 0 ≤ _; omega
  | q :: r => picksG_len r q 1
theorem clientW_len (i : Nat) : (lineL (clientW i)).length ≤ 18 := by
  have h1 := numL_len i
  show ([99, 108, 105, 101, 110, 116] ++ 32 :: numL i ++ [10]).length ≤ 18
  simp only [List.length_append, List.length_cons, List.length_nil]
  omega
theorem opsT_len : ∀ l : List Ov, l.all plainO = true → (opsT l).length ≤ l.length * 100001
  | [], _ => Nat.zero_le _
  | x :: r, h => by
    simp only [List.all_cons, Bool.and_eq_true] at h
    have ih := opsT_len r h.2
    have := (joinW_opW x h.1).1
    show (lineL [opL x] ++ opsT r).length ≤ _
    show ((opL x ++ [10]) ++ opsT r).length ≤ _
    unfold opL
    simp only [List.length_append, List.length_cons, List.length_nil]
    omega
theorem progT_len : ∀ (ss : List Pg) (i : Nat), (∀ s ∈ ss, s.l.length ≤ 256 ∧ s.l.all plainO = true) → (progT i ss).length ≤ ss.length * 25600274
  | [], _, _ => Nat.zero_le _
  | p :: r, i, h => by
    have ih := progT_len r (i + 1) fun s hs => h s (List.mem_cons_of_mem _ hs)
    obtain ⟨h1, h2⟩ := h p (List.mem_cons_self ..)
    have h3 := opsT_len p.l h2
    have h4 := clientW_len i
    have h5 := Nat.mul_le_mul_right 100001 h1
    show (lineL (clientW i) ++ (opsT p.l ++ progT (i + 1) r)).length ≤ (r.length + 1) * 25600274
    simp only [List.length_append]
    omega
structure ScZ (c : Cf) (ss : List Pg) (ps : List Int) : Prop where
  cfg : cfgE c = 0
  num : (ss.length : Int) = c.clients
  prog : progE ss = 0
  pn : ps.length ≤ 65535
  pk : ∀ q ∈ ps, 0 ≤ q ∧ q ≤ c.clients
  len : lenSc c ss ps.length ≤ 65536
theorem scE_zero {c : Cf} {ss : List Pg} {ps : List Int} (h : scE c ss ps = 0) : ScZ c ss ps := by
  unfold scE at h
  by_cases h1 : cfgE c = 0
  · rw [if_neg (fun k => k h1)] at h
    by_cases h2 : (ss.length : Int) = c.clients
    · rw [if_neg (fun k => k h2)] at h
      by_cases h3 : progE ss = 0
      · rw [if_neg (fun k => k h3)] at h
        by_cases h4 : 65535 < ps.length
        · rw [if_pos h4] at h; exact absurd h (by decide)
        · rw [if_neg h4] at h
          by_cases h5 : ps.all (fun q => inR q 0 c.clients) = true
          · rw [if_pos h5] at h
            by_cases h6 : 65536 < lenSc c ss ps.length
            · rw [if_pos h6] at h; exact absurd h (by decide)
            · refine ⟨h1, h2, h3, by omega, fun q hq => ?_, by omega⟩
              have := List.all_eq_true.1 h5 q hq
              unfold inR at this
              simpa using this
          · rw [if_neg h5] at h; exact absurd h (by decide)
      · rw [if_pos h3] at h; exact absurd h h3
    · rw [if_pos h2] at h; exact absurd h (by decide)
  · rw [if_pos h1] at h; exact absurd h h1
theorem cfgW_len {c : Cf} (h : c.t.size ≤ 65536) : (lineL (cfgW c)).length ≤ 1200000 := by
  have hk : ∀ x ∈ cfgW c, x.length ≤ 131073 := by
    intro x hx
    unfold cfgW at hx
    simp only [List.mem_append, List.mem_singleton, List.mem_map] at hx
    rcases hx with (rfl | ⟨v, _, rfl⟩) | rfl
    · show 6 ≤ _; omega
    · have := numL_len v; omega
    · rw [quote_len]; omega
  have := joinW_most (cfgW c) 131073 hk
  have h9 : (cfgW c).length = 9 := rfl
  rw [h9] at this
  unfold lineL
  rw [List.length_append, List.length_singleton]
  omega
theorem fmtL_len {c : Cf} {ss : List Pg} {ps : List Int} (h : ScZ c ss ps) (hn : ∀ s ∈ ss, s.l.length = s.n) : (fmtL c ss ps).length ≤ 300000000 := by
  have hz := cfg_zero h.cfg
  have h1 := cfgW_len hz.2.2
  have h2 := progT_len ss 0 fun s hs => by
    obtain ⟨a, b⟩ := progE_zero h.prog s hs
    exact ⟨by rw [hn s hs]; exact a, b⟩
  have h3 := picksT_len ps
  have h4 := h.num
  have h5 := h.pn
  have h6 : ss.length ≤ 8 := by omega
  have h7 := Nat.mul_le_mul_right 25600274 h6
  unfold fmtL
  simp only [List.length_append]
  omega
end Go.Proofs.YtdfkbahlngijcaaDoor

