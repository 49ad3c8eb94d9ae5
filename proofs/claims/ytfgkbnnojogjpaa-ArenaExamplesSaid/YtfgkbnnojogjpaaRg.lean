/- The arena: the law ArenaExamples. -/
import Derived.Test.YtfgkbnnojogjpaaRf
import Derived.Great.BuildSlice
namespace Go.Proofs.Ytfgkbnnojogjpaa
open Go.RowKit
set_option linter.unusedVariables false

set_option maxRecDepth 100000 in
set_option maxHeartbeats 2000000 in
theorem liveA_none (h : Int) (w : World) :
    Calls Try.prog 33 #[.pointer none, .int .u64 h] w fun e w' => e = .returned (.bool false) ∧ w = w' := by
  go_enter Try.func33, Try.ntmps33
  go_wp2_with fail
  go_ret
  exact ⟨rfl, rfl⟩
set_option maxRecDepth 100000 in
set_option maxHeartbeats 2000000 in
theorem handlesA_none (w : World) :
    Calls Try.prog 18 #[.pointer none] w fun e w' => e = .returned (.slice none 0 0) ∧ w = w' := by
  go_enter Try.func18, Try.ntmps18
  go_wp2_with fail
  go_ret
  exact ⟨rfl, rfl⟩
theorem le0M : (0 : Int) ≤ 18446744073709551615 := by decide
/-- a deed that names no more than four children, in memory -/
def DvOK (d : De) (u : World) : Prop := DeOK 0 u d ∧ d.x.kids.length ≤ 4
theorem DvOK.later {d : De} {u u' : World} (h : DvOK d u) (hb : Below u.heap.size u u') : DvOK d u' := ⟨h.1.later hb, h.2⟩
def DvR (v : Value) (u : World) : Prop := ∃ d : De, v = .agg #[.int .i64 d.k, .string d.t, .slice d.la d.l.length d.lc, .int .i64 d.x.h, .string d.x.text, .slice d.xa d.x.kids.length d.xc, .int .u64 d.h] ∧ DvOK d u
theorem Stab_dv : Stab DvR := fun _ _ _ ⟨d, e, h⟩ hb => ⟨d, e, h.later hb⟩
def IsV (l : List Int) (v : Value) (u : World) : Prop := ∃ b, v = .slice (some ⟨b, 0, none⟩) l.length l.length ∧ IsR fI u (some ⟨b, 0, none⟩) l.length l
theorem Stab_isv (l : List Int) : Stab (IsV l) := fun _ _ _ ⟨b, e, h⟩ hb => ⟨b, e, h.later hb⟩
def DsR (v : Value) (u : World) : Prop := ∃ b l, v = .slice (some ⟨b, 0, none⟩) 26 26 ∧ IsR deF u (some ⟨b, 0, none⟩) 26 l ∧ ∀ d ∈ l, DvOK d u
theorem Stab_ds : Stab DsR := fun _ _ _ ⟨b, l, e, h, hd⟩ hb => ⟨b, l, e, h.later hb, fun d hm => (hd d hm).later hb⟩
theorem isR_new {α : Type} {f : α → List Value} (u : World) (T : TypeId) (cs : Array Value) (l : List α) (n : Nat) (hn : l.length = n) (h : cs.toList = flatR f l) : IsR f (u.alloc (.cells cs T)) (some ⟨u.heap.size, 0, none⟩) n l :=
  ⟨hn, fun _ => ⟨_, 0, rfl, by simp, fun j v hj => by
    rw [block_cell (block_new u _), Nat.zero_add, ← hj, ← h]
    exact (Array.getElem?_toList).symm⟩⟩
theorem isV_new (u : World) (l : List Int) (cs : Array Value) (h : cs.toList = flatR fI l) : IsV l (.slice (some ⟨u.heap.size, 0, none⟩) l.length l.length) (u.alloc (.cells cs 3)) := ⟨_, rfl, isR_new u _ cs l _ rfl h⟩
theorem ds_new (u : World) (cs : Array Value) (l : List De) (hn : l.length = 26) (h : cs.toList = flatR deF l) (hd : Below u.heap.size u (u.alloc (.cells cs 48)) → ∀ d ∈ l, DvOK d (u.alloc (.cells cs 48))) : DsR (.slice (some ⟨u.heap.size, 0, none⟩) 26 26) (u.alloc (.cells cs 48)) :=
  ⟨_, l, rfl, isR_new u _ cs l _ hn h, hd ((Below.refl _ _).alloc (Nat.le_refl _) _)⟩
theorem infoDe : (Try.prog.info? 48).map (fun i => (i.zero, i.size, i.bytes)) = some (some (.agg #[.int .i64 0, .string ⟨#[]⟩, .slice none 0 0, .int .i64 0, .string ⟨#[]⟩, .slice none 0 0, .int .u64 0]), 7, 104) := by kernel_rfl
theorem build_ds {ops : Array Oper} {rest : List Oper} {o : Oper} {a : Act} {w : World} {Q : Exit → Act → World → Prop} (hg : o.guard = none) {parts : Array (Nat × Operand)} (ho : o.op = .buildSlice 41 26 parts) (l : List De) (hl : l.length = 26)
    (hp : parts.toList.map (fun (x : Nat × Operand) => (x.1, a.eval x.2)) = ((l.map deV).zipIdx 0).map fun x => (x.2, x.1))
    (h : wpList Try.prog ops Q rest (a.put o.dst (.slice (some ⟨w.heap.size, 0, none⟩) 26 26)) (w.alloc (.cells (flatR deF l).toArray 48))) : wpList Try.prog ops Q (o :: rest) a w := by
  obtain ⟨ie, hie, hz0, hz1, hz2⟩ := info_parts infoDe
  refine wpList_buildSlice hg _ 48 26 parts ho (flatR deF l).toArray ie _ Try.underlying41 hie hz0 (by rw [hz1]; decide) (by rw [hz1]; decide) ?_ h
  rw [hz1, Array.toList_map]
  refine (congrArg _ hp).trans ?_
  have hv : ∀ v ∈ l.map deV, v.cells.size = 7 := fun v hv => by
    obtain ⟨d, _, rfl⟩ := List.mem_map.1 hv
    rfl
  have := Great.fill_whole (s := 7) (by decide) (l.map deV) ((Array.range (26 * 7)).map ((Value.agg #[.int .i64 0, .string ⟨#[]⟩, .slice none 0 0, .int .i64 0, .string ⟨#[]⟩, .slice none 0 0, .int .u64 0]).cells[· % 7]!)) hv (by simp [hl])
  rw [List.flatMap_map] at this
  exact this
theorem all_cons {α : Type} {p : α → Prop} {a : α} {l : List α} (h : p a) (t : ∀ d ∈ l, p d) : ∀ d ∈ a :: l, p d := fun d hd => by
  rcases List.mem_cons.1 hd with rfl | hd
  · exact h
  · exact t d hd
def deLeaf : De := ⟨0, ⟨#[48, 49, 50, 51, 52, 53, 54, 55, 56, 57, 97, 98, 99, 100, 101, 102]⟩, [], none, 0, ⟨0, ⟨#[]⟩, []⟩, none, 0, 0⟩
def deShort : De := ⟨0, ⟨#[97]⟩, [], none, 0, ⟨0, ⟨#[]⟩, []⟩, none, 0, 0⟩
def deNum (h : Int) : De := ⟨7, ⟨#[]⟩, [], none, 0, ⟨0, ⟨#[]⟩, []⟩, none, 0, h⟩
theorem dv_leaf (u : World) : DvOK deLeaf u := ⟨⟨IsR.nil _ _ _, KsOK.nil _ _, Int.le_refl 0, le0M⟩, Nat.zero_le _⟩
theorem dv_short (u : World) : DvOK deShort u := ⟨⟨IsR.nil _ _ _, KsOK.nil _ _, Int.le_refl 0, le0M⟩, Nat.zero_le _⟩
theorem dv_num (h : Int) (u : World) (hh : 0 ≤ h ∧ h ≤ 18446744073709551615) : DvOK (deNum h) u := ⟨⟨IsR.nil _ _ _, KsOK.nil _ _, hh.1, hh.2⟩, Nat.zero_le _⟩
theorem de7 {u : World} {b : Nat} {x0 x1 x2 x3 x4 x5 x6 : Value} {T : TypeId} {fr : Nat × Nat} (h : u.heap[b]? = some (.cells #[x0, x1, x2, x3, x4, x5, x6] T fr)) :
    u.cell? ⟨b, 0, none⟩ = some x0 ∧ u.cell? ⟨b, 1, none⟩ = some x1 ∧ u.cell? ⟨b, 2, none⟩ = some x2 ∧ u.cell? ⟨b, 3, none⟩ = some x3 ∧ u.cell? ⟨b, 4, none⟩ = some x4 ∧ u.cell? ⟨b, 5, none⟩ = some x5 ∧ u.cell? ⟨b, 6, none⟩ = some x6 :=
  ⟨block_cell h 0, block_cell h 1, block_cell h 2, block_cell h 3, block_cell h 4, block_cell h 5, block_cell h 6⟩
theorem ks_block {u : World} {b n : Nat} {cs : Array Value} {l : List Kid} (h : u.heap[b]? = some (.cells cs 64 (0, 0))) (hn : l.length = n) (hc : cs.toList = flatR fK l) (hr : ∀ x ∈ l, 0 ≤ x.1 ∧ x.1 ≤ 18446744073709551615) : KsOK 0 u (some ⟨b, 0, none⟩) n n l := by
  refine ⟨IsR.ks ⟨hn, fun _ => ⟨b, 0, rfl, block_lt h, fun j v hj => ?_⟩⟩ hr, (fun h => nomatch h), fun b' o e _ => ?_⟩
  · rw [block_cell h, Nat.zero_add, ← hj, ← hc]
    exact (Array.getElem?_toList).symm
  · injection e with e
    injection e with e
    exact .inr ⟨cs, by rw [← e]; exact h⟩
def K3 : List Kid := [(65536, 16, 16, 0), (65537, 16, 16, 0)]
def K4 : List Kid := [(65536, 16, 16, 0), (65537, 15, 15, 0)]
def K5 : List Kid := [(65537, 15, 15, 0), (65545, 16, 16, 0)]

set_option maxRecDepth 100000 in
set_option maxHeartbeats 4000000 in
theorem inner_any (ao : Option Addr) (c : Nat) (l : List Int) (w : World) (h : IsR fI w ao l.length l) :
    Calls Try.prog 36 #[.slice ao l.length c] w fun e w' => ∃ v, e = .returned v ∧ DvR v w' ∧ Below w.heap.size w w' := by
  have HR := Lib.hid h
  clear h
  go_enter Try.func36, Try.ntmps36
  go_wp2_with fail
  have hb0 := block_new w (.cells #[.int .i64 2, .string ⟨#[]⟩, .slice ao l.length c, .int .i64 0, .string ⟨#[]⟩, .slice none 0 0, .int .u64 0] 48)
  have hbl := (Below.refl w.heap.size w).alloc (Nat.le_refl _) (.cells #[.int .i64 2, .string ⟨#[]⟩, .slice ao l.length c, .int .i64 0, .string ⟨#[]⟩, .slice none 0 0, .int .u64 0] 48)
  exact bodyPost_ret (res7 Try.results36 (Try.isAgg48 _) (Try.sizeOf48 _) rfl hb0) rfl ⟨_, rfl, ⟨⟨2, ⟨#[]⟩, l, ao, c, ⟨0, ⟨#[]⟩, []⟩, none, 0, 0⟩, rfl, ⟨HR.out.later hbl, KsOK.nil _ _, Int.le_refl 0, le0M⟩, Nat.zero_le _⟩, hbl⟩

set_option maxRecDepth 100000 in
set_option maxHeartbeats 4000000 in
theorem free_any2 (k : Int) (w : World) :
    Calls Try.prog 37 #[.int .i64 k] w fun e w' => ∃ v, e = .returned v ∧ DvR v w' ∧ Below w.heap.size w w' := by
  go_enter Try.func37, Try.ntmps37
  go_wp2_with fail
  have hb0 := block_alloc (block_new w (.cells #[.int .i64 6, .string ⟨#[]⟩, .slice (some ⟨w.heap.size + 1, 0, none⟩) 1 1, .int .i64 0, .string ⟨#[]⟩, .slice none 0 0, .int .u64 0] 48)) (.cells #[.int .i64 k] 3)
  have hbl := ((Below.refl w.heap.size w).alloc (Nat.le_refl _) (.cells #[.int .i64 6, .string ⟨#[]⟩, .slice (some ⟨w.heap.size + 1, 0, none⟩) 1 1, .int .i64 0, .string ⟨#[]⟩, .slice none 0 0, .int .u64 0] 48)).alloc (by simp) (.cells #[.int .i64 k] 3)
  have hi := isR_new (f := fI) (w.alloc (.cells #[.int .i64 6, .string ⟨#[]⟩, .slice (some ⟨w.heap.size + 1, 0, none⟩) 1 1, .int .i64 0, .string ⟨#[]⟩, .slice none 0 0, .int .u64 0] 48)) 3 #[.int .i64 k] [k] 1 rfl rfl
  rw [show (w.alloc (.cells #[.int .i64 6, .string ⟨#[]⟩, .slice (some ⟨w.heap.size + 1, 0, none⟩) 1 1, .int .i64 0, .string ⟨#[]⟩, .slice none 0 0, .int .u64 0] 48)).heap.size = w.heap.size + 1 by simp] at hi
  exact bodyPost_ret (res7 Try.results37 (Try.isAgg48 _) (Try.sizeOf48 _) rfl hb0) rfl ⟨_, rfl, ⟨⟨6, ⟨#[]⟩, [k], some ⟨w.heap.size + 1, 0, none⟩, 1, ⟨0, ⟨#[]⟩, []⟩, none, 0, 0⟩, rfl, ⟨hi, KsOK.nil _ _, Int.le_refl 0, le0M⟩, Nat.zero_le _⟩, hbl⟩

set_option maxRecDepth 100000 in
set_option maxHeartbeats 4000000 in
theorem raw_any (x : Nd) (ao : Option Addr) (c : Nat) (w : World) (h : KsOK 0 w ao x.kids.length c x.kids) (hx : x.kids.length ≤ 4) :
    Calls Try.prog 35 #[.agg #[.int .i64 x.h, .string x.text, .slice ao x.kids.length c]] w fun e w' => ∃ v, e = .returned v ∧ DvR v w' ∧ Below w.heap.size w w' := by
  have HR := Lib.hid h
  clear h
  go_enter Try.func35, Try.ntmps35
  go_wp2_with fail
  have hb0 := block_new' (w.alloc (.cells #[.int .i64 x.h, .string x.text, .slice ao x.kids.length c] 36)) (.cells #[.int .i64 4, .string ⟨#[]⟩, .slice none 0 0, .int .i64 x.h, .string x.text, .slice ao x.kids.length c, .int .u64 0] 48) (w.heap.size + 1) (by simp)
  have hbl := ((Below.refl w.heap.size w).alloc (Nat.le_refl _) (.cells #[.int .i64 x.h, .string x.text, .slice ao x.kids.length c] 36)).alloc (by simp) (.cells #[.int .i64 4, .string ⟨#[]⟩, .slice none 0 0, .int .i64 x.h, .string x.text, .slice ao x.kids.length c, .int .u64 0] 48)
  exact bodyPost_ret (res7 Try.results35 (Try.isAgg48 _) (Try.sizeOf48 _) rfl hb0) rfl ⟨_, rfl, ⟨⟨4, ⟨#[]⟩, [], none, 0, x, ao, c, 0⟩, rfl, ⟨IsR.nil _ _ _, HR.out.later hbl, Int.le_refl 0, le0M⟩, hx⟩, hbl⟩

def endsA : List Int := [-1, 0, 1, 16384, 16385]
theorem endsA_arr (w : World) : Arr (w.alloc (.cells #[.int .i64 (-1), .int .i64 0, .int .i64 1, .int .i64 16384, .int .i64 16385] 3)) w.heap.size 3 5 5 (fun i => .int .i64 (endsA.getD i 0)) :=
  ⟨_, block_new _ _, rfl, by decide, fun i hi => by
    have : i = 0 ∨ i = 1 ∨ i = 2 ∨ i = 3 ∨ i = 4 := by omega
    rcases this with rfl | rfl | rfl | rfl | rfl <;> rfl⟩
/-- what the examples are made of, in six blocks from S -/
structure ExB (S : Nat) (u : World) : Prop where
  l : u.heap[S]? = some (.cells #[.int .i64 0, .string ⟨#[48, 49, 50, 51, 52, 53, 54, 55, 56, 57, 97, 98, 99, 100, 101, 102]⟩, .slice none 0 0, .int .i64 0, .string ⟨#[]⟩, .slice none 0 0, .int .u64 0] 48 (0, 0))
  t : u.heap[S + 1]? = some (.cells #[.int .i64 0, .string ⟨#[97]⟩, .slice none 0 0, .int .i64 0, .string ⟨#[]⟩, .slice none 0 0, .int .u64 0] 48 (0, 0))
  a : u.heap[S + 3]? = some (.cells #[.int .u64 65536, .int .i64 16, .int .i64 16, .int .i64 0, .int .u64 65537, .int .i64 16, .int .i64 16, .int .i64 0] 64 (0, 0))
  b : u.heap[S + 4]? = some (.cells #[.int .u64 65536, .int .i64 16, .int .i64 16, .int .i64 0, .int .u64 65537, .int .i64 15, .int .i64 15, .int .i64 0] 64 (0, 0))
  c : u.heap[S + 5]? = some (.cells #[.int .u64 65537, .int .i64 15, .int .i64 15, .int .i64 0, .int .u64 65545, .int .i64 16, .int .i64 16, .int .i64 0] 64 (0, 0))
theorem ExB.below {S : Nat} {u u' : World} (h : ExB S u) (hb : Below u.heap.size u u') : ExB S u' :=
  ⟨block_below hb h.l (block_lt h.l), block_below hb h.t (block_lt h.t), block_below hb h.a (block_lt h.a), block_below hb h.b (block_lt h.b), block_below hb h.c (block_lt h.c)⟩

theorem exB_new (wr : World) : ExB wr.heap.size ((((((wr.alloc (.cells #[.int .i64 0, .string ⟨#[48, 49, 50, 51, 52, 53, 54, 55, 56, 57, 97, 98, 99, 100, 101, 102]⟩, .slice none 0 0, .int .i64 0, .string ⟨#[]⟩, .slice none 0 0, .int .u64 0] 48)).alloc (.cells #[.int .i64 0, .string ⟨#[97]⟩, .slice none 0 0, .int .i64 0, .string ⟨#[]⟩, .slice none 0 0, .int .u64 0] 48)).alloc (.cells #[.int .i64 16, .int .i64 16, .int .i64 0] 62)).alloc (.cells #[.int .u64 65536, .int .i64 16, .int .i64 16, .int .i64 0, .int .u64 65537, .int .i64 16, .int .i64 16, .int .i64 0] 64)).alloc (.cells #[.int .u64 65536, .int .i64 16, .int .i64 16, .int .i64 0, .int .u64 65537, .int .i64 15, .int .i64 15, .int .i64 0] 64)).alloc (.cells #[.int .u64 65537, .int .i64 15, .int .i64 15, .int .i64 0, .int .u64 65545, .int .i64 16, .int .i64 16, .int .i64 0] 64)) := by
  refine ⟨?_, ?_, ?_, ?_, ?_⟩
  · exact block_alloc (block_alloc (block_alloc (block_alloc (block_alloc (block_new wr (.cells #[.int .i64 0, .string ⟨#[48, 49, 50, 51, 52, 53, 54, 55, 56, 57, 97, 98, 99, 100, 101, 102]⟩, .slice none 0 0, .int .i64 0, .string ⟨#[]⟩, .slice none 0 0, .int .u64 0] 48)) (.cells #[.int .i64 0, .string ⟨#[97]⟩, .slice none 0 0, .int .i64 0, .string ⟨#[]⟩, .slice none 0 0, .int .u64 0] 48)) (.cells #[.int .i64 16, .int .i64 16, .int .i64 0] 62)) (.cells #[.int .u64 65536, .int .i64 16, .int .i64 16, .int .i64 0, .int .u64 65537, .int .i64 16, .int .i64 16, .int .i64 0] 64)) (.cells #[.int .u64 65536, .int .i64 16, .int .i64 16, .int .i64 0, .int .u64 65537, .int .i64 15, .int .i64 15, .int .i64 0] 64)) (.cells #[.int .u64 65537, .int .i64 15, .int .i64 15, .int .i64 0, .int .u64 65545, .int .i64 16, .int .i64 16, .int .i64 0] 64)
  · exact block_alloc (block_alloc (block_alloc (block_alloc (block_new' (wr.alloc (.cells #[.int .i64 0, .string ⟨#[48, 49, 50, 51, 52, 53, 54, 55, 56, 57, 97, 98, 99, 100, 101, 102]⟩, .slice none 0 0, .int .i64 0, .string ⟨#[]⟩, .slice none 0 0, .int .u64 0] 48)) (.cells #[.int .i64 0, .string ⟨#[97]⟩, .slice none 0 0, .int .i64 0, .string ⟨#[]⟩, .slice none 0 0, .int .u64 0] 48) (wr.heap.size + 1) (by simp)) (.cells #[.int .i64 16, .int .i64 16, .int .i64 0] 62)) (.cells #[.int .u64 65536, .int .i64 16, .int .i64 16, .int .i64 0, .int .u64 65537, .int .i64 16, .int .i64 16, .int .i64 0] 64)) (.cells #[.int .u64 65536, .int .i64 16, .int .i64 16, .int .i64 0, .int .u64 65537, .int .i64 15, .int .i64 15, .int .i64 0] 64)) (.cells #[.int .u64 65537, .int .i64 15, .int .i64 15, .int .i64 0, .int .u64 65545, .int .i64 16, .int .i64 16, .int .i64 0] 64)
  · exact block_alloc (block_alloc (block_new' (((wr.alloc (.cells #[.int .i64 0, .string ⟨#[48, 49, 50, 51, 52, 53, 54, 55, 56, 57, 97, 98, 99, 100, 101, 102]⟩, .slice none 0 0, .int .i64 0, .string ⟨#[]⟩, .slice none 0 0, .int .u64 0] 48)).alloc (.cells #[.int .i64 0, .string ⟨#[97]⟩, .slice none 0 0, .int .i64 0, .string ⟨#[]⟩, .slice none 0 0, .int .u64 0] 48)).alloc (.cells #[.int .i64 16, .int .i64 16, .int .i64 0] 62)) (.cells #[.int .u64 65536, .int .i64 16, .int .i64 16, .int .i64 0, .int .u64 65537, .int .i64 16, .int .i64 16, .int .i64 0] 64) (wr.heap.size + 3) (by simp)) (.cells #[.int .u64 65536, .int .i64 16, .int .i64 16, .int .i64 0, .int .u64 65537, .int .i64 15, .int .i64 15, .int .i64 0] 64)) (.cells #[.int .u64 65537, .int .i64 15, .int .i64 15, .int .i64 0, .int .u64 65545, .int .i64 16, .int .i64 16, .int .i64 0] 64)
  · exact block_alloc (block_new' ((((wr.alloc (.cells #[.int .i64 0, .string ⟨#[48, 49, 50, 51, 52, 53, 54, 55, 56, 57, 97, 98, 99, 100, 101, 102]⟩, .slice none 0 0, .int .i64 0, .string ⟨#[]⟩, .slice none 0 0, .int .u64 0] 48)).alloc (.cells #[.int .i64 0, .string ⟨#[97]⟩, .slice none 0 0, .int .i64 0, .string ⟨#[]⟩, .slice none 0 0, .int .u64 0] 48)).alloc (.cells #[.int .i64 16, .int .i64 16, .int .i64 0] 62)).alloc (.cells #[.int .u64 65536, .int .i64 16, .int .i64 16, .int .i64 0, .int .u64 65537, .int .i64 16, .int .i64 16, .int .i64 0] 64)) (.cells #[.int .u64 65536, .int .i64 16, .int .i64 16, .int .i64 0, .int .u64 65537, .int .i64 15, .int .i64 15, .int .i64 0] 64) (wr.heap.size + 4) (by simp)) (.cells #[.int .u64 65537, .int .i64 15, .int .i64 15, .int .i64 0, .int .u64 65545, .int .i64 16, .int .i64 16, .int .i64 0] 64)
  · exact block_new' (((((wr.alloc (.cells #[.int .i64 0, .string ⟨#[48, 49, 50, 51, 52, 53, 54, 55, 56, 57, 97, 98, 99, 100, 101, 102]⟩, .slice none 0 0, .int .i64 0, .string ⟨#[]⟩, .slice none 0 0, .int .u64 0] 48)).alloc (.cells #[.int .i64 0, .string ⟨#[97]⟩, .slice none 0 0, .int .i64 0, .string ⟨#[]⟩, .slice none 0 0, .int .u64 0] 48)).alloc (.cells #[.int .i64 16, .int .i64 16, .int .i64 0] 62)).alloc (.cells #[.int .u64 65536, .int .i64 16, .int .i64 16, .int .i64 0, .int .u64 65537, .int .i64 16, .int .i64 16, .int .i64 0] 64)).alloc (.cells #[.int .u64 65536, .int .i64 16, .int .i64 16, .int .i64 0, .int .u64 65537, .int .i64 15, .int .i64 15, .int .i64 0] 64)) (.cells #[.int .u64 65537, .int .i64 15, .int .i64 15, .int .i64 0, .int .u64 65545, .int .i64 16, .int .i64 16, .int .i64 0] 64) (wr.heap.size + 5) (by simp)
theorem exB_low {w wr : World} (h : Below w.heap.size w wr) : Below w.heap.size w ((((((wr.alloc (.cells #[.int .i64 0, .string ⟨#[48, 49, 50, 51, 52, 53, 54, 55, 56, 57, 97, 98, 99, 100, 101, 102]⟩, .slice none 0 0, .int .i64 0, .string ⟨#[]⟩, .slice none 0 0, .int .u64 0] 48)).alloc (.cells #[.int .i64 0, .string ⟨#[97]⟩, .slice none 0 0, .int .i64 0, .string ⟨#[]⟩, .slice none 0 0, .int .u64 0] 48)).alloc (.cells #[.int .i64 16, .int .i64 16, .int .i64 0] 62)).alloc (.cells #[.int .u64 65536, .int .i64 16, .int .i64 16, .int .i64 0, .int .u64 65537, .int .i64 16, .int .i64 16, .int .i64 0] 64)).alloc (.cells #[.int .u64 65536, .int .i64 16, .int .i64 16, .int .i64 0, .int .u64 65537, .int .i64 15, .int .i64 15, .int .i64 0] 64)).alloc (.cells #[.int .u64 65537, .int .i64 15, .int .i64 15, .int .i64 0, .int .u64 65545, .int .i64 16, .int .i64 16, .int .i64 0] 64)) := h.trans ((((((((Below.refl wr.heap.size wr).alloc (Nat.le_refl _) (.cells #[.int .i64 0, .string ⟨#[48, 49, 50, 51, 52, 53, 54, 55, 56, 57, 97, 98, 99, 100, 101, 102]⟩, .slice none 0 0, .int .i64 0, .string ⟨#[]⟩, .slice none 0 0, .int .u64 0] 48)).alloc (by simp) (.cells #[.int .i64 0, .string ⟨#[97]⟩, .slice none 0 0, .int .i64 0, .string ⟨#[]⟩, .slice none 0 0, .int .u64 0] 48)).alloc (by simp; omega) (.cells #[.int .i64 16, .int .i64 16, .int .i64 0] 62)).alloc (by simp; omega) (.cells #[.int .u64 65536, .int .i64 16, .int .i64 16, .int .i64 0, .int .u64 65537, .int .i64 16, .int .i64 16, .int .i64 0] 64)).alloc (by simp; omega) (.cells #[.int .u64 65536, .int .i64 16, .int .i64 16, .int .i64 0, .int .u64 65537, .int .i64 15, .int .i64 15, .int .i64 0] 64)).alloc (by simp; omega) (.cells #[.int .u64 65537, .int .i64 15, .int .i64 15, .int .i64 0, .int .u64 65545, .int .i64 16, .int .i64 16, .int .i64 0] 64)).mono h.size)

theorem deeds_of {u : World} {b n : Nat} {l : List De} (h : IsR deF u (some ⟨b, 0, none⟩) n l) (hd : ∀ d ∈ l, DvOK d u) : Deeds u (some ⟨b, 0, none⟩) n l :=
  ⟨h, fun d hm => ⟨(hd d hm).1.1, ⟨(hd d hm).1.2.1.1, (hd d hm).1.2.1.2.1, fun q o e hn => by
    rcases (hd d hm).1.2.1.2.2 q o e hn with h | h
    · omega
    · exact .inr h⟩, (hd d hm).1.2.2⟩⟩

set_option maxRecDepth 100000 in
set_option maxHeartbeats 40000000 in
theorem examples_any (w : World) :
    Calls Try.prog 7 #[] w fun e w' => e = .returned (.bool true) ∧ Below w.heap.size w w' := by
  have HB0 := Lib.hid (Below.refl w.heap.size w)
  go_enter Try.func7, Try.ntmps7
  go_wp2_with fail
  refine (allocA_none ⟨0, ⟨#[97]⟩, []⟩ none 0 0 w).mono ?_; rintro e w1 ⟨rfl, hb1⟩
  have HB1 := Lib.hid (below_two HB0.out hb1)
  clear hb1 HB0
  go_wp2_with fail
  refine (getA_none _ _).mono ?_; rintro e w2 ⟨rfl, hb2⟩
  unfold zN
  have HX := Lib.hid (block_new w2 (.cells #[.int .i64 0, .string ⟨#[]⟩, .slice none 0 0] 36))
  have HB2 := Lib.hid ((below_two HB1.out hb2).alloc (Nat.le_trans HB1.out.size hb2.size) (.cells #[.int .i64 0, .string ⟨#[]⟩, .slice none 0 0] 36))
  clear hb2 HB1
  have hx := HX.out
  (have q0 := block_cell hx 0; have q1 := block_cell hx 1; have q2 := block_cell hx 2; have f0 := block_free hx 0; have f1 := block_free hx 1; have f2 := block_free hx 2; have hz := block_lt hx; simp at q0 q1 q2)
  clear hx
  go_wp2_with fail
  refine (slotsA_none _).mono ?_; rintro e w3 ⟨rfl, rfl⟩
  go_wp2_with fail
  refine (equalN_yes noN none none 0 0 0 _ ⟨rfl, by simp [noN], fun h => absurd h (Nat.lt_irrefl _)⟩ ⟨rfl, by simp [noN], fun h => absurd h (Nat.lt_irrefl _)⟩ (by decide)).mono ?_; rintro e w3 ⟨rfl, hb3⟩
  have HB3 := Lib.hid (below_two HB2.out hb3)
  clear hb3 HB2 HX q0 q1 q2 f0 f1 f2 hz
  go_wp2_with fail
  refine (freeA_none _ _).mono ?_; rintro e w4 ⟨rfl, rfl⟩
  go_wp2_with fail
  refine (liveA_none _ _).mono ?_; rintro e w4 ⟨rfl, rfl⟩
  go_wp2_with fail
  refine (handlesA_none _).mono ?_; rintro e w4 ⟨rfl, rfl⟩
  go_wp2_with fail
  refine (statsA_none _).mono ?_; rintro e w4 ⟨rfl, hb4⟩
  unfold stats0
  have HB4 := Lib.hid (below_two HB3.out hb4)
  clear hb4 HB3
  go_wp2_with fail
  have HA1 := Lib.hid (endsA_arr w4)
  have HB5 := Lib.hid (HB4.out.alloc HB4.out.size (.cells #[.int .i64 (-1), .int .i64 0, .int .i64 1, .int .i64 16384, .int .i64 16385] 3))
  go_loopw [9] (fun i wr => ∃ k : Nat, k ≤ 5 ∧ i = .int .i64 k ∧ Arr wr w4.heap.size 3 5 5 (fun i => .int .i64 (endsA.getD i 0)) ∧ Below w.heap.size w wr) (fun i _ => 5 - (intOf i).toNat)
  case atStart => exact ⟨0, by decide, rfl, HA1.out, HB5.out⟩
  case round =>
    obtain ⟨k, hk, rfl, ha, hb⟩ := hrel
    have HAA := Lib.hid ha
    have HBB := Lib.hid hb
    by_cases hlt : k < 5
    · have c0 := ha.cell hlt
      have hk1 : (k : Int) < 5 := by omega
      generalize endsA.getD k 0 = en at c0
      clear ha hb
      go_wp2_with fail
      refine (walk_makes13 _ _ _).mono ?_; rintro e w5 ⟨rfl, hb⟩
      have A4 := Lib.hid (HAA.out.keep (hb.block _ HAA.out.lt))
      have B4 := Lib.hid (below_two HBB.out hb)
      have c4 := (hb.cell (p := ⟨w4.heap.size, k, none⟩) HAA.out.lt).trans c0
      clear hb c0
      go_wp2_with fail
      refine (walk_makes13 _ _ _).mono ?_; rintro e w6 ⟨rfl, hb⟩
      have A5 := Lib.hid (A4.out.keep (hb.block _ A4.out.lt))
      have B5 := Lib.hid (below_two B4.out hb)
      have c5 := (hb.cell (p := ⟨w4.heap.size, k, none⟩) A4.out.lt).trans c4
      clear hb c4
      go_wp2_with fail
      refine (walk_makes13 _ _ _).mono ?_; rintro e w7 ⟨rfl, hb⟩
      have A6 := Lib.hid (A5.out.keep (hb.block _ A5.out.lt))
      have B6 := Lib.hid (below_two B5.out hb)
      have c6 := (hb.cell (p := ⟨w4.heap.size, k, none⟩) A5.out.lt).trans c5
      clear hb c5
      go_wp2_with fail
      refine (walk_makes13 _ _ _).mono ?_; rintro e w8 ⟨rfl, hb⟩
      have A7 := Lib.hid (A6.out.keep (hb.block _ A6.out.lt))
      have B7 := Lib.hid (below_two B6.out hb)
      clear hb c6
      go_wp2_with fail
      go_roundw
      case rel => exact ⟨k + 1, by omega, by go_num, A7.out, B7.out⟩
      case measure => simp [intOf]; omega
    · have hk7 : ¬ ((k : Int) < 5) := by omega
      clear ha hb HAA hlt hk
      go_wp2_with fail
      have HEX := Lib.hid (exB_new wr)
      have HBX := Lib.hid (exB_low HBB.out)
      obtain ⟨SS, hSS⟩ : ∃ SS, SS = wr.heap.size := ⟨_, rfl⟩
      rw [← hSS] at HEX
      generalize ((((((wr.alloc (.cells #[.int .i64 0, .string ⟨#[48, 49, 50, 51, 52, 53, 54, 55, 56, 57, 97, 98, 99, 100, 101, 102]⟩, .slice none 0 0, .int .i64 0, .string ⟨#[]⟩, .slice none 0 0, .int .u64 0] 48)).alloc (.cells #[.int .i64 0, .string ⟨#[97]⟩, .slice none 0 0, .int .i64 0, .string ⟨#[]⟩, .slice none 0 0, .int .u64 0] 48)).alloc (.cells #[.int .i64 16, .int .i64 16, .int .i64 0] 62)).alloc (.cells #[.int .u64 65536, .int .i64 16, .int .i64 16, .int .i64 0, .int .u64 65537, .int .i64 16, .int .i64 16, .int .i64 0] 64)).alloc (.cells #[.int .u64 65536, .int .i64 16, .int .i64 16, .int .i64 0, .int .u64 65537, .int .i64 15, .int .i64 15, .int .i64 0] 64)).alloc (.cells #[.int .u64 65537, .int .i64 15, .int .i64 15, .int .i64 0, .int .u64 65545, .int .i64 16, .int .i64 16, .int .i64 0] 64)) = wx at *
      rw [← hSS]
      clear hSS HBB
      go_loopw [16, 17, 18] (fun i _ _ wr => ∃ k : Nat, 1 ≤ k ∧ k ≤ 8 ∧ i = .int .i64 k ∧ ExB SS wr ∧ Below w.heap.size w wr) (fun i _ _ _ => 8 - (intOf i).toNat)
      case atStart => exact ⟨1, by decide, by decide, rfl, HEX.out, HBX.out⟩
      case round =>
        obtain ⟨n, hn1, hn, rfl, hex, hb⟩ := hrel
        have HE2 := Lib.hid hex
        have HB2 := Lib.hid hb
        clear hex hb HEX HBX
        by_cases hlt : n < 8
        · have hn2 : (n : Int) < 8 := by omega
          have HL := Lib.hid HE2.out.l
          have HT := Lib.hid HE2.out.t
          have HK3 := Lib.hid (ks_block (l := K3) (n := 2) HE2.out.a rfl rfl (by decide))
          have HK4 := Lib.hid (ks_block (l := K4) (n := 2) HE2.out.b rfl rfl (by decide))
          have HK5 := Lib.hid (ks_block (l := K5) (n := 2) HE2.out.c rfl rfl (by decide))
          go_wp2_with fail
          refine wp_region_specs (by kernel_rfl) (by decide) (by kernel_rfl) ?_
          simp only [fill, Act.put, List.setIfInBounds_toArray, List.set_cons_zero, List.set_cons_succ, Nat.zero_add, Nat.reduceAdd]
          apply OpsOK.eq
          · intro vs u hb hd
            clear hd
            obtain ⟨l0, l1, l2, l3, l4, l5, l6⟩ := de7 (block_below hb HL.out (block_lt HL.out))
            go_wp2_with fail
            exact ⟨rfl, _, rfl, Below.refl _ _, rfl⟩
          apply OpsOK.eq
          · intro vs u hb hd
            clear hd
            obtain ⟨l0, l1, l2, l3, l4, l5, l6⟩ := de7 (block_below hb HL.out (block_lt HL.out))
            go_wp2_with fail
            exact ⟨rfl, _, rfl, Below.refl _ _, rfl⟩
          apply OpsOK.eq
          · intro vs u hb hd
            clear hd
            obtain ⟨l0, l1, l2, l3, l4, l5, l6⟩ := de7 (block_below hb HT.out (block_lt HT.out))
            go_wp2_with fail
            exact ⟨rfl, _, rfl, Below.refl _ _, rfl⟩
          apply OpsOK.eq
          · intro vs u hb hd
            clear hd
            go_wp2_with fail
            exact ⟨rfl, _, rfl, Below.refl _ _, rfl⟩
          apply OpsOK.eq
          · intro vs u hb hd
            simp [Region.binds] at hd
            have e3 := hd
            clear hd
            simp only [e3]
            go_wp2_with fail
            exact ⟨rfl, _, rfl, Below.refl _ _, rfl⟩
          refine OpsOK.step (DvR) Stab_dv ?_ ?_
          · intro vs u hb hd
            simp [Region.binds] at hd
            have e4 := hd
            clear hd
            simp only [e4]
            go_wp2_with fail
            refine (raw_any ⟨1, ⟨#[]⟩, K3⟩ _ 2 u (KsOK.later HK3.out hb) (by decide)).mono ?_; rintro e w1 ⟨v, rfl, hd, hbel⟩; go_wp2_with fail; exact ⟨rfl, _, rfl, hbel, hd⟩
          apply OpsOK.eq
          · intro vs u hb hd
            clear hd
            go_wp2_with fail
            exact ⟨rfl, _, rfl, Below.refl _ _, rfl⟩
          apply OpsOK.eq
          · intro vs u hb hd
            simp [Region.binds] at hd
            have e6 := hd
            clear hd
            simp only [e6]
            go_wp2_with fail
            exact ⟨rfl, _, rfl, Below.refl _ _, rfl⟩
          refine OpsOK.step (DvR) Stab_dv ?_ ?_
          · intro vs u hb hd
            simp [Region.binds] at hd
            obtain ⟨e7, ⟨d5, e5, h5⟩⟩ := hd
            simp only [e7, e5]
            go_wp2_with fail
            refine (raw_any ⟨1, ⟨#[]⟩, K4⟩ _ 2 u (KsOK.later HK4.out hb) (by decide)).mono ?_; rintro e w1 ⟨v, rfl, hd, hbel⟩; go_wp2_with fail; exact ⟨rfl, _, rfl, hbel, hd⟩
          apply OpsOK.eq
          · intro vs u hb hd
            clear hd
            go_wp2_with fail
            exact ⟨rfl, _, rfl, Below.refl _ _, rfl⟩
          apply OpsOK.eq
          · intro vs u hb hd
            simp [Region.binds] at hd
            have e9 := hd
            clear hd
            simp only [e9]
            go_wp2_with fail
            exact ⟨rfl, _, rfl, Below.refl _ _, rfl⟩
          refine OpsOK.step (DvR) Stab_dv ?_ ?_
          · intro vs u hb hd
            simp [Region.binds] at hd
            obtain ⟨e10, ⟨d8, e8, h8⟩⟩ := hd
            simp only [e10, e8]
            go_wp2_with fail
            refine (raw_any ⟨1, ⟨#[]⟩, K5⟩ _ 2 u (KsOK.later HK5.out hb) (by decide)).mono ?_; rintro e w1 ⟨v, rfl, hd, hbel⟩; go_wp2_with fail; exact ⟨rfl, _, rfl, hbel, hd⟩
          apply OpsOK.eq
          · intro vs u hb hd
            clear hd
            go_wp2_with fail
            exact ⟨rfl, _, rfl, Below.refl _ _, rfl⟩
          apply OpsOK.eq
          · intro vs u hb hd
            simp [Region.binds] at hd
            have e12 := hd
            clear hd
            simp only [e12]
            go_wp2_with fail
            exact ⟨rfl, _, rfl, Below.refl _ _, rfl⟩
          refine OpsOK.step (DvR) Stab_dv ?_ ?_
          · intro vs u hb hd
            simp [Region.binds] at hd
            obtain ⟨e13, ⟨d11, e11, h11⟩⟩ := hd
            simp only [e13, e11]
            go_wp2_with fail
            refine (raw_any ⟨2, ⟨#[]⟩, K3⟩ _ 2 u (KsOK.later HK3.out hb) (by decide)).mono ?_; rintro e w1 ⟨v, rfl, hd, hbel⟩; go_wp2_with fail; exact ⟨rfl, _, rfl, hbel, hd⟩
          refine OpsOK.step (IsV [0, 2]) (Stab_isv _) ?_ ?_
          · intro vs u hb hd
            clear hd
            go_wp2_with fail
            exact ⟨rfl, _, rfl, (Below.refl _ _).alloc (Nat.le_refl _) _, isV_new u [0, 2] _ rfl⟩
          refine OpsOK.step (DvR) Stab_dv ?_ ?_
          · intro vs u hb hd
            simp [Region.binds] at hd
            obtain ⟨⟨b15, e15, h15⟩, ⟨d14, e14, h14⟩⟩ := hd
            simp only [e15, e14]
            go_wp2_with fail
            refine (inner_any _ _ [0, 2] u h15).mono ?_; rintro e w1 ⟨v, rfl, hd, hbel⟩; go_wp2_with fail; exact ⟨rfl, _, rfl, hbel, hd⟩
          refine OpsOK.step (IsV [0, 1, 0, 1]) (Stab_isv _) ?_ ?_
          · intro vs u hb hd
            clear hd
            go_wp2_with fail
            exact ⟨rfl, _, rfl, (Below.refl _ _).alloc (Nat.le_refl _) _, isV_new u [0, 1, 0, 1] _ rfl⟩
          refine OpsOK.step (DvR) Stab_dv ?_ ?_
          · intro vs u hb hd
            simp [Region.binds] at hd
            obtain ⟨⟨b17, e17, h17⟩, ⟨d16, e16, h16⟩⟩ := hd
            simp only [e17, e16]
            go_wp2_with fail
            refine (inner_any _ _ [0, 1, 0, 1] u h17).mono ?_; rintro e w1 ⟨v, rfl, hd, hbel⟩; go_wp2_with fail; exact ⟨rfl, _, rfl, hbel, hd⟩
          refine OpsOK.step (IsV [0, 1, 0, 1, 0]) (Stab_isv _) ?_ ?_
          · intro vs u hb hd
            clear hd
            go_wp2_with fail
            exact ⟨rfl, _, rfl, (Below.refl _ _).alloc (Nat.le_refl _) _, isV_new u [0, 1, 0, 1, 0] _ rfl⟩
          refine OpsOK.step (DvR) Stab_dv ?_ ?_
          · intro vs u hb hd
            simp [Region.binds] at hd
            obtain ⟨⟨b19, e19, h19⟩, ⟨d18, e18, h18⟩⟩ := hd
            simp only [e19, e18]
            go_wp2_with fail
            refine (inner_any _ _ [0, 1, 0, 1, 0] u h19).mono ?_; rintro e w1 ⟨v, rfl, hd, hbel⟩; go_wp2_with fail; exact ⟨rfl, _, rfl, hbel, hd⟩
          refine OpsOK.step (IsV [3, 3]) (Stab_isv _) ?_ ?_
          · intro vs u hb hd
            clear hd
            go_wp2_with fail
            exact ⟨rfl, _, rfl, (Below.refl _ _).alloc (Nat.le_refl _) _, isV_new u [3, 3] _ rfl⟩
          refine OpsOK.step (DvR) Stab_dv ?_ ?_
          · intro vs u hb hd
            simp [Region.binds] at hd
            obtain ⟨⟨b21, e21, h21⟩, ⟨d20, e20, h20⟩⟩ := hd
            simp only [e21, e20]
            go_wp2_with fail
            refine (inner_any _ _ [3, 3] u h21).mono ?_; rintro e w1 ⟨v, rfl, hd, hbel⟩; go_wp2_with fail; exact ⟨rfl, _, rfl, hbel, hd⟩
          refine OpsOK.step (IsV [3, 0]) (Stab_isv _) ?_ ?_
          · intro vs u hb hd
            clear hd
            go_wp2_with fail
            exact ⟨rfl, _, rfl, (Below.refl _ _).alloc (Nat.le_refl _) _, isV_new u [3, 0] _ rfl⟩
          refine OpsOK.step (DvR) Stab_dv ?_ ?_
          · intro vs u hb hd
            simp [Region.binds] at hd
            obtain ⟨⟨b23, e23, h23⟩, ⟨d22, e22, h22⟩⟩ := hd
            simp only [e23, e22]
            go_wp2_with fail
            refine (inner_any _ _ [3, 0] u h23).mono ?_; rintro e w1 ⟨v, rfl, hd, hbel⟩; go_wp2_with fail; exact ⟨rfl, _, rfl, hbel, hd⟩
          refine OpsOK.step (DvR) Stab_dv ?_ ?_
          · intro vs u hb hd
            simp [Region.binds] at hd
            obtain ⟨d24, e24, h24⟩ := hd
            simp only [e24]
            go_wp2_with fail
            refine (free_any2 3 u).mono ?_; rintro e w1 ⟨v, rfl, hd, hbel⟩; go_wp2_with fail; exact ⟨rfl, _, rfl, hbel, hd⟩
          refine OpsOK.step (IsV [3, 3]) (Stab_isv _) ?_ ?_
          · intro vs u hb hd
            clear hd
            go_wp2_with fail
            exact ⟨rfl, _, rfl, (Below.refl _ _).alloc (Nat.le_refl _) _, isV_new u [3, 3] _ rfl⟩
          refine OpsOK.step (DvR) Stab_dv ?_ ?_
          · intro vs u hb hd
            simp [Region.binds] at hd
            obtain ⟨⟨b26, e26, h26⟩, ⟨d25, e25, h25⟩⟩ := hd
            simp only [e26, e25]
            go_wp2_with fail
            refine (inner_any _ _ [3, 3] u h26).mono ?_; rintro e w1 ⟨v, rfl, hd, hbel⟩; go_wp2_with fail; exact ⟨rfl, _, rfl, hbel, hd⟩
          refine OpsOK.step (DvR) Stab_dv ?_ ?_
          · intro vs u hb hd
            simp [Region.binds] at hd
            obtain ⟨d27, e27, h27⟩ := hd
            simp only [e27]
            go_wp2_with fail
            refine (free_any2 0 u).mono ?_; rintro e w1 ⟨v, rfl, hd, hbel⟩; go_wp2_with fail; exact ⟨rfl, _, rfl, hbel, hd⟩
          refine OpsOK.step (IsV [0, 1]) (Stab_isv _) ?_ ?_
          · intro vs u hb hd
            clear hd
            go_wp2_with fail
            exact ⟨rfl, _, rfl, (Below.refl _ _).alloc (Nat.le_refl _) _, isV_new u [0, 1] _ rfl⟩
          refine OpsOK.step (DvR) Stab_dv ?_ ?_
          · intro vs u hb hd
            simp [Region.binds] at hd
            obtain ⟨⟨b29, e29, h29⟩, ⟨d28, e28, h28⟩⟩ := hd
            simp only [e29, e28]
            go_wp2_with fail
            refine (inner_any _ _ [0, 1] u h29).mono ?_; rintro e w1 ⟨v, rfl, hd, hbel⟩; go_wp2_with fail; exact ⟨rfl, _, rfl, hbel, hd⟩
          refine OpsOK.step (DvR) Stab_dv ?_ ?_
          · intro vs u hb hd
            simp [Region.binds] at hd
            obtain ⟨d30, e30, h30⟩ := hd
            simp only [e30]
            go_wp2_with fail
            refine (free_any2 0 u).mono ?_; rintro e w1 ⟨v, rfl, hd, hbel⟩; go_wp2_with fail; exact ⟨rfl, _, rfl, hbel, hd⟩
          apply OpsOK.eq
          · intro vs u hb hd
            clear hd
            obtain ⟨l0, l1, l2, l3, l4, l5, l6⟩ := de7 (block_below hb HL.out (block_lt HL.out))
            go_wp2_with fail
            exact ⟨rfl, _, rfl, Below.refl _ _, rfl⟩
          apply OpsOK.eq
          · intro vs u hb hd
            clear hd
            obtain ⟨l0, l1, l2, l3, l4, l5, l6⟩ := de7 (block_below hb HL.out (block_lt HL.out))
            go_wp2_with fail
            exact ⟨rfl, _, rfl, Below.refl _ _, rfl⟩
          apply OpsOK.eq
          · intro vs u hb hd
            clear hd
            obtain ⟨l0, l1, l2, l3, l4, l5, l6⟩ := de7 (block_below hb HL.out (block_lt HL.out))
            go_wp2_with fail
            exact ⟨rfl, _, rfl, Below.refl _ _, rfl⟩
          apply OpsOK.eq
          · intro vs u hb hd
            clear hd
            obtain ⟨l0, l1, l2, l3, l4, l5, l6⟩ := de7 (block_below hb HL.out (block_lt HL.out))
            go_wp2_with fail
            exact ⟨rfl, _, rfl, Below.refl _ _, rfl⟩
          apply OpsOK.eq
          · intro vs u hb hd
            clear hd
            obtain ⟨l0, l1, l2, l3, l4, l5, l6⟩ := de7 (block_below hb HL.out (block_lt HL.out))
            go_wp2_with fail
            exact ⟨rfl, _, rfl, Below.refl _ _, rfl⟩
          apply OpsOK.eq
          · intro vs u hb hd
            clear hd
            go_wp2_with fail
            exact ⟨rfl, _, rfl, Below.refl _ _, rfl⟩
          apply OpsOK.eq
          · intro vs u hb hd
            clear hd
            go_wp2_with fail
            exact ⟨rfl, _, rfl, Below.refl _ _, rfl⟩
          refine OpsOK.step (IsV [0]) (Stab_isv _) ?_ ?_
          · intro vs u hb hd
            clear hd
            go_wp2_with fail
            exact ⟨rfl, _, rfl, (Below.refl _ _).alloc (Nat.le_refl _) _, isV_new u [0] _ rfl⟩
          refine OpsOK.step (DvR) Stab_dv ?_ ?_
          · intro vs u hb hd
            simp [Region.binds] at hd
            obtain ⟨b39, e39, h39⟩ := hd
            simp only [e39]
            go_wp2_with fail
            exact ⟨rfl, _, rfl, Below.refl _ _, ⟨5, ⟨#[]⟩, [0], some ⟨b39, 0, none⟩, 1, noN, none, 0, 0⟩, rfl, ⟨h39, KsOK.nil _ _, Int.le_refl 0, le0M⟩, Nat.zero_le _⟩
          refine OpsOK.step (IsV [1]) (Stab_isv _) ?_ ?_
          · intro vs u hb hd
            clear hd
            go_wp2_with fail
            exact ⟨rfl, _, rfl, (Below.refl _ _).alloc (Nat.le_refl _) _, isV_new u [1] _ rfl⟩
          refine OpsOK.step (DvR) Stab_dv ?_ ?_
          · intro vs u hb hd
            simp [Region.binds] at hd
            obtain ⟨b41, e41, h41⟩ := hd
            simp only [e41]
            go_wp2_with fail
            exact ⟨rfl, _, rfl, Below.refl _ _, ⟨5, ⟨#[]⟩, [1], some ⟨b41, 0, none⟩, 1, noN, none, 0, 0⟩, rfl, ⟨h41, KsOK.nil _ _, Int.le_refl 0, le0M⟩, Nat.zero_le _⟩
          refine OpsOK.step (DsR) Stab_ds ?_ ?_
          · intro vs u hb hd
            simp [Region.binds] at hd
            obtain ⟨e0, e1, e2, ⟨d5, e5, h5⟩, ⟨d8, e8, h8⟩, ⟨d11, e11, h11⟩, ⟨d14, e14, h14⟩, ⟨d16, e16, h16⟩, ⟨d18, e18, h18⟩, ⟨d20, e20, h20⟩, ⟨d22, e22, h22⟩, ⟨d24, e24, h24⟩, ⟨d25, e25, h25⟩, ⟨d27, e27, h27⟩, ⟨d28, e28, h28⟩, ⟨d30, e30, h30⟩, ⟨d31, e31, h31⟩, e32, e33, e34, e35, e36, e37, e38, ⟨d40, e40, h40⟩, ⟨d42, e42, h42⟩⟩ := hd
            simp only [e0, e1, e2, e5, e8, e11, e14, e16, e18, e20, e22, e24, e25, e27, e28, e30, e31, e32, e33, e34, e35, e36, e37, e38, e40, e42]
            refine build_ds rfl rfl [deLeaf, deLeaf, deShort, d5, d8, d11, d14, d16, d18, d20, d22, d24, d25, d27, d28, d30, d31, deLeaf, deLeaf, deLeaf, deLeaf, deLeaf, (deNum 65536), (deNum 0), d40, d42] rfl rfl ?_
            go_wp2_with fail
            exact ⟨rfl, _, rfl, (Below.refl u.heap.size u).alloc (Nat.le_refl _) _, ds_new u _ [deLeaf, deLeaf, deShort, d5, d8, d11, d14, d16, d18, d20, d22, d24, d25, d27, d28, d30, d31, deLeaf, deLeaf, deLeaf, deLeaf, deLeaf, (deNum 65536), (deNum 0), d40, d42] rfl rfl (fun hal => (all_cons (dv_leaf _) (all_cons (dv_leaf _) (all_cons (dv_short _) (all_cons (h5.later hal) (all_cons (h8.later hal) (all_cons (h11.later hal) (all_cons (h14.later hal) (all_cons (h16.later hal) (all_cons (h18.later hal) (all_cons (h20.later hal) (all_cons (h22.later hal) (all_cons (h24.later hal) (all_cons (h25.later hal) (all_cons (h27.later hal) (all_cons (h28.later hal) (all_cons (h30.later hal) (all_cons (h31.later hal) (all_cons (dv_leaf _) (all_cons (dv_leaf _) (all_cons (dv_leaf _) (all_cons (dv_leaf _) (all_cons (dv_leaf _) (all_cons (dv_num 65536 _ (by decide)) (all_cons (dv_num 0 _ (by decide)) (all_cons (h40.later hal) (all_cons (h42.later hal) (fun _ h => nomatch h))))))))))))))))))))))))))))⟩
          refine OpsOK.step (DsR) Stab_ds ?_ ?_
          · intro vs u hb hd
            simp [Region.binds] at hd
            obtain ⟨⟨b43, l43, e43, h43⟩, ⟨d31, e31, h31⟩, e0, e1, e2, e3, e4, ⟨d5, e5, h5⟩, e6, e7, ⟨d8, e8, h8⟩, e9, e10, ⟨d11, e11, h11⟩, e12, e13, ⟨d14, e14, h14⟩, ⟨b15, e15, h15⟩, ⟨d16, e16, h16⟩, ⟨b17, e17, h17⟩, ⟨d18, e18, h18⟩, ⟨b19, e19, h19⟩, ⟨d20, e20, h20⟩, ⟨b21, e21, h21⟩, ⟨d22, e22, h22⟩, ⟨b23, e23, h23⟩, ⟨d24, e24, h24⟩, ⟨d25, e25, h25⟩, ⟨b26, e26, h26⟩, ⟨d27, e27, h27⟩, ⟨d28, e28, h28⟩, ⟨b29, e29, h29⟩, ⟨d30, e30, h30⟩, ⟨d31, e31, h31⟩, e32, e33, e34, e35, e36, e37, e38, ⟨b39, e39, h39⟩, ⟨d40, e40, h40⟩, ⟨b41, e41, h41⟩, ⟨d42, e42, h42⟩, ⟨b43, l43, e43, h43⟩⟩ := hd
            simp only [e43, e31, e0, e1, e2, e3, e4, e5, e6, e7, e8, e9, e10, e11, e12, e13, e14, e15, e16, e17, e18, e19, e20, e21, e22, e23, e24, e25, e26, e27, e28, e29, e30, e32, e33, e34, e35, e36, e37, e38, e39, e40, e41, e42]
            go_wp2_with fail
            exact ⟨rfl, _, rfl, Below.refl _ _, b43, l43, rfl, h43⟩
          refine OpsOK.done ?_
          intro vs u hbu hS
          have h44 := hS 44 (by decide)
          simp at h44
          obtain ⟨b44, l44, e44, h44⟩ := h44
          simp only [e44]
          clear hS
          obtain ⟨hir, hdo⟩ := h44
          have HIR := Lib.hid hir
          have HDO := Lib.hid hdo
          have HE3 := Lib.hid (HE2.out.below hbu)
          have HB3 := Lib.hid (below_two HB2.out hbu)
          clear hir hdo hbu HE2 HB2 HL HT HK3 HK4 HK5
          go_wp2_with fail
          go_loopw [18] (fun i wr => ∃ k : Nat, k ≤ 3 ∧ i = .int .i64 k ∧ ExB SS wr ∧ Below w.heap.size w wr ∧ IsR deF wr (some ⟨b44, 0, none⟩) 26 l44 ∧ ∀ d ∈ l44, DvOK d wr) (fun i _ => 3 - (intOf i).toNat)
          case atStart => exact ⟨0, by decide, rfl, HE3.out, HB3.out, HIR.out, HDO.out⟩
          case round =>
            obtain ⟨k, hk, rfl, hex, hb, hir, hdo⟩ := hrel
            have HE4 := Lib.hid hex
            have HB4 := Lib.hid hb
            have HI4 := Lib.hid hir
            have HD4 := Lib.hid hdo
            clear hex hb hir hdo HE3 HB3 HIR HDO
            by_cases hlt2 : k < 3
            · have hk2 : (k : Int) < 3 := by omega
              go_wp2_with fail
              refine (plays_any _ _ (some ⟨b44, 0, none⟩) 26 26 l44 _ (deeds_of HI4.out HD4.out) (by decide) (fun d hd => by have := (HD4.out d hd).2; omega)).mono ?_; rintro e w9 ⟨rfl, hb⟩
              have HE5 := Lib.hid (HE4.out.below hb)
              have HB5 := Lib.hid (below_two HB4.out hb)
              have HI5 := Lib.hid (HI4.out.later hb)
              have HD5 := Lib.hid (fun d hd => (HD4.out d hd).later hb)
              clear hb HE4 HB4 HI4 HD4
              go_wp2_with fail
              go_roundw
              case rel => exact ⟨k + 1, by omega, by go_num, HE5.out, HB5.out, HI5.out, HD5.out⟩
              case measure => simp [intOf]; omega
            · have hk3 : ¬ ((k : Int) < 3) := by omega
              clear HI4 HD4
              go_wp2_with fail
              go_roundw
              case rel => exact ⟨n + 1, by omega, by omega, by go_num, HE4.out, HB4.out⟩
              case measure => simp [intOf]; omega
        · have hn3 : ¬ ((n : Int) < 8) := by omega
          go_wp2_with fail
          refine (awake13_any _).mono ?_; rintro e w9 ⟨rfl, hb⟩
          have HB5 := Lib.hid (below_two HB2.out hb)
          clear hb HB2 HE2
          go_wp2_with fail
          go_ret
          exact ⟨rfl, HB5.out⟩
end Go.Proofs.Ytfgkbnnojogjpaa
