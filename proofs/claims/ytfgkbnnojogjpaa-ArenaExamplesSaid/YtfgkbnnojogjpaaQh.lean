/- The arena: Slots and Stats of the program. -/
import Derived.Test.YtfgkbnnojogjpaaQg
namespace Go.Proofs.Ytfgkbnnojogjpaa
open Go.RowKit

/-- what Free and Withdrawn return -/
def FrR (B : Nat) (x : FL) (v : Value) (u : World) : Prop := Rs u B 3 v x.m (fun i => encI (freeF x i))
def WdR (B : Nat) (x : FL) (v : Value) (u : World) : Prop := Rs u B 3 v (slotsTo x 2 x.n).length (fun i => encI ((slotsTo x 2 x.n).getD i 0))
def SlN (n : Nat) (v : Value) (_ : World) : Prop := ∃ ao c, v = .slice ao n c
theorem Stab_fr (B : Nat) (x : FL) : Stab (FrR B x) := fun _ _ _ h hb => h.keep hb (Nat.le_refl _)
theorem Stab_wd (B : Nat) (x : FL) : Stab (WdR B x) := fun _ _ _ h hb => h.keep hb (Nat.le_refl _)
theorem Stab_sln (n : Nat) : Stab (SlN n) := fun _ _ _ h _ => h
theorem res7 {P : Program} {fn : Func} {p : Tmp} {ty : TypeId} (hr : fn.results = #[.cell p ty]) {tmps : Array Value} {W : World} {b : Nat} {x0 x1 x2 x3 x4 x5 x6 : Value} {e : TypeId} {fr : Nat × Nat}
    (hg : (isAgg ty).run P W = .ok true W) (hs : (sizeOf ty).run P W = .ok 7 W) (ht : tmps.getD p undef = .pointer (some ⟨b, 0, none⟩))
    (hb : W.heap[b]? = some (.cells #[x0, x1, x2, x3, x4, x5, x6] e fr)) : (results fn tmps).run P W = .ok (.agg #[x0, x1, x2, x3, x4, x5, x6]) W := by
  have h0 : W.cell? ⟨b, 0, none⟩ = some x0 := block_cell hb 0
  have h1 : W.cell? ⟨b, 1, none⟩ = some x1 := block_cell hb 1
  have h2 : W.cell? ⟨b, 2, none⟩ = some x2 := block_cell hb 2
  have h3 : W.cell? ⟨b, 3, none⟩ = some x3 := block_cell hb 3
  have h4 : W.cell? ⟨b, 4, none⟩ = some x4 := block_cell hb 4
  have h5 : W.cell? ⟨b, 5, none⟩ = some x5 := block_cell hb 5
  have h6 : W.cell? ⟨b, 6, none⟩ = some x6 := block_cell hb 6
  have ht' : tmps[p]?.getD undef = .pointer (some ⟨b, 0, none⟩) := by simpa using ht
  simp only [results, hr]
  simp [ht', hg, hs, h0, h1, h2, h3, h4, h5, h6, go_sem]

set_option maxRecDepth 100000 in
set_option maxHeartbeats 400000 in
theorem slotsA_none (w : World) :
    Calls Try.prog 17 #[.pointer none] w fun e w' => e = .returned (.tuple #[.slice none 0 0, .slice none 0 0]) ∧ w = w' := by
  go_enter Try.func17, Try.ntmps17
  go_wp2_with fail
  go_ret2
  exact ⟨rfl, rfl⟩

set_option maxRecDepth 100000 in
set_option maxHeartbeats 400000 in
theorem slotsA_any (B : PB) (A : AS) (w : World) (ha : IsA w B A) (hf : FInv A.x) :
    Calls Try.prog 17 #[.pointer (some ⟨B.p, 0, none⟩)] w fun e w' => ∃ v1 v2, e = .returned (.tuple #[v1, v2]) ∧ FrR w.heap.size A.x v1 w' ∧ WdR w.heap.size A.x v2 w' ∧ Below w.heap.size w w' := by
  have HP := Lib.hid ha.1
  have HL := Lib.hid ha.2.1
  have HI := Lib.hid hf
  have hmn : A.x.m ≤ 16384 := Nat.le_trans hf.mn hf.n2
  clear ha hf
  go_enter Try.func17, Try.ntmps17
  go_wp2_with fail
  refine wp_region_specs (by kernel_rfl) (by decide) (by kernel_rfl) ?_
  simp only [fill, Act.put, List.setIfInBounds_toArray, List.set_cons_zero, List.set_cons_succ, Nat.zero_add, Nat.reduceAdd]
  apply OpsOK.eq
  · intro vs u hb hd
    clear hd
    go_wp2_with fail
    exact ⟨rfl, _, rfl, Below.refl _ _, rfl⟩
  apply OpsOK.eq
  · intro vs u hb hd
    simp [Region.binds] at hd
    have e0 := hd
    clear hd
    simp only [e0]
    go_wp2_with fail
    exact ⟨rfl, _, rfl, Below.refl _ _, rfl⟩
  apply OpsOK.eq
  · intro vs u hb hd
    simp [Region.binds] at hd
    have e1 := hd
    clear hd
    simp only [e1]
    go_wp2_with fail
    exact ⟨rfl, _, rfl, Below.refl _ _, rfl⟩
  apply OpsOK.eq
  · intro vs u hb hd
    simp [Region.binds] at hd
    have e2 := hd
    clear hd
    simp only [e2]
    have q := block_below hb HP.out (block_lt HP.out)
    have p0 := block_cell q 0
    have p1 := block_cell q 1
    have p2 := block_cell q 2
    have p3 := block_cell q 3
    have p4 := block_cell q 4
    have p5 := block_cell q 5
    simp at p0 p1 p2 p3 p4 p5
    clear q
    go_wp2_with fail
    exact ⟨rfl, _, rfl, Below.refl _ _, rfl⟩
  refine OpsOK.step (FrR w.heap.size A.x) (Stab_fr _ _) ?_ ?_
  · intro vs u hb hd
    simp [Region.binds] at hd
    have e3 := hd
    clear hd
    simp only [e3]
    go_wp2_with fail
    refine (free_any B.lb A.x u (HL.out.below hb (Nat.le_refl _)) hmn).mono ?_; rintro e w1 ⟨v, rfl, hr, hbel⟩; go_wp2_with fail; exact ⟨rfl, _, rfl, hbel, hr.low (hb.size)⟩
  apply OpsOK.eq
  · intro vs u hb hd
    clear hd
    go_wp2_with fail
    exact ⟨rfl, _, rfl, Below.refl _ _, rfl⟩
  apply OpsOK.eq
  · intro vs u hb hd
    simp [Region.binds] at hd
    have e5 := hd
    clear hd
    simp only [e5]
    go_wp2_with fail
    exact ⟨rfl, _, rfl, Below.refl _ _, rfl⟩
  apply OpsOK.eq
  · intro vs u hb hd
    simp [Region.binds] at hd
    have e6 := hd
    clear hd
    simp only [e6]
    go_wp2_with fail
    exact ⟨rfl, _, rfl, Below.refl _ _, rfl⟩
  apply OpsOK.eq
  · intro vs u hb hd
    simp [Region.binds] at hd
    have e7 := hd
    clear hd
    simp only [e7]
    have q := block_below hb HP.out (block_lt HP.out)
    have p0 := block_cell q 0
    have p1 := block_cell q 1
    have p2 := block_cell q 2
    have p3 := block_cell q 3
    have p4 := block_cell q 4
    have p5 := block_cell q 5
    simp at p0 p1 p2 p3 p4 p5
    clear q
    go_wp2_with fail
    exact ⟨rfl, _, rfl, Below.refl _ _, rfl⟩
  refine OpsOK.step (WdR w.heap.size A.x) (Stab_wd _ _) ?_ ?_
  · intro vs u hb hd
    simp [Region.binds] at hd
    obtain ⟨e8, h4⟩ := hd
    simp only [e8]
    go_wp2_with fail
    refine (withdrawn_any B.lb A.x u (HL.out.below hb (Nat.le_refl _)) HI.out.n2).mono ?_; rintro e w1 hh; obtain ⟨v, rfl, hr, hbel⟩ := hh.rs; clear hh; go_wp2_with fail; exact ⟨rfl, _, rfl, hbel, hr.low (hb.size)⟩
  refine OpsOK.step (FrR w.heap.size A.x) (Stab_fr _ _) ?_ ?_
  · intro vs u hb hd
    simp [Region.binds] at hd
    obtain ⟨h4, h9, e0, e1, e2, e3, h4⟩ := hd
    simp only [e0, e1, e2, e3]
    go_wp2_with fail
    exact ⟨rfl, _, rfl, Below.refl _ _, h4⟩
  refine OpsOK.step (WdR w.heap.size A.x) (Stab_wd _ _) ?_ ?_
  · intro vs u hb hd
    simp [Region.binds] at hd
    obtain ⟨h9, h10, e0, e1, e2, e3, h4, e5, e6, e7, e8, h9, h10⟩ := hd
    simp only [e0, e1, e2, e3, e5, e6, e7, e8]
    go_wp2_with fail
    exact ⟨rfl, _, rfl, Below.refl _ _, h9⟩
  refine OpsOK.done ?_
  intro vs u hbu hS
  have h10 := hS 10 (by decide)
  simp at h10
  obtain h10 := h10
  have h11 := hS 11 (by decide)
  simp at h11
  obtain h11 := h11
  clear hS
  have H10 := Lib.hid h10
  have H11 := Lib.hid h11
  have HBU := Lib.hid hbu
  clear h10 h11 hbu
  generalize vs 10 = v10 at *
  generalize vs 11 = v11 at *
  go_wp2_with fail
  go_ret2
  exact ⟨_, _, rfl, H10.out, H11.out, HBU.out⟩

/-- the counts of an arena -/
def stats (A : AS) : Value := .agg #[.int .i64 A.x.n, .int .i64 A.x.m, .int .i64 A.it.length, .int .i64 (slotsTo A.x 2 A.x.n).length, .int .i64 A.al, .int .i64 A.fr, .int .i64 A.st]
def stats0 : Value := .agg #[.int .i64 0, .int .i64 0, .int .i64 0, .int .i64 0, .int .i64 0, .int .i64 0, .int .i64 0]
set_option maxRecDepth 100000 in
set_option maxHeartbeats 400000 in
theorem statsA_none (w : World) :
    Calls Try.prog 14 #[.pointer none] w fun e w' => e = .returned stats0 ∧ Below w.heap.size w w' := by
  have HB := Lib.hid (Below.refl w.heap.size w)
  go_enter Try.func14, Try.ntmps14
  go_wp2_with fail
  have hb0 := block_new w (.cells #[.int .i64 0, .int .i64 0, .int .i64 0, .int .i64 0, .int .i64 0, .int .i64 0, .int .i64 0] 38)
  have hbl := HB.out.alloc (Nat.le_refl _) (.cells #[.int .i64 0, .int .i64 0, .int .i64 0, .int .i64 0, .int .i64 0, .int .i64 0, .int .i64 0] 38)
  exact bodyPost_ret (res7 Try.results14 (Try.isAgg38 _) (Try.sizeOf38 _) rfl hb0) rfl ⟨rfl, hbl⟩

set_option maxRecDepth 100000 in
set_option maxHeartbeats 400000 in
theorem statsA_any (B : PB) (A : AS) (w : World) (ha : IsA w B A) (hf : FInv A.x) :
    Calls Try.prog 14 #[.pointer (some ⟨B.p, 0, none⟩)] w fun e w' => e = .returned (stats A) ∧ Below w.heap.size w w' := by
  have HI := Lib.hid hf
  have hmn : A.x.m ≤ 16384 := Nat.le_trans hf.mn hf.n2
  have hal := (Below.refl w.heap.size w).alloc (Nat.le_refl _) (.cells #[.int .i64 0, .int .i64 0, .int .i64 0, .int .i64 0, .int .i64 0, .int .i64 0, .int .i64 0] 38)
  have HBW := Lib.hid hal
  have ha1 := ha.below hal
  have HP1 := Lib.hid ha1.1
  have HL1 := Lib.hid ha1.2.1
  obtain ⟨es, clock, hm, hents⟩ := ha1.2.2
  have HM1 := Lib.hid hm
  have HSZ := Lib.hid (show es.size = A.it.length from hents.1)
  clear ha hf ha1 hal hm hents
  go_enter Try.func14, Try.ntmps14
  go_wp2_with fail
  refine wp_region_plan [.make, .make, .make, .make, .make, .make, .make, .make, .make, .make, .make, .make, .make, .make, .make, .make, .make, .make, .make, .make, .make, .make, .make, .make, .make, .make, .make, .make, .make, .make, .make, .make, .make, .make, .write 0] [0, 1, 2, 3, 4, 5, 6, 7, 8, 9, 10, 11, 12, 13, 14, 15, 16, 17, 18, 19, 20, 21, 22, 23, 24, 25, 26, 27, 28, 29, 30, 31, 32, 33] 1 (fun _ _ u => u.heap[w.heap.size]? = some (.cells #[.int .i64 A.x.n, .int .i64 A.x.m, .int .i64 A.it.length, .int .i64 (slotsTo A.x 2 A.x.n).length, .int .i64 A.al, .int .i64 A.fr, .int .i64 A.st] 38 (0, 0)) ∧ Below w.heap.size w u) (by kernel_rfl) (by decide) (by kernel_rfl) (by kernel_rfl) (by kernel_rfl) (by kernel_rfl) (fun p vs vs' u h hE => hE) ?_
  simp only [fill, Act.put, List.setIfInBounds_toArray, List.set_cons_zero, List.set_cons_succ, Nat.zero_add, Nat.reduceAdd, List.zip_cons_cons, List.zip_nil_right]
  apply OpsIs.eq
  · intro vs u hb hd
    clear hd
    go_wp2_with fail
    exact ⟨rfl, _, rfl, Below.refl _ _, rfl⟩
  apply OpsIs.eq
  · intro vs u hb hd
    have e0 := hd ⟨0, .data⟩ (by simp) (by decide)
    simp at e0
    clear hd
    simp only [e0]
    go_wp2_with fail
    exact ⟨rfl, _, rfl, Below.refl _ _, rfl⟩
  apply OpsIs.eq
  · intro vs u hb hd
    have e1 := hd ⟨1, .data⟩ (by simp) (by decide)
    simp at e1
    clear hd
    simp only [e1]
    go_wp2_with fail
    exact ⟨rfl, _, rfl, Below.refl _ _, rfl⟩
  apply OpsIs.eq
  · intro vs u hb hd
    have e2 := hd ⟨2, .data⟩ (by simp) (by decide)
    simp at e2
    clear hd
    simp only [e2]
    have q := block_below hb HP1.out (block_lt HP1.out)
    have p0 := block_cell q 0
    have p1 := block_cell q 1
    have p2 := block_cell q 2
    have p3 := block_cell q 3
    have p4 := block_cell q 4
    have p5 := block_cell q 5
    simp at p0 p1 p2 p3 p4 p5
    clear q
    go_wp2_with fail
    exact ⟨rfl, _, rfl, Below.refl _ _, rfl⟩
  apply OpsIs.eq
  · intro vs u hb hd
    clear hd
    go_wp2_with fail
    exact ⟨rfl, _, rfl, Below.refl _ _, rfl⟩
  apply OpsIs.eq
  · intro vs u hb hd
    have e4 := hd ⟨4, .data⟩ (by simp) (by decide)
    simp at e4
    clear hd
    simp only [e4]
    go_wp2_with fail
    exact ⟨rfl, _, rfl, Below.refl _ _, rfl⟩
  apply OpsIs.eq
  · intro vs u hb hd
    have e5 := hd ⟨5, .data⟩ (by simp) (by decide)
    simp at e5
    clear hd
    simp only [e5]
    go_wp2_with fail
    exact ⟨rfl, _, rfl, Below.refl _ _, rfl⟩
  apply OpsIs.eq
  · intro vs u hb hd
    have e6 := hd ⟨6, .data⟩ (by simp) (by decide)
    simp at e6
    clear hd
    simp only [e6]
    have q := block_below hb HP1.out (block_lt HP1.out)
    have p0 := block_cell q 0
    have p1 := block_cell q 1
    have p2 := block_cell q 2
    have p3 := block_cell q 3
    have p4 := block_cell q 4
    have p5 := block_cell q 5
    simp at p0 p1 p2 p3 p4 p5
    clear q
    go_wp2_with fail
    exact ⟨rfl, _, rfl, Below.refl _ _, rfl⟩
  refine OpsIs.step (SlN A.x.m) (Stab_sln _) ?_ ?_
  · intro vs u hb hd
    have e7 := hd ⟨7, .data⟩ (by simp) (by decide)
    simp at e7
    clear hd
    simp only [e7]
    go_wp2_with fail
    refine (free_any B.lb A.x u (HL1.out.below hb (Nat.le_refl _)) hmn).mono ?_; rintro e w1 ⟨v, rfl, ⟨ao, c, rfl, -⟩, hbel⟩; go_wp2_with fail; exact ⟨rfl, _, rfl, hbel, _, _, rfl⟩
  apply OpsIs.eq
  · intro vs u hb hd
    obtain ⟨a8, c8, e8⟩ := hd ⟨8, .data⟩ (by simp) (by decide)
    clear hd
    simp only [e8]
    go_wp2_with fail
    exact ⟨rfl, _, rfl, Below.refl _ _, rfl⟩
  apply OpsIs.eq
  · intro vs u hb hd
    clear hd
    go_wp2_with fail
    exact ⟨rfl, _, rfl, Below.refl _ _, rfl⟩
  apply OpsIs.eq
  · intro vs u hb hd
    have e10 := hd ⟨10, .data⟩ (by simp) (by decide)
    simp at e10
    clear hd
    simp only [e10]
    go_wp2_with fail
    exact ⟨rfl, _, rfl, Below.refl _ _, rfl⟩
  apply OpsIs.eq
  · intro vs u hb hd
    have e11 := hd ⟨11, .data⟩ (by simp) (by decide)
    simp at e11
    clear hd
    simp only [e11]
    go_wp2_with fail
    exact ⟨rfl, _, rfl, Below.refl _ _, rfl⟩
  apply OpsIs.eq
  · intro vs u hb hd
    have e12 := hd ⟨12, .data⟩ (by simp) (by decide)
    simp at e12
    clear hd
    simp only [e12]
    have q := block_below hb HP1.out (block_lt HP1.out)
    have p0 := block_cell q 0
    have p1 := block_cell q 1
    have p2 := block_cell q 2
    have p3 := block_cell q 3
    have p4 := block_cell q 4
    have p5 := block_cell q 5
    simp at p0 p1 p2 p3 p4 p5
    clear q
    go_wp2_with fail
    exact ⟨rfl, _, rfl, Below.refl _ _, rfl⟩
  apply OpsIs.eq
  · intro vs u hb hd
    have e13 := hd ⟨13, .data⟩ (by simp) (by decide)
    simp at e13
    obtain ⟨a8, c8, e8⟩ := hd ⟨8, .chain⟩ (by simp) (by decide)
    clear hd
    simp only [e13, e8]
    have hm := block_below hb HM1.out (block_lt HM1.out)
    have hlen := fun ty => len_map ty u hm
    rw [HSZ.out] at hlen
    go_wp2_with fail
    exact ⟨rfl, _, rfl, Below.refl _ _, rfl⟩
  apply OpsIs.eq
  · intro vs u hb hd
    clear hd
    go_wp2_with fail
    exact ⟨rfl, _, rfl, Below.refl _ _, rfl⟩
  apply OpsIs.eq
  · intro vs u hb hd
    have e15 := hd ⟨15, .data⟩ (by simp) (by decide)
    simp at e15
    clear hd
    simp only [e15]
    go_wp2_with fail
    exact ⟨rfl, _, rfl, Below.refl _ _, rfl⟩
  apply OpsIs.eq
  · intro vs u hb hd
    have e16 := hd ⟨16, .data⟩ (by simp) (by decide)
    simp at e16
    clear hd
    simp only [e16]
    go_wp2_with fail
    exact ⟨rfl, _, rfl, Below.refl _ _, rfl⟩
  apply OpsIs.eq
  · intro vs u hb hd
    have e17 := hd ⟨17, .data⟩ (by simp) (by decide)
    simp at e17
    clear hd
    simp only [e17]
    have q := block_below hb HP1.out (block_lt HP1.out)
    have p0 := block_cell q 0
    have p1 := block_cell q 1
    have p2 := block_cell q 2
    have p3 := block_cell q 3
    have p4 := block_cell q 4
    have p5 := block_cell q 5
    simp at p0 p1 p2 p3 p4 p5
    clear q
    go_wp2_with fail
    exact ⟨rfl, _, rfl, Below.refl _ _, rfl⟩
  refine OpsIs.step (SlN (slotsTo A.x 2 A.x.n).length) (Stab_sln _) ?_ ?_
  · intro vs u hb hd
    have e18 := hd ⟨18, .data⟩ (by simp) (by decide)
    simp at e18
    have e14 := hd ⟨14, .chain⟩ (by simp) (by decide)
    simp at e14
    clear hd
    simp only [e18, e14]
    go_wp2_with fail
    refine (withdrawn_any B.lb A.x u (HL1.out.below hb (Nat.le_refl _)) HI.out.n2).mono ?_; rintro e w1 hh; obtain ⟨v, rfl, ⟨ao, c, rfl, -⟩, hbel⟩ := hh.rs; clear hh; go_wp2_with fail; exact ⟨rfl, _, rfl, hbel, _, _, rfl⟩
  apply OpsIs.eq
  · intro vs u hb hd
    obtain ⟨a19, c19, e19⟩ := hd ⟨19, .data⟩ (by simp) (by decide)
    clear hd
    simp only [e19]
    go_wp2_with fail
    exact ⟨rfl, _, rfl, Below.refl _ _, rfl⟩
  apply OpsIs.eq
  · intro vs u hb hd
    clear hd
    go_wp2_with fail
    exact ⟨rfl, _, rfl, Below.refl _ _, rfl⟩
  apply OpsIs.eq
  · intro vs u hb hd
    have e21 := hd ⟨21, .data⟩ (by simp) (by decide)
    simp at e21
    clear hd
    simp only [e21]
    go_wp2_with fail
    exact ⟨rfl, _, rfl, Below.refl _ _, rfl⟩
  apply OpsIs.eq
  · intro vs u hb hd
    have e22 := hd ⟨22, .data⟩ (by simp) (by decide)
    simp at e22
    clear hd
    simp only [e22]
    go_wp2_with fail
    exact ⟨rfl, _, rfl, Below.refl _ _, rfl⟩
  apply OpsIs.eq
  · intro vs u hb hd
    have e23 := hd ⟨23, .data⟩ (by simp) (by decide)
    simp at e23
    clear hd
    simp only [e23]
    have q := block_below hb HP1.out (block_lt HP1.out)
    have p0 := block_cell q 0
    have p1 := block_cell q 1
    have p2 := block_cell q 2
    have p3 := block_cell q 3
    have p4 := block_cell q 4
    have p5 := block_cell q 5
    simp at p0 p1 p2 p3 p4 p5
    clear q
    go_wp2_with fail
    exact ⟨rfl, _, rfl, Below.refl _ _, rfl⟩
  apply OpsIs.eq
  · intro vs u hb hd
    clear hd
    go_wp2_with fail
    exact ⟨rfl, _, rfl, Below.refl _ _, rfl⟩
  apply OpsIs.eq
  · intro vs u hb hd
    have e25 := hd ⟨25, .data⟩ (by simp) (by decide)
    simp at e25
    clear hd
    simp only [e25]
    go_wp2_with fail
    exact ⟨rfl, _, rfl, Below.refl _ _, rfl⟩
  apply OpsIs.eq
  · intro vs u hb hd
    have e26 := hd ⟨26, .data⟩ (by simp) (by decide)
    simp at e26
    clear hd
    simp only [e26]
    go_wp2_with fail
    exact ⟨rfl, _, rfl, Below.refl _ _, rfl⟩
  apply OpsIs.eq
  · intro vs u hb hd
    have e27 := hd ⟨27, .data⟩ (by simp) (by decide)
    simp at e27
    clear hd
    simp only [e27]
    have q := block_below hb HP1.out (block_lt HP1.out)
    have p0 := block_cell q 0
    have p1 := block_cell q 1
    have p2 := block_cell q 2
    have p3 := block_cell q 3
    have p4 := block_cell q 4
    have p5 := block_cell q 5
    simp at p0 p1 p2 p3 p4 p5
    clear q
    go_wp2_with fail
    exact ⟨rfl, _, rfl, Below.refl _ _, rfl⟩
  apply OpsIs.eq
  · intro vs u hb hd
    clear hd
    go_wp2_with fail
    exact ⟨rfl, _, rfl, Below.refl _ _, rfl⟩
  apply OpsIs.eq
  · intro vs u hb hd
    have e29 := hd ⟨29, .data⟩ (by simp) (by decide)
    simp at e29
    clear hd
    simp only [e29]
    go_wp2_with fail
    exact ⟨rfl, _, rfl, Below.refl _ _, rfl⟩
  apply OpsIs.eq
  · intro vs u hb hd
    have e30 := hd ⟨30, .data⟩ (by simp) (by decide)
    simp at e30
    clear hd
    simp only [e30]
    go_wp2_with fail
    exact ⟨rfl, _, rfl, Below.refl _ _, rfl⟩
  apply OpsIs.eq
  · intro vs u hb hd
    have e31 := hd ⟨31, .data⟩ (by simp) (by decide)
    simp at e31
    clear hd
    simp only [e31]
    have q := block_below hb HP1.out (block_lt HP1.out)
    have p0 := block_cell q 0
    have p1 := block_cell q 1
    have p2 := block_cell q 2
    have p3 := block_cell q 3
    have p4 := block_cell q 4
    have p5 := block_cell q 5
    simp at p0 p1 p2 p3 p4 p5
    clear q
    go_wp2_with fail
    exact ⟨rfl, _, rfl, Below.refl _ _, rfl⟩
  apply OpsIs.eq
  · intro vs u hb hd
    have e3 := hd ⟨3, .data⟩ (by simp) (by decide)
    simp at e3
    have e9 := hd ⟨9, .data⟩ (by simp) (by decide)
    simp at e9
    have e14 := hd ⟨14, .data⟩ (by simp) (by decide)
    simp at e14
    have e20 := hd ⟨20, .data⟩ (by simp) (by decide)
    simp at e20
    have e24 := hd ⟨24, .data⟩ (by simp) (by decide)
    simp at e24
    have e28 := hd ⟨28, .data⟩ (by simp) (by decide)
    simp at e28
    have e32 := hd ⟨32, .data⟩ (by simp) (by decide)
    simp at e32
    clear hd
    simp only [e3, e9, e14, e20, e24, e28, e32]
    go_wp2_with fail
    exact ⟨rfl, _, rfl, Below.refl _ _, rfl⟩
  refine OpsIs.first ?_ ?_
  · intro vs u hb hdis hd
    have e33 := hd 33 (by simp)
    simp at e33
    clear hd
    simp only [e33]
    have hz := block_below hb (block_new w (.cells #[.int .i64 0, .int .i64 0, .int .i64 0, .int .i64 0, .int .i64 0, .int .i64 0, .int .i64 0] 38)) (by simp)
    have p0 := block_cell hz 0
    have p1 := block_cell hz 1
    have p2 := block_cell hz 2
    have p3 := block_cell hz 3
    have p4 := block_cell hz 4
    have p5 := block_cell hz 5
    have p6 := block_cell hz 6
    have f0 := block_free hz 0
    have f1 := block_free hz 1
    have f2 := block_free hz 2
    have f3 := block_free hz 3
    have f4 := block_free hz 4
    have f5 := block_free hz 5
    have f6 := block_free hz 6
    simp at p0 p1 p2 p3 p4 p5 p6
    have hlt := block_lt hz
    go_wp2_with fail
    exact ⟨rfl, undef, rfl, block_setCell (block_setCell (block_setCell (block_setCell (block_setCell (block_setCell (block_setCell hz 0 _) 1 _) 2 _) 3 _) 4 _) 5 _) 6 _, (((((((HBW.out.trans (hb.mono HBW.out.size)).setCell (Nat.le_refl _) _).setCell (Nat.le_refl _) _).setCell (Nat.le_refl _) _).setCell (Nat.le_refl _) _).setCell (Nat.le_refl _) _).setCell (Nat.le_refl _) _).setCell (Nat.le_refl _) _⟩
  refine OpsIs.done ?_
  intro vs u hE hS
  clear hS
  obtain ⟨hz, hbe⟩ := hE
  have HZ := Lib.hid hz
  have HBE := Lib.hid hbe
  clear hz hbe
  go_wp2_with fail
  exact bodyPost_ret (res7 Try.results14 (Try.isAgg38 _) (Try.sizeOf38 _) rfl HZ.out) rfl ⟨rfl, HBE.out⟩
end Go.Proofs.Ytfgkbnnojogjpaa
