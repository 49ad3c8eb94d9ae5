/- The walk of the law MeasureAdds. -/
import Derived.Test.YtalkafjccpijiaaMeasL
import Derived.Test.YtalkafjccpijiaaMeasI
import Derived.Test.YtalkafjccpijiaaRegB
namespace Go.Proofs.Ytalkafjccpijiaa
open Go.RowKit

/-- the measure of a string -/
def ofT (s : ByteArray) : Trip := ((s.size : Int), ((cnt isB s : Nat) : Int), ((cnt isF s : Nat) : Int))

/-- a slice that reads as the measures l -/
def SlMs (n : Nat) (l : List Trip) (v : Value) (w : World) : Prop := ∃ ao c, v = .slice ao n c ∧ IsMs w ao n l
theorem Stab_ms (n : Nat) (l : List Trip) : Stab (SlMs n l) := by
  rintro v w w' ⟨ao, c, hv, h⟩ hb
  exact ⟨ao, c, hv, h.later hb⟩

/-- a pointer to a block of its own, known whole -/
def PtrTo (B : Nat) (o : Obj) (v : Value) (w : World) : Prop := ∃ b, v = .pointer (some ⟨b, 0, none⟩) ∧ B ≤ b ∧ w.heap[b]? = some o
theorem Stab_ptr (B : Nat) (o : Obj) : Stab (PtrTo B o) := by
  rintro v w w' ⟨b, hv, hge, h⟩ hb
  exact ⟨b, hv, hge, block_below hb h (block_lt h)⟩

theorem ms_lit2 (u : World) (x y : Trip) : IsMs (u.alloc (.cells #[.int .i64 x.1, .int .i64 x.2.1, .int .i64 x.2.2, .int .i64 y.1, .int .i64 y.2.1, .int .i64 y.2.2] 23)) (some ⟨u.heap.size, 0, none⟩) 2 [x, y] := by
  refine ⟨rfl, fun _ => ⟨_, _, rfl, fun k hk => ?_⟩⟩
  have hb := block_new u (.cells #[.int .i64 x.1, .int .i64 x.2.1, .int .i64 x.2.2, .int .i64 y.1, .int .i64 y.2.1, .int .i64 y.2.2] 23)
  simp at hk
  rcases (show k = 0 ∨ k = 1 by omega) with rfl | rfl <;> refine ⟨?_, ?_, ?_⟩ <;> rw [block_cell hb] <;> rfl
theorem ms_block2 {u : World} {b : Nat} {e : TypeId} {fr : Nat × Nat} (x y : Trip) (hb : u.heap[b]? = some (.cells #[.int .i64 x.1, .int .i64 x.2.1, .int .i64 x.2.2, .int .i64 y.1, .int .i64 y.2.1, .int .i64 y.2.2] e fr)) : IsMs u (some ⟨b, 0, none⟩) 2 [x, y] := by
  refine ⟨rfl, fun _ => ⟨_, _, rfl, fun k hk => ?_⟩⟩
  simp at hk
  rcases (show k = 0 ∨ k = 1 by omega) with rfl | rfl <;> refine ⟨?_, ?_, ?_⟩ <;> rw [block_cell hb] <;> rfl
theorem ms_lit3 (u : World) (x y z : Trip) : IsMs (u.alloc (.cells #[.int .i64 x.1, .int .i64 x.2.1, .int .i64 x.2.2, .int .i64 y.1, .int .i64 y.2.1, .int .i64 y.2.2, .int .i64 z.1, .int .i64 z.2.1, .int .i64 z.2.2] 23)) (some ⟨u.heap.size, 0, none⟩) 3 [x, y, z] := by
  refine ⟨rfl, fun _ => ⟨_, _, rfl, fun k hk => ?_⟩⟩
  have hb := block_new u (.cells #[.int .i64 x.1, .int .i64 x.2.1, .int .i64 x.2.2, .int .i64 y.1, .int .i64 y.2.1, .int .i64 y.2.2, .int .i64 z.1, .int .i64 z.2.1, .int .i64 z.2.2] 23)
  simp at hk
  rcases (show k = 0 ∨ k = 1 ∨ k = 2 by omega) with rfl | rfl | rfl <;> refine ⟨?_, ?_, ?_⟩ <;> rw [block_cell hb] <;> rfl

set_option maxRecDepth 100000 in
set_option maxHeartbeats 1600000 in
theorem walk_adds_core (a b c : ByteArray) (X Y Z U V T : Trip) (w : World) (hs1 : a.size + b.size ≤ 9223372036854775807) (hs2 : (a ++ b).size + c.size ≤ 9223372036854775807)
    (ca : ∀ w, Calls Try.prog 11 #[.string a] w fun e w' => e = .returned (aggM X) ∧ Below w.heap.size w w')
    (cb : ∀ w, Calls Try.prog 11 #[.string b] w fun e w' => e = .returned (aggM Y) ∧ Below w.heap.size w w')
    (cc : ∀ w, Calls Try.prog 11 #[.string c] w fun e w' => e = .returned (aggM Z) ∧ Below w.heap.size w w')
    (cof : ∀ w, Calls Try.prog 11 #[.string (a ++ b ++ c)] w fun e w' => e = .returned (aggM T) ∧ Below w.heap.size w w')
    (ce : ∀ w, Calls Try.prog 11 #[.string ⟨#[]⟩] w fun e w' => e = .returned (aggM (0, 0, 0)) ∧ Below w.heap.size w w')
    (cn : ∀ w, Calls Try.prog 22 #[.slice none 0 0] w fun e w' => e = .returned (aggM (0, 0, 0)) ∧ Below w.heap.size w w')
    (ca1 : ∀ ao cp w, IsMs w ao 3 [X, Y, Z] → Calls Try.prog 22 #[.slice ao 3 cp] w fun e w' => e = .returned (aggM T) ∧ Below w.heap.size w w')
    (ca2 : ∀ ao cp w, IsMs w ao 2 [X, Y] → Calls Try.prog 22 #[.slice ao 2 cp] w fun e w' => e = .returned (aggM U) ∧ Below w.heap.size w w')
    (ca3 : ∀ ao cp w, IsMs w ao 2 [U, Z] → Calls Try.prog 22 #[.slice ao 2 cp] w fun e w' => e = .returned (aggM T) ∧ Below w.heap.size w w')
    (ca4 : ∀ ao cp w, IsMs w ao 2 [Y, Z] → Calls Try.prog 22 #[.slice ao 2 cp] w fun e w' => e = .returned (aggM V) ∧ Below w.heap.size w w')
    (ca5 : ∀ ao cp w, IsMs w ao 2 [X, V] → Calls Try.prog 22 #[.slice ao 2 cp] w fun e w' => e = .returned (aggM T) ∧ Below w.heap.size w w')
    (csub : ∀ w, Calls Try.prog 24 #[aggM U, aggM Y] w fun e w' => e = .returned (.tuple #[aggM X, .int .i64 0]) ∧ Below w.heap.size w w') :
    Calls Try.prog 10 #[.string a, .string b, .string c] w fun e w' => e = .returned (.bool true) ∧ Below w.heap.size w w' := by
  unfold aggM at *
  have hadd := fun w => run_string_add_sum (P := Try.prog) w a b hs1
  have hadd2 := fun w => run_string_add_sum (P := Try.prog) w (a ++ b) c hs2
  have CA := Lib.hid ca
  have CB := Lib.hid cb
  have CC := Lib.hid cc
  have COF := Lib.hid cof
  have CE := Lib.hid ce
  have CN := Lib.hid cn
  have CA1 := Lib.hid ca1
  have CA2 := Lib.hid ca2
  have CA3 := Lib.hid ca3
  have CA4 := Lib.hid ca4
  have CA5 := Lib.hid ca5
  have CSUB := Lib.hid csub
  clear ca cb cc cof ce cn ca1 ca2 ca3 ca4 ca5 csub
  go_enter Try.func10, Try.ntmps10
  go_wp2_with fail
  refine (CA.out _).mono ?_; rintro e w1 ⟨rfl, hb1⟩
  go_wp2_with fail
  refine (CB.out _).mono ?_; rintro e w2 ⟨rfl, hb2⟩
  go_wp2_with fail
  refine (CC.out _).mono ?_; rintro e w3 ⟨rfl, hb3⟩
  have hb03 : Below w.heap.size w w3 := below_step (below_step hb1 hb2) hb3
  clear hb1 hb2 hb3
  go_wp2_with fail
  have HX := Lib.hid (block_alloc (block_alloc (block_new w3 (.cells #[.int .i64 X.1, .int .i64 X.2.1, .int .i64 X.2.2] 23)) (.cells #[.int .i64 Y.1, .int .i64 Y.2.1, .int .i64 Y.2.2] 23)) (.cells #[.int .i64 Z.1, .int .i64 Z.2.1, .int .i64 Z.2.2] 23))
  have HY := Lib.hid (block_alloc (block_new' (w3.alloc (.cells #[.int .i64 X.1, .int .i64 X.2.1, .int .i64 X.2.2] 23)) (.cells #[.int .i64 Y.1, .int .i64 Y.2.1, .int .i64 Y.2.2] 23) (w3.heap.size + 1) (by simp)) (.cells #[.int .i64 Z.1, .int .i64 Z.2.1, .int .i64 Z.2.2] 23))
  have HZ := Lib.hid (block_new' ((w3.alloc (.cells #[.int .i64 X.1, .int .i64 X.2.1, .int .i64 X.2.2] 23)).alloc (.cells #[.int .i64 Y.1, .int .i64 Y.2.1, .int .i64 Y.2.2] 23)) (.cells #[.int .i64 Z.1, .int .i64 Z.2.1, .int .i64 Z.2.2] 23) (w3.heap.size + 1 + 1) (by simp))
  refine wp_region_specs (by kernel_rfl) (by decide) (by kernel_rfl) ?_
  simp only [fill, Act.put, List.setIfInBounds_toArray, List.set_cons_zero, List.set_cons_succ, Nat.zero_add, Nat.reduceAdd]
  apply OpsOK.eq
  · intro vs u hb hd
    clear hd
    go_wp2_with fail
    exact ⟨rfl, _, rfl, Below.refl _ _, rfl⟩
  apply OpsOK.eq
  · intro vs u hb hd
    clear hd
    go_wp2_with fail
    exact ⟨rfl, _, rfl, Below.refl _ _, rfl⟩
  apply OpsOK.eq
  · intro vs u hb hd
    simp [Region.binds] at hd
    obtain ⟨e0, e1⟩ := hd
    simp only [e0, e1]
    go_wp2_with fail
    exact ⟨rfl, _, rfl, Below.refl _ _, rfl⟩
  apply OpsOK.eq
  · intro vs u hb hd
    clear hd
    go_wp2_with fail
    exact ⟨rfl, _, rfl, Below.refl _ _, rfl⟩
  apply OpsOK.eq
  · intro vs u hb hd
    simp [Region.binds] at hd
    obtain ⟨e2, e3⟩ := hd
    simp only [e2, e3]
    go_wp2_with fail
    exact ⟨rfl, _, rfl, Below.refl _ _, rfl⟩
  apply OpsOK.eq
  · intro vs u hb hd
    simp [Region.binds] at hd
    have e4 := hd
    clear hd
    simp only [e4]
    go_wp2_with fail
    refine (COF.out _).mono ?_; rintro e w' ⟨rfl, hbel⟩; go_wp2_with fail; exact ⟨rfl, _, rfl, hbel, rfl⟩
  apply OpsOK.eq
  · intro vs u hb hd
    clear hd
    have q := block_below hb HX.out (block_lt HX.out)
    have p0 := block_cell q 0
    have p1 := block_cell q 1
    have p2 := block_cell q 2
    simp at p0 p1 p2
    clear q
    go_wp2_with fail
    exact ⟨rfl, _, rfl, Below.refl _ _, rfl⟩
  apply OpsOK.eq
  · intro vs u hb hd
    clear hd
    have q := block_below hb HY.out (block_lt HY.out)
    have p0 := block_cell q 0
    have p1 := block_cell q 1
    have p2 := block_cell q 2
    simp at p0 p1 p2
    clear q
    go_wp2_with fail
    exact ⟨rfl, _, rfl, Below.refl _ _, rfl⟩
  apply OpsOK.eq
  · intro vs u hb hd
    clear hd
    have q := block_below hb HZ.out (block_lt HZ.out)
    have p0 := block_cell q 0
    have p1 := block_cell q 1
    have p2 := block_cell q 2
    simp at p0 p1 p2
    clear q
    go_wp2_with fail
    exact ⟨rfl, _, rfl, Below.refl _ _, rfl⟩
  refine OpsOK.step (SlMs 3 [X, Y, Z]) (Stab_ms 3 [X, Y, Z]) ?_ ?_
  · intro vs u hb hd
    simp [Region.binds] at hd
    obtain ⟨e6, e7, e8⟩ := hd
    simp only [e6, e7, e8]
    go_wp2_with fail
    exact ⟨rfl, _, rfl, (Below.refl _ _).alloc (Nat.le_refl _) _, _, _, rfl, ms_lit3 _ X Y Z⟩
  apply OpsOK.eq
  · intro vs u hb hd
    simp [Region.binds] at hd
    obtain ⟨⟨ao, cp, hv, hms⟩, e5⟩ := hd
    simp only [hv, e5]
    go_wp2_with fail
    refine (CA1.out _ _ _ hms).mono ?_; rintro e w' ⟨rfl, hbel⟩; go_wp2_with fail; exact ⟨rfl, _, rfl, hbel, rfl⟩
  apply OpsOK.eq
  · intro vs u hb hd
    simp [Region.binds] at hd
    obtain ⟨e5, e10⟩ := hd
    simp only [e5, e10]
    go_wp2_with fail
    exact ⟨rfl, _, rfl, Below.refl _ _, rfl⟩
  apply OpsOK.eq
  · intro vs u hb hd
    simp [Region.binds] at hd
    obtain ⟨e11, e10⟩ := hd
    simp only [e11, e10]
    go_wp2_with fail
    exact ⟨rfl, _, rfl, Below.refl _ _, rfl⟩
  apply OpsOK.eq
  · intro vs u hb hd
    simp [Region.binds] at hd
    have e12 := hd
    clear hd
    simp only [e12]
    have q := block_below hb HX.out (block_lt HX.out)
    have p0 := block_cell q 0
    have p1 := block_cell q 1
    have p2 := block_cell q 2
    simp at p0 p1 p2
    clear q
    go_wp2_with fail
    exact ⟨rfl, _, rfl, Below.refl _ _, rfl⟩
  apply OpsOK.eq
  · intro vs u hb hd
    simp [Region.binds] at hd
    have e12 := hd
    clear hd
    simp only [e12]
    have q := block_below hb HY.out (block_lt HY.out)
    have p0 := block_cell q 0
    have p1 := block_cell q 1
    have p2 := block_cell q 2
    simp at p0 p1 p2
    clear q
    go_wp2_with fail
    exact ⟨rfl, _, rfl, Below.refl _ _, rfl⟩
  refine OpsOK.step (SlMs 2 [X, Y]) (Stab_ms 2 [X, Y]) ?_ ?_
  · intro vs u hb hd
    simp [Region.binds] at hd
    obtain ⟨e13, e14, e12⟩ := hd
    simp only [e13, e14, e12]
    go_wp2_with fail
    exact ⟨rfl, _, rfl, (Below.refl _ _).alloc (Nat.le_refl _) _, _, _, rfl, ms_lit2 _ X Y⟩
  apply OpsOK.eq
  · intro vs u hb hd
    simp [Region.binds] at hd
    obtain ⟨⟨ao, cp, hv, hms⟩, e12⟩ := hd
    simp only [hv, e12]
    go_wp2_with fail
    refine (CA2.out _ _ _ hms).mono ?_; rintro e w' ⟨rfl, hbel⟩; go_wp2_with fail; exact ⟨rfl, _, rfl, hbel, rfl⟩
  apply OpsOK.eq
  · intro vs u hb hd
    simp [Region.binds] at hd
    have e12 := hd
    clear hd
    simp only [e12]
    have q := block_below hb HZ.out (block_lt HZ.out)
    have p0 := block_cell q 0
    have p1 := block_cell q 1
    have p2 := block_cell q 2
    simp at p0 p1 p2
    clear q
    go_wp2_with fail
    exact ⟨rfl, _, rfl, Below.refl _ _, rfl⟩
  refine OpsOK.step (SlMs 2 [U, Z]) (Stab_ms 2 [U, Z]) ?_ ?_
  · intro vs u hb hd
    simp [Region.binds] at hd
    obtain ⟨e16, e17, e12⟩ := hd
    simp only [e16, e17, e12]
    go_wp2_with fail
    exact ⟨rfl, _, rfl, (Below.refl _ _).alloc (Nat.le_refl _) _, _, _, rfl, ms_lit2 _ U Z⟩
  apply OpsOK.eq
  · intro vs u hb hd
    simp [Region.binds] at hd
    obtain ⟨⟨ao, cp, hv, hms⟩, e16, e12⟩ := hd
    simp only [hv, e16, e12]
    go_wp2_with fail
    refine (CA3.out _ _ _ hms).mono ?_; rintro e w' ⟨rfl, hbel⟩; go_wp2_with fail; exact ⟨rfl, _, rfl, hbel, rfl⟩
  apply OpsOK.eq
  · intro vs u hb hd
    simp [Region.binds] at hd
    have e12 := hd
    clear hd
    simp only [e12]
    have q := block_below hb HX.out (block_lt HX.out)
    have p0 := block_cell q 0
    have p1 := block_cell q 1
    have p2 := block_cell q 2
    simp at p0 p1 p2
    clear q
    go_wp2_with fail
    exact ⟨rfl, _, rfl, Below.refl _ _, rfl⟩
  apply OpsOK.eq
  · intro vs u hb hd
    simp [Region.binds] at hd
    have e12 := hd
    clear hd
    simp only [e12]
    have q := block_below hb HY.out (block_lt HY.out)
    have p0 := block_cell q 0
    have p1 := block_cell q 1
    have p2 := block_cell q 2
    simp at p0 p1 p2
    clear q
    go_wp2_with fail
    exact ⟨rfl, _, rfl, Below.refl _ _, rfl⟩
  apply OpsOK.eq
  · intro vs u hb hd
    simp [Region.binds] at hd
    have e12 := hd
    clear hd
    simp only [e12]
    have q := block_below hb HZ.out (block_lt HZ.out)
    have p0 := block_cell q 0
    have p1 := block_cell q 1
    have p2 := block_cell q 2
    simp at p0 p1 p2
    clear q
    go_wp2_with fail
    exact ⟨rfl, _, rfl, Below.refl _ _, rfl⟩
  refine OpsOK.step (SlMs 2 [Y, Z]) (Stab_ms 2 [Y, Z]) ?_ ?_
  · intro vs u hb hd
    simp [Region.binds] at hd
    obtain ⟨e21, e22, e12⟩ := hd
    simp only [e21, e22, e12]
    go_wp2_with fail
    exact ⟨rfl, _, rfl, (Below.refl _ _).alloc (Nat.le_refl _) _, _, _, rfl, ms_lit2 _ Y Z⟩
  apply OpsOK.eq
  · intro vs u hb hd
    simp [Region.binds] at hd
    obtain ⟨⟨ao, cp, hv, hms⟩, e19, e12⟩ := hd
    simp only [hv, e19, e12]
    go_wp2_with fail
    refine (CA4.out _ _ _ hms).mono ?_; rintro e w' ⟨rfl, hbel⟩; go_wp2_with fail; exact ⟨rfl, _, rfl, hbel, rfl⟩
  refine OpsOK.step (SlMs 2 [X, V]) (Stab_ms 2 [X, V]) ?_ ?_
  · intro vs u hb hd
    simp [Region.binds] at hd
    obtain ⟨e20, e24, e12⟩ := hd
    simp only [e20, e24, e12]
    go_wp2_with fail
    exact ⟨rfl, _, rfl, (Below.refl _ _).alloc (Nat.le_refl _) _, _, _, rfl, ms_lit2 _ X V⟩
  apply OpsOK.eq
  · intro vs u hb hd
    simp [Region.binds] at hd
    obtain ⟨⟨ao, cp, hv, hms⟩, e24, e12⟩ := hd
    simp only [hv, e24, e12]
    go_wp2_with fail
    refine (CA5.out _ _ _ hms).mono ?_; rintro e w' ⟨rfl, hbel⟩; go_wp2_with fail; exact ⟨rfl, _, rfl, hbel, rfl⟩
  apply OpsOK.eq
  · intro vs u hb hd
    simp [Region.binds] at hd
    obtain ⟨e19, e26, e12⟩ := hd
    simp only [e19, e26, e12]
    go_wp2_with fail
    exact ⟨rfl, _, rfl, Below.refl _ _, rfl⟩
  apply OpsOK.eq
  · intro vs u hb hd
    simp [Region.binds] at hd
    obtain ⟨e12, e27⟩ := hd
    simp only [e12, e27]
    go_wp2_with fail
    exact ⟨rfl, _, rfl, Below.refl _ _, rfl⟩
  apply OpsOK.eq
  · intro vs u hb hd
    simp [Region.binds] at hd
    obtain ⟨e28, e26⟩ := hd
    simp only [e28, e26]
    go_wp2_with fail
    exact ⟨rfl, _, rfl, Below.refl _ _, rfl⟩
  apply OpsOK.eq
  · intro vs u hb hd
    simp [Region.binds] at hd
    have e29 := hd
    clear hd
    simp only [e29]
    go_wp2_with fail
    refine (CN.out _).mono ?_; rintro e w' ⟨rfl, hbel⟩; go_wp2_with fail; exact ⟨rfl, _, rfl, hbel, rfl⟩
  apply OpsOK.eq
  · intro vs u hb hd
    simp [Region.binds] at hd
    obtain ⟨e30, e29⟩ := hd
    simp only [e30, e29]
    go_wp2_with fail
    refine (CE.out _).mono ?_; rintro e w' ⟨rfl, hbel⟩; go_wp2_with fail; exact ⟨rfl, _, rfl, hbel, rfl⟩
  apply OpsOK.eq
  · intro vs u hb hd
    simp [Region.binds] at hd
    obtain ⟨e30, e31, e29⟩ := hd
    simp only [e30, e31, e29]
    go_wp2_with fail
    exact ⟨rfl, _, rfl, Below.refl _ _, rfl⟩
  apply OpsOK.eq
  · intro vs u hb hd
    simp [Region.binds] at hd
    obtain ⟨e29, e32⟩ := hd
    simp only [e29, e32]
    go_wp2_with fail
    exact ⟨rfl, _, rfl, Below.refl _ _, rfl⟩
  refine OpsOK.done ?_
  intro vs u hbu hS
  have h33 := hS 33 (by decide)
  simp at h33
  simp only [h33]
  clear h33
  clear hS
  go_wp2_with fail
  obtain ⟨u3, hu3⟩ : ∃ u3, u3 = u := ⟨_, rfl⟩
  subst hu3
  refine wp_region_plan [.make, .make, .make, .make, .make, .make, .pure, .pure, .pure, .make, .write 0, .pure] [0, 1, 2, 3, 4, 5, 7, 9] 1 (fun _ vs w => ∃ b, vs 9 = .pointer (some ⟨b, 0, none⟩) ∧ w.heap[b]? = some (.cells #[.int .i64 X.1, .int .i64 X.2.1, .int .i64 X.2.2] 23 (0, 0)) ∧ Below u3.heap.size u3 w) (by kernel_rfl) (by decide) (by kernel_rfl) (by kernel_rfl) (by kernel_rfl) (by kernel_rfl) (fun p vs vs' w h hE => by rw [← h 9 (by decide)] at hE; exact hE) ?_
  simp only [fill, Act.put, List.setIfInBounds_toArray, List.set_cons_zero, List.set_cons_succ, Nat.zero_add, Nat.reduceAdd, List.zip_cons_cons, List.zip_nil_right]
  apply OpsIs.eq
  · intro vs u hb hd
    clear hd
    have q := block_below (below_step hbu hb) HX.out (block_lt HX.out)
    have p0 := block_cell q 0
    have p1 := block_cell q 1
    have p2 := block_cell q 2
    simp at p0 p1 p2
    clear q
    go_wp2_with fail
    exact ⟨rfl, _, rfl, Below.refl _ _, rfl⟩
  apply OpsIs.eq
  · intro vs u hb hd
    clear hd
    have q := block_below (below_step hbu hb) HY.out (block_lt HY.out)
    have p0 := block_cell q 0
    have p1 := block_cell q 1
    have p2 := block_cell q 2
    simp at p0 p1 p2
    clear q
    go_wp2_with fail
    exact ⟨rfl, _, rfl, Below.refl _ _, rfl⟩
  refine OpsIs.step (SlMs 2 [X, Y]) (Stab_ms 2 [X, Y]) ?_ ?_
  · intro vs u hb hd
    have e0 := hd ⟨0, .data⟩ (by simp) (by decide)
    simp at e0
    have e1 := hd ⟨1, .data⟩ (by simp) (by decide)
    simp at e1
    clear hd
    simp only [e0, e1]
    go_wp2_with fail
    exact ⟨rfl, _, rfl, (Below.refl _ _).alloc (Nat.le_refl _) _, _, _, rfl, ms_lit2 _ X Y⟩
  apply OpsIs.eq
  · intro vs u hb hd
    obtain ⟨ao, cp, hv, hms⟩ := hd ⟨2, .data⟩ (by simp) (by decide)
    clear hd
    simp only [hv]
    go_wp2_with fail
    refine (CA2.out _ _ _ hms).mono ?_; rintro e w' ⟨rfl, hbel⟩; go_wp2_with fail; exact ⟨rfl, _, rfl, hbel, rfl⟩
  apply OpsIs.eq
  · intro vs u hb hd
    clear hd
    have q := block_below (below_step hbu hb) HY.out (block_lt HY.out)
    have p0 := block_cell q 0
    have p1 := block_cell q 1
    have p2 := block_cell q 2
    simp at p0 p1 p2
    clear q
    go_wp2_with fail
    exact ⟨rfl, _, rfl, Below.refl _ _, rfl⟩
  apply OpsIs.eq
  · intro vs u hb hd
    have e3 := hd ⟨3, .data⟩ (by simp) (by decide)
    simp at e3
    have e4 := hd ⟨4, .data⟩ (by simp) (by decide)
    simp at e4
    clear hd
    simp only [e3, e4]
    go_wp2_with fail
    refine (CSUB.out _).mono ?_; rintro e w' ⟨rfl, hbel⟩; go_wp2_with fail; exact ⟨rfl, _, rfl, hbel, rfl⟩
  apply OpsIs.pure
  · intro vs u hd
    obtain ⟨_, e5⟩ := hd ⟨5, .data⟩ (by simp) (by decide)
    simp at e5
    clear hd
    simp only [e5]
    go_wp2_with fail
    exact ⟨rfl, _, rfl, rfl, fun _ => rfl⟩
  apply OpsIs.pure
  · intro vs u hd
    obtain ⟨_, e6⟩ := hd ⟨6, .data⟩ (by simp) (by decide)
    simp at e6
    clear hd
    simp only [e6]
    go_wp2_with fail
    exact ⟨rfl, _, rfl, rfl, fun _ => rfl⟩
  apply OpsIs.pure
  · intro vs u hd
    obtain ⟨_, e6⟩ := hd ⟨6, .data⟩ (by simp) (by decide)
    simp at e6
    clear hd
    simp only [e6]
    go_wp2_with fail
    exact ⟨rfl, _, rfl, rfl, fun _ => rfl⟩
  refine OpsIs.step (PtrTo u3.heap.size (.cells #[.int .i64 0, .int .i64 0, .int .i64 0] 23)) (Stab_ptr _ _) ?_ ?_
  · intro vs u hb hd
    clear hd
    go_wp2_with fail
    exact ⟨rfl, _, rfl, (Below.refl _ _).alloc (Nat.le_refl _) _, _, rfl, hb.size, block_new _ _⟩
  refine OpsIs.first ?_ ?_
  · intro vs u hb hd
    have e7 := hd 7 (by simp)
    simp at e7
    obtain ⟨bv, hv, hge, hbl⟩ := hd 9 (by simp)
    clear hd
    simp only [e7, hv]
    have p0 := block_cell hbl 0
    have p1 := block_cell hbl 1
    have p2 := block_cell hbl 2
    have f0 := block_free hbl 0
    have f1 := block_free hbl 1
    have f2 := block_free hbl 2
    simp at p0 p1 p2
    have hlt := block_lt hbl
    go_wp2_with fail
    exact ⟨rfl, undef, rfl, bv, hv, block_setCell (block_setCell (block_setCell hbl 0 _) 1 _) 2 _, ((hb.setCell hge _).setCell hge _).setCell hge _⟩
  apply OpsIs.pure
  · intro vs u hd
    obtain ⟨_, e8⟩ := hd ⟨8, .data⟩ (by simp) (by decide)
    simp at e8
    obtain ⟨_, e0⟩ := hd ⟨0, .phase⟩ (by simp) (by decide)
    simp at e0
    obtain ⟨_, e1⟩ := hd ⟨1, .phase⟩ (by simp) (by decide)
    simp at e1
    obtain ⟨_, e3⟩ := hd ⟨3, .phase⟩ (by simp) (by decide)
    simp at e3
    obtain ⟨_, e4⟩ := hd ⟨4, .phase⟩ (by simp) (by decide)
    simp at e4
    obtain ⟨_, e5⟩ := hd ⟨5, .phase⟩ (by simp) (by decide)
    simp at e5
    obtain ⟨_, e6⟩ := hd ⟨6, .phase⟩ (by simp) (by decide)
    simp at e6
    obtain ⟨_, e7⟩ := hd ⟨7, .phase⟩ (by simp) (by decide)
    simp at e7
    clear hd
    simp only [e8, e0, e1, e3, e4, e5, e6, e7]
    go_wp2_with fail
    exact ⟨rfl, _, rfl, rfl, fun _ => rfl⟩
  refine OpsIs.done ?_
  intro vs u hE hS
  obtain ⟨_, h11⟩ := hS 11 (by decide)
  simp at h11
  simp only [h11]
  clear h11
  clear hS
  obtain ⟨bv, hv, hbl, hbe⟩ := hE
  simp only [hv]
  have q := block_below (below_step hbu hbe) HX.out (block_lt HX.out)
  have p0 := block_cell q 0
  have p1 := block_cell q 1
  have p2 := block_cell q 2
  have q0 := block_cell hbl 0
  have q1 := block_cell hbl 1
  have q2 := block_cell hbl 2
  simp at p0 p1 p2 q0 q1 q2
  clear q hbl
  go_wp2_with fail
  refine (known_any _).mono ?_; rintro e w' ⟨rfl, hbk⟩
  go_wp2_with fail
  go_ret
  exact ⟨rfl, below_step (below_step (below_step (((hb03.alloc hb03.size _).alloc (by simp; have := hb03.size; omega) _).alloc (by simp; have := hb03.size; omega) _) hbu) hbe) hbk⟩

end Go.Proofs.Ytalkafjccpijiaa
