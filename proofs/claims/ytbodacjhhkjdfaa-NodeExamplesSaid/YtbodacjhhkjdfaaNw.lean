/- The contract of Decode at a leaf; the examples. -/
import Derived.Test.YtbodacjhhkjdfaaNv
namespace Go.Proofs.Ytbodacjhhkjdfaa
open Go.RowKit

/-- a pointer to a block of its own, known whole -/
def PtrTo (B : Nat) (o : Obj) (v : Value) (w : World) : Prop := ∃ b, v = .pointer (some ⟨b, 0, none⟩) ∧ B ≤ b ∧ w.heap[b]? = some o
theorem Stab_ptr (B : Nat) (o : Obj) : Stab (PtrTo B o) := by
  rintro v w w' ⟨b, hv, hge, h⟩ hb
  exact ⟨b, hv, hge, block_below hb h (block_lt h)⟩

set_option maxRecDepth 100000 in
set_option maxHeartbeats 2000000 in
theorem decode_leaf (s : ByteArray) (w : World) (h1 : 0 < s.size) (hd : Nat) (h0 : s[0].toNat = hd) (hd0 : hd = 0) (hc : checkN ⟨0, s.extract 1 s.size, []⟩ = 0) :
    Calls Try.prog 27 #[.string s] w fun e w' => e = .returned (.tuple #[.agg #[.int .i64 0, .string (s.extract 1 s.size), .slice none 0 0], .int .i64 0]) ∧ Below w.heap.size w w' := by
  have HK := Lib.hid (show ∀ u, IsKs u none 0 [] from fun _ => ⟨rfl, by simp, fun h => absurd h (Nat.lt_irrefl _)⟩)
  have hne : s.toList.isEmpty = false := by
    rw [ByteArray.toList_eq]
    rcases h : s.data.toList with _ | _
    · have : s.size = s.data.toList.length := rfl
      rw [h, List.length_nil] at this
      omega
    · rfl
  have hlt8 : hd < 256 := by have := s[0].toNat_lt; omega
  have HD0 := Lib.hid hd0
  have HC := Lib.hid hc
  clear hc hd0
  go_enter Try.func27, Try.ntmps27
  go_wp2_with fail
  refine wp_region_plan [.make, .make, .make, .make, .pure, .pure, .make, .write 0, .pure] [0, 1, 2, 3, 6] 1 (fun _ vs u => ∃ b, vs 6 = .pointer (some ⟨b, 0, none⟩) ∧ w.heap.size + 1 ≤ b ∧ u.heap[b]? = some (.cells #[.int .i64 (hd : Int), .string ⟨#[]⟩, .slice none 0 0] 24 (0, 0)) ∧ Below (w.heap.size + 1) (w.alloc (.cells #[.int .i64 0, .string ⟨#[]⟩, .slice none 0 0] 24)) u) (by kernel_rfl) (by decide) (by kernel_rfl) (by kernel_rfl) (by kernel_rfl) (by kernel_rfl) (fun p vs vs' u h hE => by rw [← h 6 (by decide)] at hE; exact hE) ?_
  simp only [fill, Act.put, List.setIfInBounds_toArray, List.set_cons_zero, List.set_cons_succ, Nat.zero_add, Nat.reduceAdd, List.zip_cons_cons, List.zip_nil_right]
  apply OpsIs.eq
  · intro vs u hb hd
    clear hd
    go_wp2_with fail
    exact ⟨rfl, _, rfl, Below.refl _ _, rfl⟩
  apply OpsIs.eq
  · intro vs u hb hd
    have e0 := hd ⟨0, .data⟩ (by simp) (by decide)
    simp at e0
    clear hd
    simp only [e0]
    go_wp2_with fail
    exact ⟨rfl, _, rfl, Below.refl _ _, rfl⟩
  apply OpsIs.eq
  · intro vs u hb hd
    have e1 := hd ⟨1, .data⟩ (by simp) (by decide)
    simp at e1
    clear hd
    simp only [e1]
    go_wp2_with fail
    exact ⟨rfl, _, rfl, Below.refl _ _, rfl⟩
  apply OpsIs.eq
  · intro vs u hb hd
    have e2 := hd ⟨2, .data⟩ (by simp) (by decide)
    simp at e2
    clear hd
    simp only [e2]
    go_wp2_with fail
    exact ⟨rfl, _, rfl, Below.refl _ _, rfl⟩
  apply OpsIs.pure
  · intro vs u hd
    clear hd
    go_wp2_with fail
    exact ⟨rfl, _, rfl, rfl, fun _ => rfl⟩
  apply OpsIs.pure
  · intro vs u hd
    obtain ⟨_, e4⟩ := hd ⟨4, .data⟩ (by simp) (by decide)
    simp at e4
    clear hd
    simp only [e4]
    go_wp2_with fail
    exact ⟨rfl, _, rfl, rfl, fun _ => rfl⟩
  refine OpsIs.step (PtrTo (w.heap.size + 1) (.cells #[.int .i64 0, .string ⟨#[]⟩, .slice none 0 0] 24)) (Stab_ptr _ _) ?_ ?_
  · intro vs u hb hd
    clear hd
    go_wp2_with fail
    exact ⟨rfl, _, rfl, (Below.refl _ _).alloc (Nat.le_refl _) _, _, rfl, by have := hb.size; simpa using this, block_new _ _⟩
  refine OpsIs.first ?_ ?_
  · intro vs u hb hdis hd
    have e3 := hd 3 (by simp)
    simp at e3
    obtain ⟨bv, hv, hge, hbl⟩ := hd 6 (by simp)
    clear hd
    simp only [e3, hv]
    have p0 := block_cell hbl 0
    have p1 := block_cell hbl 1
    have p2 := block_cell hbl 2
    have f0 := block_free hbl 0
    have f1 := block_free hbl 1
    have f2 := block_free hbl 2
    simp at p0 p1 p2
    have hlt := block_lt hbl
    go_wp2_with fail
    exact ⟨rfl, undef, rfl, bv, hv, hge, block_setCell (block_setCell (block_setCell hbl 0 _) 1 _) 2 _, (((hb.mono (by simp)).setCell hge _).setCell hge _).setCell hge _⟩
  apply OpsIs.pure
  · intro vs u hd
    obtain ⟨_, e5⟩ := hd ⟨5, .data⟩ (by simp) (by decide)
    simp at e5
    obtain ⟨_, e0⟩ := hd ⟨0, .phase⟩ (by simp) (by decide)
    simp at e0
    obtain ⟨_, e1⟩ := hd ⟨1, .phase⟩ (by simp) (by decide)
    simp at e1
    obtain ⟨_, e2⟩ := hd ⟨2, .phase⟩ (by simp) (by decide)
    simp at e2
    obtain ⟨_, e3⟩ := hd ⟨3, .phase⟩ (by simp) (by decide)
    simp at e3
    obtain ⟨_, e4⟩ := hd ⟨4, .phase⟩ (by simp) (by decide)
    simp at e4
    clear hd
    simp only [e5, e0, e1, e2, e3, e4]
    go_wp2_with fail
    exact ⟨rfl, _, rfl, rfl, fun _ => rfl⟩
  refine OpsIs.done ?_
  intro vs u hE hS
  obtain ⟨_, h8⟩ := hS 8 (by decide)
  simp at h8
  simp only [h8]
  clear h8
  clear hS
  obtain ⟨bv, hv, hge, hbl, hbe⟩ := hE
  simp only [hv]
  have HV := Lib.hid hv
  clear hv
  (have q0 := block_cell hbl 0; have q1 := block_cell hbl 1; have q2 := block_cell hbl 2; have f0 := block_free hbl 0; have f1 := block_free hbl 1; have f2 := block_free hbl 2; have hz := block_lt hbl; simp at q0 q1 q2)
  have hbx := block_setCell hbl 1 (.string (s.extract 1 s.size))
  (have q0 := block_cell hbx 0; have q1 := block_cell hbx 1; have q2 := block_cell hbx 2; have f0 := block_free hbx 0; have f1 := block_free hbx 1; have f2 := block_free hbx 2; have hz := block_lt hbx; simp at q0 q1 q2)
  obtain rfl := HD0.out
  have hz0 := block_below hbe (block_new w _) (by simp)
  have hbw := (hbe.mono (Nat.le_succ _))
  have hbw : Below w.heap.size w u := ((Below.refl _ _).alloc (Nat.le_refl _) _).trans hbw
  have hzx := block_setCell_other hz0 (p := ⟨bv, 1, none⟩) (by simp; omega) (.string (s.extract 1 s.size))
  have HBX := Lib.hid hbx
  have HBW := Lib.hid hbw
  have HZX := Lib.hid hzx
  clear hzx hbw hbx
  clear hbe hz0 hbl
  go_wp2_with fail
  refine (check_any ⟨0, s.extract 1 s.size, []⟩ none 0 0 _ (HK.out _)).mono ?_; rintro e w1 ⟨rfl, hb⟩
  rw [HC.out]
  have hb0 := block_below hb HZX.out (block_lt HZX.out)
  have hb1 := block_below hb HBX.out (block_lt HBX.out)
  (have q0 := block_cell hb0 0; have q1 := block_cell hb0 1; have q2 := block_cell hb0 2; have f0 := block_free hb0 0; have f1 := block_free hb0 1; have f2 := block_free hb0 2; have hz := block_lt hb0; simp at q0 q1 q2)
  (have q0 := block_cell hb1 0; have q1 := block_cell hb1 1; have q2 := block_cell hb1 2; have f0 := block_free hb1 0; have f1 := block_free hb1 1; have f2 := block_free hb1 2; have hz := block_lt hb1; simp at q0 q1 q2)
  have hbw1 := below_step ((HBW.out.setCell (by simp; omega) _ : Below w.heap.size w (u.setCell ⟨bv, 1, none⟩ (.string (s.extract 1 s.size))))) hb
  have HB0 := Lib.hid hb0
  have HBW1 := Lib.hid hbw1
  clear hbw1 hb0
  clear hb hb1
  go_wp2_with fail
  have hb0 := block_setCell (block_setCell (block_setCell HB0.out 0 (.int .i64 0)) 1 (.string (s.extract 1 s.size))) 2 (.slice none 0 0)
  exact bodyPost_ret (res3_tmp Try.results27 (Try.isAgg24 _) (Try.sizeOf24 _) rfl hb0) rfl ⟨rfl, ((HBW1.out.setCell (by simp) _).setCell (by simp) _).setCell (by simp) _⟩

set_option maxRecDepth 100000 in
set_option maxHeartbeats 2000000 in
theorem decode_bad (s : ByteArray) (w : World) (h1 : 0 < s.size) (hd : Nat) (h0 : s[0].toNat = hd) (hd0 : hd = 0) (hc : checkN ⟨0, s.extract 1 s.size, []⟩ ≠ 0) :
    Calls Try.prog 27 #[.string s] w fun e w' => e = .returned (.tuple #[.agg #[.int .i64 0, .string ⟨#[]⟩, .slice none 0 0], .int .i64 4]) ∧ Below w.heap.size w w' := by
  have HK := Lib.hid (show ∀ u, IsKs u none 0 [] from fun _ => ⟨rfl, by simp, fun h => absurd h (Nat.lt_irrefl _)⟩)
  have hne : s.toList.isEmpty = false := by
    rw [ByteArray.toList_eq]
    rcases h : s.data.toList with _ | _
    · have : s.size = s.data.toList.length := rfl
      rw [h, List.length_nil] at this
      omega
    · rfl
  have hlt8 : hd < 256 := by have := s[0].toNat_lt; omega
  have HD0 := Lib.hid hd0
  have HC := Lib.hid hc
  clear hc hd0
  go_enter Try.func27, Try.ntmps27
  go_wp2_with fail
  refine wp_region_plan [.make, .make, .make, .make, .pure, .pure, .make, .write 0, .pure] [0, 1, 2, 3, 6] 1 (fun _ vs u => ∃ b, vs 6 = .pointer (some ⟨b, 0, none⟩) ∧ w.heap.size + 1 ≤ b ∧ u.heap[b]? = some (.cells #[.int .i64 (hd : Int), .string ⟨#[]⟩, .slice none 0 0] 24 (0, 0)) ∧ Below (w.heap.size + 1) (w.alloc (.cells #[.int .i64 0, .string ⟨#[]⟩, .slice none 0 0] 24)) u) (by kernel_rfl) (by decide) (by kernel_rfl) (by kernel_rfl) (by kernel_rfl) (by kernel_rfl) (fun p vs vs' u h hE => by rw [← h 6 (by decide)] at hE; exact hE) ?_
  simp only [fill, Act.put, List.setIfInBounds_toArray, List.set_cons_zero, List.set_cons_succ, Nat.zero_add, Nat.reduceAdd, List.zip_cons_cons, List.zip_nil_right]
  apply OpsIs.eq
  · intro vs u hb hd
    clear hd
    go_wp2_with fail
    exact ⟨rfl, _, rfl, Below.refl _ _, rfl⟩
  apply OpsIs.eq
  · intro vs u hb hd
    have e0 := hd ⟨0, .data⟩ (by simp) (by decide)
    simp at e0
    clear hd
    simp only [e0]
    go_wp2_with fail
    exact ⟨rfl, _, rfl, Below.refl _ _, rfl⟩
  apply OpsIs.eq
  · intro vs u hb hd
    have e1 := hd ⟨1, .data⟩ (by simp) (by decide)
    simp at e1
    clear hd
    simp only [e1]
    go_wp2_with fail
    exact ⟨rfl, _, rfl, Below.refl _ _, rfl⟩
  apply OpsIs.eq
  · intro vs u hb hd
    have e2 := hd ⟨2, .data⟩ (by simp) (by decide)
    simp at e2
    clear hd
    simp only [e2]
    go_wp2_with fail
    exact ⟨rfl, _, rfl, Below.refl _ _, rfl⟩
  apply OpsIs.pure
  · intro vs u hd
    clear hd
    go_wp2_with fail
    exact ⟨rfl, _, rfl, rfl, fun _ => rfl⟩
  apply OpsIs.pure
  · intro vs u hd
    obtain ⟨_, e4⟩ := hd ⟨4, .data⟩ (by simp) (by decide)
    simp at e4
    clear hd
    simp only [e4]
    go_wp2_with fail
    exact ⟨rfl, _, rfl, rfl, fun _ => rfl⟩
  refine OpsIs.step (PtrTo (w.heap.size + 1) (.cells #[.int .i64 0, .string ⟨#[]⟩, .slice none 0 0] 24)) (Stab_ptr _ _) ?_ ?_
  · intro vs u hb hd
    clear hd
    go_wp2_with fail
    exact ⟨rfl, _, rfl, (Below.refl _ _).alloc (Nat.le_refl _) _, _, rfl, by have := hb.size; simpa using this, block_new _ _⟩
  refine OpsIs.first ?_ ?_
  · intro vs u hb hdis hd
    have e3 := hd 3 (by simp)
    simp at e3
    obtain ⟨bv, hv, hge, hbl⟩ := hd 6 (by simp)
    clear hd
    simp only [e3, hv]
    have p0 := block_cell hbl 0
    have p1 := block_cell hbl 1
    have p2 := block_cell hbl 2
    have f0 := block_free hbl 0
    have f1 := block_free hbl 1
    have f2 := block_free hbl 2
    simp at p0 p1 p2
    have hlt := block_lt hbl
    go_wp2_with fail
    exact ⟨rfl, undef, rfl, bv, hv, hge, block_setCell (block_setCell (block_setCell hbl 0 _) 1 _) 2 _, (((hb.mono (by simp)).setCell hge _).setCell hge _).setCell hge _⟩
  apply OpsIs.pure
  · intro vs u hd
    obtain ⟨_, e5⟩ := hd ⟨5, .data⟩ (by simp) (by decide)
    simp at e5
    obtain ⟨_, e0⟩ := hd ⟨0, .phase⟩ (by simp) (by decide)
    simp at e0
    obtain ⟨_, e1⟩ := hd ⟨1, .phase⟩ (by simp) (by decide)
    simp at e1
    obtain ⟨_, e2⟩ := hd ⟨2, .phase⟩ (by simp) (by decide)
    simp at e2
    obtain ⟨_, e3⟩ := hd ⟨3, .phase⟩ (by simp) (by decide)
    simp at e3
    obtain ⟨_, e4⟩ := hd ⟨4, .phase⟩ (by simp) (by decide)
    simp at e4
    clear hd
    simp only [e5, e0, e1, e2, e3, e4]
    go_wp2_with fail
    exact ⟨rfl, _, rfl, rfl, fun _ => rfl⟩
  refine OpsIs.done ?_
  intro vs u hE hS
  obtain ⟨_, h8⟩ := hS 8 (by decide)
  simp at h8
  simp only [h8]
  clear h8
  clear hS
  obtain ⟨bv, hv, hge, hbl, hbe⟩ := hE
  simp only [hv]
  have HV := Lib.hid hv
  clear hv
  (have q0 := block_cell hbl 0; have q1 := block_cell hbl 1; have q2 := block_cell hbl 2; have f0 := block_free hbl 0; have f1 := block_free hbl 1; have f2 := block_free hbl 2; have hz := block_lt hbl; simp at q0 q1 q2)
  have hbx := block_setCell hbl 1 (.string (s.extract 1 s.size))
  (have q0 := block_cell hbx 0; have q1 := block_cell hbx 1; have q2 := block_cell hbx 2; have f0 := block_free hbx 0; have f1 := block_free hbx 1; have f2 := block_free hbx 2; have hz := block_lt hbx; simp at q0 q1 q2)
  obtain rfl := HD0.out
  have hz0 := block_below hbe (block_new w _) (by simp)
  have hbw := (hbe.mono (Nat.le_succ _))
  have hbw : Below w.heap.size w u := ((Below.refl _ _).alloc (Nat.le_refl _) _).trans hbw
  have hzx := block_setCell_other hz0 (p := ⟨bv, 1, none⟩) (by simp; omega) (.string (s.extract 1 s.size))
  have HBX := Lib.hid hbx
  have HBW := Lib.hid hbw
  have HZX := Lib.hid hzx
  clear hzx hbw hbx
  clear hbe hz0 hbl
  go_wp2_with fail
  refine (check_any ⟨0, s.extract 1 s.size, []⟩ none 0 0 _ (HK.out _)).mono ?_; rintro e w1 ⟨rfl, hb⟩
  have hcc : (checkN ⟨0, s.extract 1 s.size, []⟩ == 0) = false := by simpa using HC.out
  have hb0 := block_below hb HZX.out (block_lt HZX.out)
  have hb1 := block_below hb HBX.out (block_lt HBX.out)
  (have q0 := block_cell hb0 0; have q1 := block_cell hb0 1; have q2 := block_cell hb0 2; have f0 := block_free hb0 0; have f1 := block_free hb0 1; have f2 := block_free hb0 2; have hz := block_lt hb0; simp at q0 q1 q2)
  (have q0 := block_cell hb1 0; have q1 := block_cell hb1 1; have q2 := block_cell hb1 2; have f0 := block_free hb1 0; have f1 := block_free hb1 1; have f2 := block_free hb1 2; have hz := block_lt hb1; simp at q0 q1 q2)
  have hbw1 := below_step ((HBW.out.setCell (by simp; omega) _ : Below w.heap.size w (u.setCell ⟨bv, 1, none⟩ (.string (s.extract 1 s.size))))) hb
  have HB0 := Lib.hid hb0
  have HBW1 := Lib.hid hbw1
  clear hbw1 hb0
  clear hb hb1
  go_wp2_with fail
  have hb0 := block_setCell (block_setCell (block_setCell HB0.out 0 (.int .i64 0)) 1 (.string ⟨#[]⟩)) 2 (.slice none 0 0)
  exact bodyPost_ret (res3_tmp Try.results27 (Try.isAgg24 _) (Try.sizeOf24 _) rfl hb0) rfl ⟨rfl, ((HBW1.out.setCell (by simp) _).setCell (by simp) _).setCell (by simp) _⟩

end Go.Proofs.Ytbodacjhhkjdfaa
