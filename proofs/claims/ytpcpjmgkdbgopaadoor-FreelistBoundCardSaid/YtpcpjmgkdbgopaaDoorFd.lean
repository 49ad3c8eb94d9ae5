/- The freelist: slot, Live, Gen of the program. -/
import Derived.Test.YtpcpjmgkdbgopaaDoorFc
namespace Go.Proofs.YtpcpjmgkdbgopaaDoor
open Go.RowKit

theorem hOK_mk {h : Int} (hk : hOK h) : ∃ s g : Nat, mkOK s g ∧ h = hMk s g := by
  unfold hOK at hk
  exact ⟨(h % 65536).toNat, (h / 65536).toNat, by unfold mkOK; omega, by unfold hMk; omega⟩
theorem liveL_mk {x : FL} {s g : Nat} (h : mkOK s g) : liveL x (hMk s g) ↔ s < x.n ∧ x.st s = 1 ∧ g = x.gn s := by
  unfold liveL
  rw [hMk_mod h, hMk_div h]
  simp only [Int.toNat_natCast]
  exact ⟨fun k => k.2, fun k => ⟨hMk_ok h, k⟩⟩
theorem hSlot_mk (s g : Nat) (w : World) (h : mkOK s g) :
    Calls Tryd.prog 28 #[.int .u64 (hMk s g)] w fun e w' => e = .returned (.tuple #[.int .i64 s, .int .i64 0]) ∧ w = w' := by
  have := hSlot_ok _ w (hMk_le h).1 (hMk_le h).2 (hMk_ok h)
  rwa [hMk_mod h] at this
theorem hGen_mk (s g : Nat) (w : World) (h : mkOK s g) :
    Calls Tryd.prog 29 #[.int .u64 (hMk s g)] w fun e w' => e = .returned (.tuple #[.int .u64 g, .int .i64 0]) ∧ w = w' := by
  have := hGen_ok _ w (hMk_le h).1 (hMk_le h).2 (hMk_ok h)
  rwa [hMk_div h] at this
theorem refSlot_mk (s g : Nat) (w : World) (h : mkOK s g) :
    Calls Tryd.prog 36 #[.int .u64 (hMk s g)] w fun e w' => e = .returned (.tuple #[.int .i64 s, .int .i64 0]) ∧ w = w' := by
  have := refSlot_ok _ w (hMk_le h).1 (hMk_le h).2 (hMk_ok h)
  rwa [hMk_mod h] at this
theorem refGen_mk (s g : Nat) (w : World) (h : mkOK s g) :
    Calls Tryd.prog 45 #[.int .u64 (hMk s g)] w fun e w' => e = .returned (.tuple #[.int .u64 g, .int .i64 0]) ∧ w = w' := by
  have := refGen_ok _ w (hMk_le h).1 (hMk_le h).2 (hMk_ok h)
  rwa [hMk_div h] at this

/-- what slot returns of a handle that is not live -/
def SlotNo (e : Ending) : Prop := ∃ a : Int, e = .returned (.tuple #[.int .i64 a, .bool false])

set_option maxRecDepth 100000 in
set_option maxHeartbeats 2000000 in
theorem slot_bad (b : LB) (x : FL) (h : Int) (w : World) (h0 : 0 ≤ h) (h1 : h ≤ 18446744073709551615) (hk : ¬ hOK h) (hl : IsL w b x) :
    Calls Tryd.prog 34 #[.pointer (some ⟨b.p, 0, none⟩), .int .u64 h] w fun e w' => SlotNo e ∧ ∃ n, w' = w.drewN n := by
  obtain ⟨l0, -⟩ := hl
  (have q0 := block_cell l0 0; have q1 := block_cell l0 1; have q2 := block_cell l0 2; have q3 := block_cell l0 3; have f0 := block_free l0 0; have f1 := block_free l0 1; have f2 := block_free l0 2; have f3 := block_free l0 3; have hz := block_lt l0; simp at q0 q1 q2 q3)
  clear l0
  go_enter Tryd.func34, Tryd.ntmps34
  go_wp2_with fail
  refine (hSlot_no _ _ h0 h1 hk).mono ?_; rintro e w1 ⟨rfl, rfl⟩
  go_wp2_with fail
  go_ret2
  exact ⟨⟨_, rfl⟩, 0, rfl⟩

set_option maxRecDepth 100000 in
set_option maxHeartbeats 2000000 in
theorem slot_high (b : LB) (x : FL) (s g : Nat) (w : World) (hk : mkOK s g) (hs : x.n ≤ s) (hl : IsL w b x) :
    Calls Tryd.prog 34 #[.pointer (some ⟨b.p, 0, none⟩), .int .u64 (hMk s g)] w fun e w' => SlotNo e ∧ ∃ n, w' = w.drewN n := by
  obtain ⟨l0, -⟩ := hl
  (have q0 := block_cell l0 0; have q1 := block_cell l0 1; have q2 := block_cell l0 2; have q3 := block_cell l0 3; have f0 := block_free l0 0; have f1 := block_free l0 1; have f2 := block_free l0 2; have f3 := block_free l0 3; have hz := block_lt l0; simp at q0 q1 q2 q3)
  clear l0
  have HK := Lib.hid hk
  clear hk
  go_enter Tryd.func34, Tryd.ntmps34
  go_wp2_with fail
  refine (hSlot_mk _ _ _ HK.out).mono ?_; rintro e w1 ⟨rfl, rfl⟩
  go_wp2_with fail
  go_ret2
  exact ⟨⟨_, rfl⟩, 0, rfl⟩

set_option maxRecDepth 100000 in
set_option maxHeartbeats 2000000 in
theorem slot_free (b : LB) (x : FL) (s g : Nat) (w : World) (hk : mkOK s g) (hs : s < x.n) (hst : x.st s ≠ 1) (hl : IsL w b x) :
    Calls Tryd.prog 34 #[.pointer (some ⟨b.p, 0, none⟩), .int .u64 (hMk s g)] w fun e w' => SlotNo e ∧ ∃ n, w' = w.drewN n := by
  obtain ⟨l0, l1, l2, l3⟩ := hl
  have c2 := l2.cell hs
  simp only [encS] at c2
  have hsi : ((s : Nat) : Int) < (x.n : Int) := by omega
  have hd : ((x.st s : Int) == 1) = false := by simp; omega
  have hd2 : ((x.st s : Int) != 1) = true := by simp; omega
  (have q0 := block_cell l0 0; have q1 := block_cell l0 1; have q2 := block_cell l0 2; have q3 := block_cell l0 3; have f0 := block_free l0 0; have f1 := block_free l0 1; have f2 := block_free l0 2; have f3 := block_free l0 3; have hz := block_lt l0; simp at q0 q1 q2 q3)
  clear l0 l1 l2 l3 hst
  have HK := Lib.hid hk
  clear hk
  go_enter Tryd.func34, Tryd.ntmps34
  go_wp2_with fail
  refine (hSlot_mk _ _ _ HK.out).mono ?_; rintro e w1 ⟨rfl, rfl⟩
  go_wp2_with fail
  go_ret2
  exact ⟨⟨_, rfl⟩, 0, rfl⟩

set_option maxRecDepth 100000 in
set_option maxHeartbeats 2000000 in
theorem slot_taken (b : LB) (x : FL) (s g : Nat) (w : World) (hk : mkOK s g) (hs : s < x.n) (hst : x.st s = 1) (hl : IsL w b x) :
    Calls Tryd.prog 34 #[.pointer (some ⟨b.p, 0, none⟩), .int .u64 (hMk s g)] w fun e w' => e = .returned (.tuple #[.int .i64 s, .bool ((g : Int) == (x.gn s : Int))]) ∧ ∃ n, w' = w.drewN n := by
  obtain ⟨l0, l1, l2, l3⟩ := hl
  have c2 := l2.cell hs
  have c3 := l3.cell hs
  simp only [encS, encU] at c2 c3
  rw [hst] at c2
  have hsi : ((s : Nat) : Int) < (x.n : Int) := by omega
  (have q0 := block_cell l0 0; have q1 := block_cell l0 1; have q2 := block_cell l0 2; have q3 := block_cell l0 3; have f0 := block_free l0 0; have f1 := block_free l0 1; have f2 := block_free l0 2; have f3 := block_free l0 3; have hz := block_lt l0; simp at q0 q1 q2 q3)
  clear l0 l1 l2 l3 hst
  have HK := Lib.hid hk
  clear hk
  go_enter Tryd.func34, Tryd.ntmps34
  go_wp2_with fail
  refine (hSlot_mk _ _ _ HK.out).mono ?_; rintro e w1 ⟨rfl, rfl⟩
  go_wp2_with fail
  refine (hGen_mk _ _ _ HK.out).mono ?_; rintro e w1 ⟨rfl, rfl⟩
  go_wp2_with fail
  go_quiet (fail)
  go_wp2_with fail
  go_ret2
  exact ⟨rfl, _, rfl⟩

theorem slot_live (b : LB) (x : FL) (s g : Nat) (w : World) (hk : mkOK s g) (hs : liveL x (hMk s g)) (hl : IsL w b x) :
    Calls Tryd.prog 34 #[.pointer (some ⟨b.p, 0, none⟩), .int .u64 (hMk s g)] w fun e w' => e = .returned (.tuple #[.int .i64 s, .bool true]) ∧ ∃ n, w' = w.drewN n := by
  obtain ⟨h1, h2, h3⟩ := (liveL_mk hk).1 hs
  have := slot_taken b x s g w hk h1 h2 hl
  rwa [show ((g : Int) == (x.gn s : Int)) = true by simp; omega] at this
theorem slot_dead (b : LB) (x : FL) (h : Int) (w : World) (h0 : 0 ≤ h) (h1 : h ≤ 18446744073709551615) (hd : ¬ liveL x h) (hl : IsL w b x) :
    Calls Tryd.prog 34 #[.pointer (some ⟨b.p, 0, none⟩), .int .u64 h] w fun e w' => SlotNo e ∧ ∃ n, w' = w.drewN n := by
  by_cases hk : hOK h
  · obtain ⟨s, g, hm, rfl⟩ := hOK_mk hk
    rw [liveL_mk hm] at hd
    by_cases c1 : s < x.n
    · by_cases c2 : x.st s = 1
      · have := slot_taken b x s g w hm c1 c2 hl
        rw [show ((g : Int) == (x.gn s : Int)) = false by simp; omega] at this
        exact this.mono fun e w' ⟨he, hw⟩ => ⟨⟨_, he⟩, hw⟩
      · exact slot_free b x s g w hm c1 c2 hl
    · exact slot_high b x s g w hm (by omega) hl
  · exact slot_bad b x h w h0 h1 hk hl
end Go.Proofs.YtpcpjmgkdbgopaaDoor
