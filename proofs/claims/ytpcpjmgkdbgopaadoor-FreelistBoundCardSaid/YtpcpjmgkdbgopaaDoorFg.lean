/- The freelist: Live and Give of the reference. -/
import Derived.Test.YtpcpjmgkdbgopaaDoorFf
namespace Go.Proofs.YtpcpjmgkdbgopaaDoor
open Go.RowKit

set_option maxRecDepth 100000 in
set_option maxHeartbeats 2000000 in
theorem refLive_none (h : Int) (w : World) :
    Calls Tryd.prog 35 #[.pointer none, .int .u64 h] w fun e w' => e = .returned (.bool false) ∧ ∃ n, w' = w.drewN n := by
  go_enter Tryd.func35, Tryd.ntmps35
  go_wp2_with fail
  go_ret
  exact ⟨rfl, 0, rfl⟩

set_option maxRecDepth 100000 in
set_option maxHeartbeats 2000000 in
theorem refLive_bad (b : YB) (x : FL) (h : Int) (w : World) (h0 : 0 ≤ h) (h1 : h ≤ 18446744073709551615) (hk : ¬ hOK h) (hl : IsY w b x) :
    Calls Tryd.prog 35 #[.pointer (some ⟨b.p, 0, none⟩), .int .u64 h] w fun e w' => e = .returned (.bool false) ∧ ∃ n, w' = w.drewN n := by
  obtain ⟨l0, -⟩ := hl
  (have q0 := block_cell l0 0; have q1 := block_cell l0 1; have q2 := block_cell l0 2; have q3 := block_cell l0 3; have f0 := block_free l0 0; have f1 := block_free l0 1; have f2 := block_free l0 2; have f3 := block_free l0 3; have hz := block_lt l0; simp at q0 q1 q2 q3)
  clear l0
  go_enter Tryd.func35, Tryd.ntmps35
  go_wp2_with fail
  refine (refSlot_no _ _ h0 h1 hk).mono ?_; rintro e w1 ⟨rfl, rfl⟩
  go_wp2_with fail
  go_ret
  exact ⟨rfl, 0, rfl⟩

set_option maxRecDepth 100000 in
set_option maxHeartbeats 2000000 in
theorem refLive_high (b : YB) (x : FL) (s g : Nat) (w : World) (hk : mkOK s g) (hs : x.n ≤ s) (hl : IsY w b x) :
    Calls Tryd.prog 35 #[.pointer (some ⟨b.p, 0, none⟩), .int .u64 (hMk s g)] w fun e w' => e = .returned (.bool false) ∧ ∃ n, w' = w.drewN n := by
  obtain ⟨l0, -⟩ := hl
  (have q0 := block_cell l0 0; have q1 := block_cell l0 1; have q2 := block_cell l0 2; have q3 := block_cell l0 3; have f0 := block_free l0 0; have f1 := block_free l0 1; have f2 := block_free l0 2; have f3 := block_free l0 3; have hz := block_lt l0; simp at q0 q1 q2 q3)
  clear l0
  have HK := Lib.hid hk
  clear hk
  go_enter Tryd.func35, Tryd.ntmps35
  go_wp2_with fail
  refine (refSlot_mk _ _ _ HK.out).mono ?_; rintro e w1 ⟨rfl, rfl⟩
  go_wp2_with fail
  go_ret
  exact ⟨rfl, 0, rfl⟩

set_option maxRecDepth 100000 in
set_option maxHeartbeats 2000000 in
theorem refLive_free (b : YB) (x : FL) (s g : Nat) (w : World) (hk : mkOK s g) (hs : s < x.n) (hst : x.st s ≠ 1) (hl : IsY w b x) :
    Calls Tryd.prog 35 #[.pointer (some ⟨b.p, 0, none⟩), .int .u64 (hMk s g)] w fun e w' => e = .returned (.bool false) ∧ ∃ n, w' = w.drewN n := by
  obtain ⟨l0, l1, l2, l3, -⟩ := hl
  have c2 := l2.cell hs
  simp only [encI] at c2
  have hsi : ((s : Nat) : Int) < (x.n : Int) := by omega
  have hd : ((x.st s : Int) == 1) = false := by simp; omega
  have hd2 : ((x.st s : Int) != 1) = true := by simp; omega
  (have q0 := block_cell l0 0; have q1 := block_cell l0 1; have q2 := block_cell l0 2; have q3 := block_cell l0 3; have f0 := block_free l0 0; have f1 := block_free l0 1; have f2 := block_free l0 2; have f3 := block_free l0 3; have hz := block_lt l0; simp at q0 q1 q2 q3)
  clear l0 l1 l2 l3 hst
  have HK := Lib.hid hk
  clear hk
  go_enter Tryd.func35, Tryd.ntmps35
  go_wp2_with fail
  refine (refSlot_mk _ _ _ HK.out).mono ?_; rintro e w1 ⟨rfl, rfl⟩
  go_wp2_with fail
  go_ret
  exact ⟨rfl, 0, rfl⟩

set_option maxRecDepth 100000 in
set_option maxHeartbeats 2000000 in
theorem refLive_taken (b : YB) (x : FL) (s g : Nat) (w : World) (hk : mkOK s g) (hs : s < x.n) (hst : x.st s = 1) (hl : IsY w b x) :
    Calls Tryd.prog 35 #[.pointer (some ⟨b.p, 0, none⟩), .int .u64 (hMk s g)] w fun e w' => e = .returned (.bool ((g : Int) == (x.gn s : Int))) ∧ ∃ n, w' = w.drewN n := by
  obtain ⟨l0, l1, l2, l3, -⟩ := hl
  have c2 := l2.cell hs
  have c3 := l3.cell hs
  simp only [encI, encU] at c2 c3
  rw [hst] at c2
  have hsi : ((s : Nat) : Int) < (x.n : Int) := by omega
  (have q0 := block_cell l0 0; have q1 := block_cell l0 1; have q2 := block_cell l0 2; have q3 := block_cell l0 3; have f0 := block_free l0 0; have f1 := block_free l0 1; have f2 := block_free l0 2; have f3 := block_free l0 3; have hz := block_lt l0; simp at q0 q1 q2 q3)
  clear l0 l1 l2 l3 hst
  have HK := Lib.hid hk
  clear hk
  go_enter Tryd.func35, Tryd.ntmps35
  go_wp2_with fail
  refine (refSlot_mk _ _ _ HK.out).mono ?_; rintro e w1 ⟨rfl, rfl⟩
  go_wp2_with fail
  refine (refGen_mk _ _ _ HK.out).mono ?_; rintro e w1 ⟨rfl, rfl⟩
  go_wp2_with fail
  go_ret
  exact ⟨rfl, 0, rfl⟩

theorem refLive_any (b : YB) (x : FL) (h : Int) (w : World) (h0 : 0 ≤ h) (h1 : h ≤ 18446744073709551615) (hl : IsY w b x) :
    Calls Tryd.prog 35 #[.pointer (some ⟨b.p, 0, none⟩), .int .u64 h] w fun e w' => e = .returned (.bool (decide (liveL x h))) ∧ ∃ n, w' = w.drewN n := by
  by_cases hk : hOK h
  · obtain ⟨s, g, hm, rfl⟩ := hOK_mk hk
    by_cases c1 : s < x.n
    · by_cases c2 : x.st s = 1
      · have := refLive_taken b x s g w hm c1 c2 hl
        rwa [show ((g : Int) == (x.gn s : Int)) = decide (liveL x (hMk s g)) by
          by_cases c3 : g = x.gn s
          · rw [decide_eq_true ((liveL_mk hm).2 ⟨c1, c2, c3⟩)]; simp [c3]
          · rw [decide_eq_false (fun k => c3 ((liveL_mk hm).1 k).2.2)]; simp; omega] at this
      · have := refLive_free b x s g w hm c1 c2 hl
        rwa [show false = decide (liveL x (hMk s g)) from (decide_eq_false (by rw [liveL_mk hm]; omega)).symm] at this
    · have := refLive_high b x s g w hm (by omega) hl
      rwa [show false = decide (liveL x (hMk s g)) from (decide_eq_false (by rw [liveL_mk hm]; omega)).symm] at this
  · have := refLive_bad b x h w h0 h1 hk hl
    rwa [show false = decide (liveL x h) from (decide_eq_false (fun k => hk k.1)).symm] at this

set_option maxRecDepth 100000 in
set_option maxHeartbeats 2000000 in
theorem refGive_none (h : Int) (w : World) :
    Calls Tryd.prog 16 #[.pointer none, .int .u64 h] w fun e w' => e = .returned (.tuple #[.bool false, .int .i64 1]) ∧ w = w' := by
  go_enter Tryd.func16, Tryd.ntmps16
  go_wp2_with fail
  go_ret2
  exact ⟨rfl, rfl⟩

set_option maxRecDepth 100000 in
set_option maxHeartbeats 2000000 in
theorem refGive_dead (b : YB) (x : FL) (h : Int) (w : World) (h0 : 0 ≤ h) (h1 : h ≤ 18446744073709551615) (hd : ¬ liveL x h) (hl : IsY w b x) :
    Calls Tryd.prog 16 #[.pointer (some ⟨b.p, 0, none⟩), .int .u64 h] w fun e w' => e = .returned (.tuple #[.bool false, .int .i64 10]) ∧ ∃ n, w' = w.drewN n := by
  have HS := refLive_any b x h w h0 h1 hl
  rw [decide_eq_false hd] at HS
  have HS := Lib.hid HS
  clear hd hl
  go_enter Tryd.func16, Tryd.ntmps16
  go_wp2_with fail
  refine HS.out.mono ?_; rintro e w1 ⟨rfl, n, rfl⟩
  go_wp2_with fail
  go_ret2
  exact ⟨rfl, _, rfl⟩

theorem refGive_last_isY {w : World} {b : YB} {x : FL} (h : IsY w b x) {s : Nat} (hs : s < x.n) (hg : x.gn s = x.most) (n : Nat) :
    IsY ((w.drewN n).setCell ⟨b.t, s, none⟩ (.int .i64 2)) b (giveL x s) := by
  obtain ⟨h0, h1, h2, h3, e4, hc⟩ := h.drewN n
  obtain ⟨e1, e2, e3, e5, e6⟩ := isY_ne ⟨h0, h1, h2, h3⟩
  unfold giveL
  rw [if_pos hg]
  refine ⟨block_setCell_other h0 (p := ⟨b.t, s, none⟩) (Ne.symm e2) _, h1.other (p := ⟨b.t, s, none⟩) (Ne.symm e4) _, ?_, h3.other (p := ⟨b.t, s, none⟩) e6 _, e4, hc⟩
  refine (h2.set hs (.int .i64 2)).congr fun i _ => ?_
  show _ = encI (updN x.st s 2 i)
  unfold updN
  split <;> rfl

set_option maxRecDepth 100000 in
set_option maxHeartbeats 2000000 in
theorem refGive_last (b : YB) (x : FL) (s g : Nat) (w : World) (hm : mkOK s g) (hd : liveL x (hMk s g)) (hl : IsY w b x) (hg : x.gn s = x.most) :
    Calls Tryd.prog 16 #[.pointer (some ⟨b.p, 0, none⟩), .int .u64 (hMk s g)] w fun e w' => e = .returned (.tuple #[.bool true, .int .i64 0]) ∧ IsY w' b (giveL x s) ∧ KeepL b.toLB w w' := by
  have HS := refLive_any b x (hMk s g) w (hMk_le hm).1 (hMk_le hm).2 hl
  rw [decide_eq_true hd] at HS
  have HS := Lib.hid HS
  have HL := Lib.hid hl
  obtain ⟨s1, s2, s3⟩ := (liveL_mk hm).1 hd
  obtain ⟨l0, l1, l2, l3, -⟩ := hl
  have c2 := l2.cell s1
  have c3 := l3.cell s1
  have f2' := l2.free s
  simp only [encI, encU] at c2 c3
  have hsi : ((s : Nat) : Int) < (x.n : Int) := by omega
  rw [hg] at c3
  (have q0 := block_cell l0 0; have q1 := block_cell l0 1; have q2 := block_cell l0 2; have q3 := block_cell l0 3; have f0 := block_free l0 0; have f1 := block_free l0 1; have f2 := block_free l0 2; have f3 := block_free l0 3; have hz := block_lt l0; simp at q0 q1 q2 q3)
  clear l0 l1 l2 l3 hd s2 s3
  have HG := Lib.hid hg
  have HM := Lib.hid hm
  clear hm hg
  go_enter Tryd.func16, Tryd.ntmps16
  go_wp2_with fail
  refine HS.out.mono ?_; rintro e w1 ⟨rfl, n, rfl⟩
  go_wp2_with fail
  refine (refSlot_mk _ _ _ HM.out).mono ?_; rintro e w1 ⟨rfl, rfl⟩
  go_wp2_with fail
  go_quiet (fail)
  go_wp2_with fail
  go_ret2
  exact ⟨rfl, refGive_last_isY HL.out s1 HG.out _, ((KeepL.refl b.toLB w).drewN _).set (.inr (.inr (.inl rfl))) _ _⟩
end Go.Proofs.YtpcpjmgkdbgopaaDoor
