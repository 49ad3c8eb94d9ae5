/- The freelist: Live, Gen of the program; Give, where nothing is pushed. -/
import Derived.Test.YtpcpjmgkdbgopaaDoorFd
namespace Go.Proofs.YtpcpjmgkdbgopaaDoor
open Go.RowKit

set_option maxRecDepth 100000 in
set_option maxHeartbeats 2000000 in
theorem live_none (h : Int) (w : World) :
    Calls Tryd.prog 24 #[.pointer none, .int .u64 h] w fun e w' => e = .returned (.bool false) ∧ w = w' := by
  go_enter Tryd.func24, Tryd.ntmps24
  go_wp2_with fail
  go_ret
  exact ⟨rfl, rfl⟩

set_option maxRecDepth 100000 in
set_option maxHeartbeats 2000000 in
theorem live_any (b : LB) (x : FL) (h : Int) (w : World) (h0 : 0 ≤ h) (h1 : h ≤ 18446744073709551615) (hl : IsL w b x) :
    Calls Tryd.prog 24 #[.pointer (some ⟨b.p, 0, none⟩), .int .u64 h] w fun e w' => e = .returned (.bool (decide (liveL x h))) ∧ ∃ n, w' = w.drewN n := by
  by_cases hd : liveL x h
  · obtain ⟨s, g, hm, rfl⟩ := hOK_mk hd.1
    have ed : decide (liveL x (hMk s g)) = true := decide_eq_true hd
    rw [ed]
    have HS := Lib.hid (slot_live b x s g w hm hd hl)
    clear hd hl ed
    go_enter Tryd.func24, Tryd.ntmps24
    go_wp2_with fail
    refine HS.out.mono ?_; rintro e w1 ⟨rfl, n, rfl⟩
    go_wp2_with fail
    go_ret
    exact ⟨rfl, _, rfl⟩
  · have ed : decide (liveL x h) = false := decide_eq_false hd
    rw [ed]
    have HS := Lib.hid (slot_dead b x h w h0 h1 hd hl)
    clear hd hl ed
    go_enter Tryd.func24, Tryd.ntmps24
    go_wp2_with fail
    refine HS.out.mono ?_; rintro e w1 ⟨⟨a, rfl⟩, n, rfl⟩
    go_wp2_with fail
    go_ret
    exact ⟨rfl, _, rfl⟩

set_option maxRecDepth 100000 in
set_option maxHeartbeats 2000000 in
theorem give_none (h : Int) (w : World) :
    Calls Tryd.prog 15 #[.pointer none, .int .u64 h] w fun e w' => e = .returned (.tuple #[.bool false, .int .i64 1]) ∧ w = w' := by
  go_enter Tryd.func15, Tryd.ntmps15
  go_wp2_with fail
  go_ret2
  exact ⟨rfl, rfl⟩

set_option maxRecDepth 100000 in
set_option maxHeartbeats 2000000 in
theorem give_dead (b : LB) (x : FL) (h : Int) (w : World) (h0 : 0 ≤ h) (h1 : h ≤ 18446744073709551615) (hd : ¬ liveL x h) (hl : IsL w b x) :
    Calls Tryd.prog 15 #[.pointer (some ⟨b.p, 0, none⟩), .int .u64 h] w fun e w' => e = .returned (.tuple #[.bool false, .int .i64 10]) ∧ ∃ n, w' = w.drewN n := by
  have HS := Lib.hid (slot_dead b x h w h0 h1 hd hl)
  clear hd hl
  go_enter Tryd.func15, Tryd.ntmps15
  go_wp2_with fail
  refine HS.out.mono ?_; rintro e w1 ⟨⟨a, rfl⟩, n, rfl⟩
  go_wp2_with fail
  go_ret2
  exact ⟨rfl, _, rfl⟩

theorem give_last_isL {w : World} {b : LB} {x : FL} (h : IsL w b x) {s : Nat} (hs : s < x.n) (hg : x.gn s = x.most) (n : Nat) :
    IsL ((w.drewN n).setCell ⟨b.t, s, none⟩ (.int .u8 2)) b (giveL x s) := by
  obtain ⟨e1, e2, e3, e4, e5, e6⟩ := isL_ne h
  obtain ⟨h0, h1, h2, h3⟩ := h.drewN n
  unfold giveL
  rw [if_pos hg]
  refine ⟨block_setCell_other h0 (p := ⟨b.t, s, none⟩) (Ne.symm e2) _, h1.other (p := ⟨b.t, s, none⟩) (Ne.symm e4) _, ?_, h3.other (p := ⟨b.t, s, none⟩) e6 _⟩
  refine (h2.set hs (.int .u8 2)).congr fun i _ => ?_
  show _ = encS (updN x.st s 2 i)
  unfold updN
  split <;> rfl

set_option maxRecDepth 100000 in
set_option maxHeartbeats 2000000 in
theorem give_last (b : LB) (x : FL) (s g : Nat) (w : World) (hm : mkOK s g) (hd : liveL x (hMk s g)) (hl : IsL w b x) (hg : x.gn s = x.most) :
    Calls Tryd.prog 15 #[.pointer (some ⟨b.p, 0, none⟩), .int .u64 (hMk s g)] w fun e w' => e = .returned (.tuple #[.bool true, .int .i64 0]) ∧ IsL w' b (giveL x s) ∧ KeepL b w w' := by
  have HS := Lib.hid (slot_live b x s g w hm hd hl)
  have HL := Lib.hid hl
  obtain ⟨s1, s2, s3⟩ := (liveL_mk hm).1 hd
  obtain ⟨l0, l1, l2, l3⟩ := hl
  have c2 := l2.cell s1
  have c3 := l3.cell s1
  have f2' := l2.free s
  simp only [encS, encU] at c2 c3
  have hsi : ((s : Nat) : Int) < (x.n : Int) := by omega
  rw [hg] at c3
  (have q0 := block_cell l0 0; have q1 := block_cell l0 1; have q2 := block_cell l0 2; have q3 := block_cell l0 3; have f0 := block_free l0 0; have f1 := block_free l0 1; have f2 := block_free l0 2; have f3 := block_free l0 3; have hz := block_lt l0; simp at q0 q1 q2 q3)
  clear l0 l1 l2 l3 hd hm s2 s3
  have HG := Lib.hid hg
  clear hg
  go_enter Tryd.func15, Tryd.ntmps15
  go_wp2_with fail
  refine HS.out.mono ?_; rintro e w1 ⟨rfl, n, rfl⟩
  go_wp2_with fail
  go_quiet (fail)
  go_wp2_with fail
  go_ret2
  exact ⟨rfl, give_last_isL HL.out s1 HG.out _, ((KeepL.refl b w).drewN _).set (.inr (.inr (.inl rfl))) _ _⟩
end Go.Proofs.YtpcpjmgkdbgopaaDoor
