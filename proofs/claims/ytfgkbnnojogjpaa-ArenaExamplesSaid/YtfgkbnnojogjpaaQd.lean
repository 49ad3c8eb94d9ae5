/- The arena: Free of the program. -/
import Derived.Test.YtfgkbnnojogjpaaQc
namespace Go.Proofs.Ytfgkbnnojogjpaa
open Go.RowKit

theorem own_p (B : PB) : B.own B.p := .inl rfl
theorem own_r (B : PB) : B.own B.r := .inr (.inl rfl)
/-- the list was turned -/
theorem IsA.list {w w1 : World} {B : PB} {A : AS} {y : FL} (h : IsA w B A) (k : KeepL B.lb w w1) (hl : IsL w1 B.lb y) (hn : y.n = A.x.n) : IsA w1 B { A with x := y } := by
  obtain ⟨n1, n2, n3⟩ := h.ne
  have hp := h.lt (.inl (own_p B))
  have hr := h.lt (.inl (own_r B))
  have np : B.p ≠ B.lb.p ∧ B.p ≠ B.lb.s ∧ B.p ≠ B.lb.t ∧ B.p ≠ B.lb.g := ⟨fun e => (n2 _ (.inl e)).1 rfl, fun e => (n2 _ (.inr (.inl e))).1 rfl, fun e => (n2 _ (.inr (.inr (.inl e)))).1 rfl, fun e => (n2 _ (.inr (.inr (.inr e)))).1 rfl⟩
  have nr : B.r ≠ B.lb.p ∧ B.r ≠ B.lb.s ∧ B.r ≠ B.lb.t ∧ B.r ≠ B.lb.g := ⟨fun e => (n2 _ (.inl e)).2 rfl, fun e => (n2 _ (.inr (.inl e))).2 rfl, fun e => (n2 _ (.inr (.inr (.inl e)))).2 rfl, fun e => (n2 _ (.inr (.inr (.inr e)))).2 rfl⟩
  obtain ⟨h0, l, es, clock, h2, h3⟩ := h
  refine ⟨?_, hl, es, clock, (k.2 _ hr nr.1 nr.2.1 nr.2.2.1 nr.2.2.2).trans h2, h3.keep fun q hq => ?_⟩
  · show w1.heap[B.p]? = some (.cells #[.int .i64 y.n, _, _, _, _, _] _ (0, 0))
    rw [hn]
    exact (k.2 _ hp np.1 np.2.1 np.2.2.1 np.2.2.2).trans h0
  · have hn := n3 q hq
    obtain ⟨cur, hc⟩ := hq
    exact k.2 q (block_lt hc) (fun e => hn (.inr (.inr (.inl e)))) (fun e => hn (.inr (.inr (.inr (.inl e))))) (fun e => hn (.inr (.inr (.inr (.inr (.inl e)))))) (fun e => hn (.inr (.inr (.inr (.inr (.inr e))))))
/-- a count is written -/
theorem IsA.count {w : World} {B : PB} {A A' : AS} (h : IsA w B A) (i : Nat) (v : Value) (hx : A'.x = A.x) (hi : A'.it = A.it)
    (hv : #[Value.int .i64 A.x.n, .pointer (some ⟨B.lb.p, 0, none⟩), .map (some B.r), .int .i64 A.al, .int .i64 A.fr, .int .i64 A.st].setIfInBounds i v = #[.int .i64 A.x.n, .pointer (some ⟨B.lb.p, 0, none⟩), .map (some B.r), .int .i64 A'.al, .int .i64 A'.fr, .int .i64 A'.st]) :
    IsA (w.setCell ⟨B.p, i, none⟩ v) B A' := by
  obtain ⟨n1, n2, n3⟩ := h.ne
  have np : B.lb.p ≠ B.p ∧ B.lb.s ≠ B.p ∧ B.lb.t ≠ B.p ∧ B.lb.g ≠ B.p := ⟨(n2 _ (.inl rfl)).1, (n2 _ (.inr (.inl rfl))).1, (n2 _ (.inr (.inr (.inl rfl)))).1, (n2 _ (.inr (.inr (.inr rfl)))).1⟩
  obtain ⟨h0, ⟨l0, l1, l2, l3⟩, es, clock, h2, h3⟩ := h
  refine ⟨?_, ?_, es, clock, ?_, ?_⟩
  · have := block_setCell h0 i v
    rw [hv] at this
    rw [hx]
    exact this
  · rw [hx]
    exact ⟨block_setCell_other l0 (p := ⟨B.p, i, none⟩) np.1.symm v, l1.other (p := ⟨B.p, i, none⟩) np.2.1.symm v, l2.other (p := ⟨B.p, i, none⟩) np.2.2.1.symm v, l3.other (p := ⟨B.p, i, none⟩) np.2.2.2.symm v⟩
  · exact (Below.heap_setCell _ _ _ _ (by show B.r ≠ B.p; exact n1.symm)).trans h2
  · rw [hi]
    exact h3.keep fun q hq => Below.heap_setCell _ _ _ _ (fun e => n3 q hq (.inl e))
/-- the map is laid anew -/
theorem IsA.map {w : World} {B : PB} {A : AS} (h : IsA w B A) {es' : Array MapEntry} {clock' : Nat} {it' : List (Int × Nd)} (he : Ents w es'.toList it') : IsA (setB w B.r (.map es' clock')) B { A with it := it' } := by
  obtain ⟨n1, n2, n3⟩ := h.ne
  obtain ⟨h0, ⟨l0, l1, l2, l3⟩, es, clock, h2, h3⟩ := h
  exact ⟨(setB_other w _ n1).trans h0, ⟨(setB_other w _ (n2 _ (.inl rfl)).2).trans l0, l1.keep (setB_other w _ (n2 _ (.inr (.inl rfl))).2), l2.keep (setB_other w _ (n2 _ (.inr (.inr (.inl rfl)))).2), l3.keep (setB_other w _ (n2 _ (.inr (.inr (.inr rfl)))).2)⟩,
    es', clock', setB_same h2, he.keep fun q hq => setB_other w _ (fun e => n3 q hq (.inr (.inl e)))⟩

def freeS (A : AS) (h : Int) : AS := if liveL A.x h then { A with x := giveS A.x h, it := delI A.it h, fr := A.fr + 1 } else { A with st := A.st + 1 }

set_option maxRecDepth 100000 in
set_option maxHeartbeats 2000000 in
theorem freeA_none (h : Int) (w : World) :
    Calls Try.prog 28 #[.pointer none, .int .u64 h] w fun e w' => e = .returned (.int .i64 1) ∧ w = w' := by
  go_enter Try.func28, Try.ntmps28
  go_wp2_with fail
  go_ret
  exact ⟨rfl, rfl⟩

set_option maxRecDepth 100000 in
set_option maxHeartbeats 2000000 in
theorem freeA_dead (B : PB) (A : AS) (h : Int) (w : World) (h0 : 0 ≤ h) (h1 : h ≤ 18446744073709551615) (ha : IsA w B A) (hd : ¬ liveL A.x h) (hb : A.st + 1 ≤ 9223372036854775807) :
    Calls Try.prog 28 #[.pointer (some ⟨B.p, 0, none⟩), .int .u64 h] w fun e w' => e = .returned (.int .i64 10) ∧ IsA w' B { A with st := A.st + 1 } ∧ KeepA B w w' := by
  have HG := Lib.hid (give_dead B.lb A.x h w h0 h1 hd ha.2.1)
  have HA := Lib.hid ha
  have hp := ha.1
  (have q0 := block_cell hp 0; have q1 := block_cell hp 1; have q2 := block_cell hp 2; have q3 := block_cell hp 3; have q4 := block_cell hp 4; have q5 := block_cell hp 5; have f0 := block_free hp 0; have f1 := block_free hp 1; have f2 := block_free hp 2; have f3 := block_free hp 3; have f4 := block_free hp 4; have f5 := block_free hp 5; have hz := block_lt hp; simp at q0 q1 q2 q3 q4 q5)
  clear hp ha hd
  go_enter Try.func28, Try.ntmps28
  go_wp2_with fail
  refine HG.out.mono ?_; rintro e w1 ⟨rfl, n, rfl⟩
  go_wp2_with fail
  go_ret
  exact ⟨rfl, (HA.out.drewN n).count 5 _ rfl rfl rfl, ((KeepA.refl B w).drewN n).set (own_p B) _ _⟩

set_option maxRecDepth 100000 in
set_option maxHeartbeats 2000000 in
theorem freeA_live (B : PB) (A : AS) (h : Int) (w : World) (h0 : 0 ≤ h) (h1 : h ≤ 18446744073709551615) (ha : IsA w B A) (hi : AInv A) (hd : liveL A.x h) (hb : A.fr + 1 ≤ 9223372036854775807) :
    Calls Try.prog 28 #[.pointer (some ⟨B.p, 0, none⟩), .int .u64 h] w fun e w' => e = .returned (.int .i64 0) ∧ IsA w' B { A with x := giveS A.x h, it := delI A.it h, fr := A.fr + 1 } ∧ KeepA B w w' := by
  have hga := give_any B.lb A.x h w h0 h1 ha.2.1 hi.f
  have hgr : (giveR A.x h).2 = 0 := by unfold giveR; rw [if_pos hd]
  rw [hgr] at hga
  have HG := Lib.hid hga
  have HA := Lib.hid ha
  have HM := Lib.hid ((hi.liv h).1 hd)
  have HND := Lib.hid hi.nd
  have hp := ha.1
  (have q0 := block_cell hp 0; have q1 := block_cell hp 1; have q2 := block_cell hp 2; have q3 := block_cell hp 3; have q4 := block_cell hp 4; have q5 := block_cell hp 5; have f0 := block_free hp 0; have f1 := block_free hp 1; have f2 := block_free hp 2; have f3 := block_free hp 3; have f4 := block_free hp 4; have f5 := block_free hp 5; have hz := block_lt hp; simp at q0 q1 q2 q3 q4 q5)
  clear hp ha hd hga hgr hi
  go_enter Try.func28, Try.ntmps28
  go_wp2_with fail
  refine HG.out.mono ?_; rintro e w1 ⟨rfl, t1, k1⟩
  have HA1 := Lib.hid (HA.out.list k1 t1 (giveS_n A.x h).1)
  have HK1 := Lib.hid (KeepA.of_list k1)
  clear t1 k1 q0 q1 q2 q3 q4 q5 f0 f1 f2 f3 f4 f5 hz
  obtain ⟨es, clock, hm, hents⟩ := HA1.out.2.2
  obtain ⟨es', hdel, hrun⟩ := del_yes (r := B.r) (clock := clock) hents HND.out HM.out
  have hrun1 := fun ty => hrun ty w1 hm
  have HA2 := Lib.hid (HA1.out.map (clock' := clock) (hdel w1 hents))
  have hp := HA1.out.1
  (have q0 := block_cell hp 0; have q1 := block_cell hp 1; have q2 := block_cell hp 2; have q3 := block_cell hp 3; have q4 := block_cell hp 4; have q5 := block_cell hp 5; have f0 := block_free hp 0; have f1 := block_free hp 1; have f2 := block_free hp 2; have f3 := block_free hp 3; have f4 := block_free hp 4; have f5 := block_free hp 5; have hz := block_lt hp; simp at q0 q1 q2 q3 q4 q5)
  clear hp
  have hp2 := HA2.out.1
  (have q0 := block_cell hp2 0; have q1 := block_cell hp2 1; have q2 := block_cell hp2 2; have q3 := block_cell hp2 3; have q4 := block_cell hp2 4; have q5 := block_cell hp2 5; have f0 := block_free hp2 0; have f1 := block_free hp2 1; have f2 := block_free hp2 2; have f3 := block_free hp2 3; have f4 := block_free hp2 4; have f5 := block_free hp2 5; have hz := block_lt hp2; simp at q0 q1 q2 q3 q4 q5)
  clear hp2 hm hents hdel hrun
  go_wp2_with fail
  go_ret
  exact ⟨rfl, HA2.out.count 4 _ rfl rfl rfl, (HK1.out.setB _).set (own_p B) _ _⟩
end Go.Proofs.Ytfgkbnnojogjpaa
