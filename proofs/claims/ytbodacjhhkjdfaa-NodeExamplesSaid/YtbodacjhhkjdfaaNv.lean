/- The contracts of CopyNode, of the reference's Leaf and Inner, of Inner, of x3 and is. -/
import Derived.Test.YtbodacjhhkjdfaaNt
import Derived.Test.YtbodacjhhkjdfaaRegB
namespace Go.Proofs.Ytbodacjhhkjdfaa
open Go.RowKit

theorem OwnKs.later {base : Nat} {w w' : World} {v : Value} {n : Nat} {l : List Kid} (h : OwnKs base w v n l) (hb : Below w.heap.size w w') : OwnKs base w' v n l := by
  obtain ⟨h1, h2, h3, h4⟩ := h
  refine ⟨h1, h2, h3, ?_⟩
  rcases h4 with h4 | ⟨g, cap, cur, hv, hg, hh, r⟩
  · exact Or.inl h4
  · exact Or.inr ⟨g, cap, cur, hv, hg, block_below hb hh (block_lt hh), r⟩
theorem Stab_ownKs (base n : Nat) (l : List Kid) (_ : True) : Stab (fun v u => OwnKs base u v n l) := fun _ _ _ h hb => h.later hb

set_option maxRecDepth 100000 in
set_option maxHeartbeats 2000000 in
theorem copyNode_any (x : Nd) (ao : Option Addr) (n c : Nat) (w : World) (hk : IsKs w ao n x.kids) (hreach : n * 32 ≤ 140737488351232) :
    Calls Try.prog 12 #[aggN x.h x.text ao n c] w fun e w' => ∃ v, e = .returned v ∧ OwnN w.heap.size w' v x ∧ Below w.heap.size w w' := by
  have hl := hk.1
  have HK := Lib.hid hk
  have HL := Lib.hid hl
  clear hl hk
  unfold aggN
  go_enter Try.func12, Try.ntmps12
  go_wp2_with fail
  have HB0 := Lib.hid (block_alloc (block_new w (.cells #[.int .i64 x.h, .string x.text, .slice ao n c] 24)) (.cells #[.int .i64 0, .string ⟨#[]⟩, .slice none 0 0] 24))
  have HB1 := Lib.hid (block_new' (w.alloc (.cells #[.int .i64 x.h, .string x.text, .slice ao n c] 24)) (.cells #[.int .i64 0, .string ⟨#[]⟩, .slice none 0 0] 24) (w.heap.size + 1) (by simp))
  refine wp_region_plan [.make, .make, .make, .make, .make, .make, .make, .make, .write 0] [0, 1, 2, 3, 4, 5, 6, 7] 1 (fun _ _ u => ∃ s, u.heap[w.heap.size + 1]? = some (.cells #[.int .i64 x.h, .string x.text, s] 24 (0, 0)) ∧ OwnKs (w.heap.size + 1 + 1) u s n x.kids ∧ Below w.heap.size w u) (by kernel_rfl) (by decide) (by kernel_rfl) (by kernel_rfl) (by kernel_rfl) (by kernel_rfl) (fun p vs vs' u h hE => hE) ?_
  simp only [fill, Act.put, List.setIfInBounds_toArray, List.set_cons_zero, List.set_cons_succ, Nat.zero_add, Nat.reduceAdd, List.zip_cons_cons, List.zip_nil_right]
  apply OpsIs.eq
  · intro vs u hb hd
    clear hd
    go_wp2_with fail
    exact ⟨rfl, _, rfl, Below.refl _ _, rfl⟩
  apply OpsIs.eq
  · intro vs u hb hd
    have e0 := hd ⟨0, .data⟩ (by simp) (by decide)
    simp at e0
    clear hd
    simp only [e0]
    have q := block_below hb HB0.out (block_lt HB0.out)
    have p0 := block_cell q 0
    have p1 := block_cell q 1
    have p2 := block_cell q 2
    simp at p0 p1 p2
    clear q
    go_wp2_with fail
    exact ⟨rfl, _, rfl, Below.refl _ _, rfl⟩
  apply OpsIs.eq
  · intro vs u hb hd
    clear hd
    go_wp2_with fail
    exact ⟨rfl, _, rfl, Below.refl _ _, rfl⟩
  apply OpsIs.eq
  · intro vs u hb hd
    have e2 := hd ⟨2, .data⟩ (by simp) (by decide)
    simp at e2
    clear hd
    simp only [e2]
    have q := block_below hb HB0.out (block_lt HB0.out)
    have p0 := block_cell q 0
    have p1 := block_cell q 1
    have p2 := block_cell q 2
    simp at p0 p1 p2
    clear q
    go_wp2_with fail
    exact ⟨rfl, _, rfl, Below.refl _ _, rfl⟩
  apply OpsIs.eq
  · intro vs u hb hd
    clear hd
    go_wp2_with fail
    exact ⟨rfl, _, rfl, Below.refl _ _, rfl⟩
  apply OpsIs.eq
  · intro vs u hb hd
    have e4 := hd ⟨4, .data⟩ (by simp) (by decide)
    simp at e4
    clear hd
    simp only [e4]
    have q := block_below hb HB0.out (block_lt HB0.out)
    have p0 := block_cell q 0
    have p1 := block_cell q 1
    have p2 := block_cell q 2
    simp at p0 p1 p2
    clear q
    go_wp2_with fail
    exact ⟨rfl, _, rfl, Below.refl _ _, rfl⟩
  refine OpsIs.step (fun v u => ∃ a c', v = .slice a n c' ∧ OwnKs (w.heap.size + 1 + 1) u (.slice a n c') n x.kids) (by rintro v u u' ⟨a, c', e, h⟩ hb; exact ⟨a, c', e, h.later hb⟩) ?_ ?_
  · intro vs u hb hd
    have e5 := hd ⟨5, .data⟩ (by simp) (by decide)
    simp at e5
    clear hd
    simp only [e5]
    have hk := HK.out.later ((((Below.refl _ _).alloc (Nat.le_refl _) _).alloc (by simp) _).trans (hb.mono (by simp; omega)))
    have HKK := Lib.hid hk
    clear hk
    go_wp2_with fail
    refine (copyKids_any x.kids ao n c _ HKK.out hreach).mono ?_; rintro e w1 ⟨v, rfl, hv, hb1⟩
    obtain ⟨a6, c6, rfl, _⟩ := hv.ks
    go_wp2_with fail
    exact ⟨rfl, _, rfl, hb1, _, _, rfl, hv.le (by have := hb.size; simp at this; omega)⟩
  refine OpsIs.step (fun v u => ∃ a c', v = .agg #[.int .i64 x.h, .string x.text, .slice a n c'] ∧ OwnKs (w.heap.size + 1 + 1) u (.slice a n c') n x.kids) (by rintro v u u' ⟨a, c', e, h⟩ hb; exact ⟨a, c', e, h.later hb⟩) ?_ ?_
  · intro vs u hb hd
    have e1 := hd ⟨1, .data⟩ (by simp) (by decide)
    simp at e1
    have e3 := hd ⟨3, .data⟩ (by simp) (by decide)
    simp at e3
    obtain ⟨a6, c6, e6, h6⟩ := hd ⟨6, .data⟩ (by simp) (by decide)
    clear hd
    simp only [e1, e3, e6]
    go_wp2_with fail
    exact ⟨rfl, _, rfl, Below.refl _ _, _, _, rfl, h6⟩
  refine OpsIs.first ?_ ?_
  · intro vs u hb hdis hd
    obtain ⟨ao7, cap7, ev, hs7⟩ := hd 7 (by simp)
    clear hd
    simp only [ev]
    have q := block_below hb HB1.out (block_lt HB1.out)
    have p0 := block_cell q 0
    have p1 := block_cell q 1
    have p2 := block_cell q 2
    have g0 := block_free q 0
    have g1 := block_free q 1
    have g2 := block_free q 2
    simp at p0 p1 p2
    have HQ := Lib.hid q
    have HS7 := Lib.hid hs7
    clear q hs7
    go_wp2_with fail
    exact ⟨rfl, undef, rfl, _, block_setCell (block_setCell (block_setCell HQ.out 0 _) 1 _) 2 _, (((HS7.out.setCell (by simp) _).setCell (by simp) _).setCell (by simp) _), (((below_step ((((Below.refl _ _).alloc (Nat.le_refl _) _).alloc (by simp) _)) hb).setCell (by simp) _).setCell (by simp) _).setCell (by simp) _⟩
  refine OpsIs.done ?_
  intro vs u hE hS
  clear hS
  obtain ⟨s, hb0, hs, hbe⟩ := hE
  have HB := Lib.hid hb0
  have HS := Lib.hid hs
  have HBE := Lib.hid hbe
  clear hb0 hs hbe
  go_wp2_with fail
  have hb0 := HB.out
  have hs := HS.out
  have hbe := HBE.out
  exact bodyPost_ret (res3 Try.results12 (Try.isAgg24 _) (Try.sizeOf24 _) rfl hb0) rfl ⟨_, rfl, ⟨s, rfl, by rw [HL.out]; exact hs.le (by omega)⟩, hbe⟩

set_option maxRecDepth 100000 in
set_option maxHeartbeats 2000000 in
theorem refLeaf_any (t : ByteArray) (w : World) :
    Calls Try.prog 38 #[.string t] w fun e w' => ∃ v, e = .returned (.tuple #[v, .int .i64 (checkN ⟨0, t, []⟩)]) ∧ OwnN w.heap.size w' v (resN ⟨0, t, []⟩) ∧ Below w.heap.size w w' := by
  have HK := Lib.hid (show ∀ u, IsKs u none 0 (Nd.mk 0 t []).kids from fun _ => ⟨rfl, by simp, fun h => absurd h (Nat.lt_irrefl _)⟩)
  by_cases hc : checkN ⟨0, t, []⟩ = 0
  · have e : resN ⟨0, t, []⟩ = ⟨0, t, []⟩ := if_pos hc
    rw [e, hc]
    have HC := Lib.hid hc
    clear hc
    clear e
    go_enter Try.func38, Try.ntmps38
    go_wp2_with fail
    refine (refCheck_any ⟨0, t, []⟩ none 0 0 _ (HK.out _)).mono ?_; rintro e w1 ⟨rfl, hb⟩
    rw [HC.out]
    obtain ⟨hbw, hb0, hb1⟩ := box2_later hb
    (have q0 := block_cell hb0 0; have q1 := block_cell hb0 1; have q2 := block_cell hb0 2; have f0 := block_free hb0 0; have f1 := block_free hb0 1; have f2 := block_free hb0 2; have hz := block_lt hb0; simp at q0 q1 q2)
    (have q0 := block_cell hb1 0; have q1 := block_cell hb1 1; have q2 := block_cell hb1 2; have f0 := block_free hb1 0; have f1 := block_free hb1 1; have f2 := block_free hb1 2; have hz := block_lt hb1; simp at q0 q1 q2)
    have HB0 := Lib.hid hb0
    have HBW := Lib.hid hbw
    clear hbw hb0
    clear hb hb1
    go_wp2_with fail
    have hb0 := block_setCell (block_setCell (block_setCell HB0.out 0 (.int .i64 0)) 1 (.string t)) 2 (.slice none 0 0)
    exact bodyPost_ret (res3_tmp Try.results38 (Try.isAgg24 _) (Try.sizeOf24 _) rfl hb0) rfl ⟨_, rfl, ⟨_, rfl, rfl, by simp, World.ownsRow_nil _ _ _ _⟩, ((HBW.out.setCell (by simp) _).setCell (by simp) _).setCell (by simp) _⟩
  · have e : resN ⟨0, t, []⟩ = noN := if_neg hc
    rw [e]
    have hc' : (checkN ⟨0, t, []⟩ == 0) = false := by simpa using hc
    clear e hc
    go_enter Try.func38, Try.ntmps38
    go_wp2_with fail
    refine (refCheck_any ⟨0, t, []⟩ none 0 0 _ (HK.out _)).mono ?_; rintro e w1 ⟨rfl, hb⟩
    obtain ⟨hbw, hb0, hb1⟩ := box2_later hb
    (have q0 := block_cell hb0 0; have q1 := block_cell hb0 1; have q2 := block_cell hb0 2; have f0 := block_free hb0 0; have f1 := block_free hb0 1; have f2 := block_free hb0 2; have hz := block_lt hb0; simp at q0 q1 q2)
    have HB0 := Lib.hid hb0
    have HBW := Lib.hid hbw
    clear hbw hb0
    clear hb hb1
    go_wp2_with fail
    have hb0 := block_setCell (block_setCell (block_setCell HB0.out 0 (.int .i64 0)) 1 (.string ⟨#[]⟩)) 2 (.slice none 0 0)
    exact bodyPost_ret (res3_tmp Try.results38 (Try.isAgg24 _) (Try.sizeOf24 _) rfl hb0) rfl ⟨_, rfl, ownN_none _ _, ((HBW.out.setCell (by simp) _).setCell (by simp) _).setCell (by simp) _⟩

set_option maxRecDepth 100000 in
set_option maxHeartbeats 2000000 in
theorem inner_make (h : Int) (l : List Kid) (ao : Option Addr) (n c : Nat) (w : World) (hk : IsKs w ao n l) (hno : ao = none → c = 0) (hreach : n * 32 ≤ 140737488351232) :
    Calls Try.prog 40 #[.int .i64 h, .slice ao n c] w fun e w' => ∃ v, e = .returned (.tuple #[v, .int .i64 (checkN ⟨h, ⟨#[]⟩, l⟩)]) ∧ OwnN w.heap.size w' v (resN ⟨h, ⟨#[]⟩, l⟩) ∧ Below w.heap.size w w' := by
  have HK := Lib.hid hk
  have HNO := Lib.hid hno
  clear hno hk
  go_enter Try.func40, Try.ntmps40
  go_wp2_with fail
  refine (checked_any ⟨h, ⟨#[]⟩, l⟩ ao n c _ (HK.out.box _) HNO.out hreach).mono ?_; rintro e w1 ⟨v, rfl, ⟨s, rfl, hs⟩, hb⟩
  obtain ⟨hbw, hb0⟩ := box_later hb
  (have q0 := block_cell hb0 0; have q1 := block_cell hb0 1; have q2 := block_cell hb0 2; have f0 := block_free hb0 0; have f1 := block_free hb0 1; have f2 := block_free hb0 2; have hz := block_lt hb0; simp at q0 q1 q2)
  obtain ⟨ao', cap', rfl, _⟩ := hs.ks
  have hlt := hb.size
  have HB0 := Lib.hid hb0
  have HBW := Lib.hid hbw
  have HS := Lib.hid hs
  clear hs hbw hb0
  clear hb
  go_wp2_with fail
  have hb0 := block_setCell (block_setCell (block_setCell HB0.out 0 (.int .i64 (resN ⟨h, ⟨#[]⟩, l⟩).h)) 1 (.string (resN ⟨h, ⟨#[]⟩, l⟩).text)) 2 (.slice ao' (resN ⟨h, ⟨#[]⟩, l⟩).kids.length cap')
  refine bodyPost_ret (res3_tmp Try.results40 (Try.isAgg24 _) (Try.sizeOf24 _) rfl hb0) rfl ⟨_, rfl, ⟨_, rfl, ?_⟩, ((HBW.out.setCell (by simp) _).setCell (by simp) _).setCell (by simp) _⟩
  exact (((HS.out.setCell (by show w.heap.size < _; simp) _).setCell (by show w.heap.size < _; simp) _).setCell (by show w.heap.size < _; simp) _).le (by simp)

set_option maxRecDepth 100000 in
set_option maxHeartbeats 2000000 in
theorem refInner_make (h : Int) (l : List Kid) (ao : Option Addr) (n c : Nat) (w : World) (hk : IsKs w ao n l) (hreach : n * 32 ≤ 140737488351232) :
    Calls Try.prog 41 #[.int .i64 h, .slice ao n c] w fun e w' => ∃ v, e = .returned (.tuple #[v, .int .i64 (checkN ⟨h, ⟨#[]⟩, l⟩)]) ∧ OwnN w.heap.size w' v (resN ⟨h, ⟨#[]⟩, l⟩) ∧ Below w.heap.size w w' := by
  have hl := hk.1
  have HK := Lib.hid hk
  have HL := Lib.hid hl
  clear hl hk
  by_cases hc : checkN ⟨h, ⟨#[]⟩, l⟩ = 0
  · have e : resN ⟨h, ⟨#[]⟩, l⟩ = ⟨h, ⟨#[]⟩, l⟩ := if_pos hc
    rw [e, hc]
    have HC := Lib.hid hc
    clear hc
    clear e
    go_enter Try.func41, Try.ntmps41
    go_wp2_with fail
    refine (copyKids_any l ao n c _ (HK.out.box _) hreach).mono ?_; rintro e w1 ⟨v, rfl, hv, hb⟩
    obtain ⟨ao', cap', rfl, hks, _⟩ := hv.ks
    obtain ⟨hbw, hb0⟩ := box_later hb
    have hsz := hbw.size
    have hlt := block_lt hb0
    have hba : Below w.heap.size w (w1.alloc (.cells #[.int .i64 h, .string ⟨#[]⟩, .slice ao' n cap'] 24)) := hbw.alloc hsz _
    have hb0a := block_alloc hb0 (.cells #[.int .i64 h, .string ⟨#[]⟩, .slice ao' n cap'] 24)
    have hb1a := block_new w1 (.cells #[.int .i64 h, .string ⟨#[]⟩, .slice ao' n cap'] 24)
    have hsz1 : w.heap.size + 1 ≤ w1.heap.size := by have := hb.size; simp at this; omega
    replace hv : OwnKs (w.heap.size + 1) w1 (.slice ao' n cap') n l := hv.le (by simp)
    have HKS := Lib.hid hks
    have HV := Lib.hid hv
    have HBA := Lib.hid hba
    have HB0A := Lib.hid hb0a
    have HB1A := Lib.hid hb1a
    clear hb1a hb0a hba hv hks
    clear hb hbw hb0
    go_wp2_with fail
    refine (refCheck_any ⟨h, ⟨#[]⟩, l⟩ ao' n cap' _ (HKS.out.box _)).mono ?_; rintro e w2 ⟨rfl, hb⟩
    rw [HC.out]
    have hb0 := block_below hb HB0A.out (block_lt HB0A.out)
    have hb1 := block_below hb HB1A.out (block_lt HB1A.out)
    (have q0 := block_cell hb0 0; have q1 := block_cell hb0 1; have q2 := block_cell hb0 2; have f0 := block_free hb0 0; have f1 := block_free hb0 1; have f2 := block_free hb0 2; have hz := block_lt hb0; simp at q0 q1 q2)
    (have q0 := block_cell hb1 0; have q1 := block_cell hb1 1; have q2 := block_cell hb1 2; have f0 := block_free hb1 0; have f1 := block_free hb1 1; have f2 := block_free hb1 2; have hz := block_lt hb1; simp at q0 q1 q2)
    have hbw := below_step HBA.out hb
    have hs := (show OwnKs (w.heap.size + 1) _ _ _ _ from ⟨HV.out.1, HV.out.2.1, HV.out.2.2.alloc (.cells #[.int .i64 h, .string ⟨#[]⟩, .slice ao' n cap'] 24)⟩ : OwnKs (w.heap.size + 1) (w1.alloc _) _ n l).later hb
    have HB0 := Lib.hid hb0
    have HBW := Lib.hid hbw
    have HS := Lib.hid hs
    clear hs hbw hb0
    clear hb hb1
    go_wp2_with fail
    have hb0 := block_setCell (block_setCell (block_setCell HB0.out 0 (.int .i64 h)) 1 (.string ⟨#[]⟩)) 2 (.slice ao' n cap')
    refine bodyPost_ret (res3_tmp Try.results41 (Try.isAgg24 _) (Try.sizeOf24 _) rfl hb0) rfl ⟨_, rfl, ⟨_, rfl, ?_⟩, ((HBW.out.setCell (by simp) _).setCell (by simp) _).setCell (by simp) _⟩
    show OwnKs _ _ _ l.length l
    rw [HL.out]
    exact (((HS.out.setCell (by show w.heap.size < _; simp) _).setCell (by show w.heap.size < _; simp) _).setCell (by show w.heap.size < _; simp) _).le (by simp)
  · have e : resN ⟨h, ⟨#[]⟩, l⟩ = noN := if_neg hc
    rw [e]
    have hc' : (checkN ⟨h, ⟨#[]⟩, l⟩ == 0) = false := by simpa using hc
    clear e hc
    go_enter Try.func41, Try.ntmps41
    go_wp2_with fail
    refine (copyKids_any l ao n c _ (HK.out.box _) hreach).mono ?_; rintro e w1 ⟨v, rfl, hv, hb⟩
    obtain ⟨ao', cap', rfl, hks, _⟩ := hv.ks
    obtain ⟨hbw, hb0⟩ := box_later hb
    have hsz := hbw.size
    have hlt := block_lt hb0
    have hba : Below w.heap.size w (w1.alloc (.cells #[.int .i64 h, .string ⟨#[]⟩, .slice ao' n cap'] 24)) := hbw.alloc hsz _
    have hb0a := block_alloc hb0 (.cells #[.int .i64 h, .string ⟨#[]⟩, .slice ao' n cap'] 24)
    have HKS := Lib.hid hks
    have HBA := Lib.hid hba
    have HB0A := Lib.hid hb0a
    clear hb0a hba hks
    clear hb hbw hb0 hv
    go_wp2_with fail
    refine (refCheck_any ⟨h, ⟨#[]⟩, l⟩ ao' n cap' _ (HKS.out.box _)).mono ?_; rintro e w2 ⟨rfl, hb⟩
    have hb0 := block_below hb HB0A.out (block_lt HB0A.out)
    (have q0 := block_cell hb0 0; have q1 := block_cell hb0 1; have q2 := block_cell hb0 2; have f0 := block_free hb0 0; have f1 := block_free hb0 1; have f2 := block_free hb0 2; have hz := block_lt hb0; simp at q0 q1 q2)
    have hbw := below_step HBA.out hb
    have HB0 := Lib.hid hb0
    have HBW := Lib.hid hbw
    clear hbw hb0
    clear hb
    go_wp2_with fail
    have hb0 := block_setCell (block_setCell (block_setCell HB0.out 0 (.int .i64 0)) 1 (.string ⟨#[]⟩)) 2 (.slice none 0 0)
    exact bodyPost_ret (res3_tmp Try.results41 (Try.isAgg24 _) (Try.sizeOf24 _) rfl hb0) rfl ⟨_, rfl, ownN_none _ _, ((HBW.out.setCell (by simp) _).setCell (by simp) _).setCell (by simp) _⟩

/-- the node of the chapter's examples -/
def x3N : Nd := ⟨1, ⟨#[]⟩, [(65536, 9, 8, 1), (65537, 8, 0, 0), (65538, 10, 10, 2)]⟩
set_option maxRecDepth 100000 in
set_option maxHeartbeats 2000000 in
theorem x3_any (w : World) : Calls Try.prog 57 #[] w fun e w' => ∃ v, e = .returned v ∧ OwnN w.heap.size w' v x3N ∧ Below w.heap.size w w' := by
  go_enter Try.func57, Try.ntmps57
  go_wp2_with fail
  have hb0 := block_alloc (block_new w (.cells #[.int .i64 1, .string ⟨#[]⟩, .slice (some ⟨w.heap.size + 1, 0, none⟩) 3 3] 24)) (.cells #[.int .u64 65536, .int .i64 9, .int .i64 8, .int .i64 1, .int .u64 65537, .int .i64 8, .int .i64 0, .int .i64 0, .int .u64 65538, .int .i64 10, .int .i64 10, .int .i64 2] 49)
  refine bodyPost_ret (res3 Try.results57 (Try.isAgg24 _) (Try.sizeOf24 _) rfl hb0) rfl ⟨_, rfl, ⟨_, rfl, rfl, ?_, rfl, .inr ⟨_, 3, _, rfl, ?_, block_new' _ _ _ (by simp), by decide, by unfold maxLen; omega, rfl, rfl⟩⟩, by go_grown⟩
  · intro x hx
    simp only [x3N, List.mem_cons, List.not_mem_nil, or_false] at hx
    rcases hx with rfl | rfl | rfl <;> simp
  · omega

set_option maxRecDepth 100000 in
set_option maxHeartbeats 2000000 in
theorem is_yes (i r e : Int) (w : World) : Calls Try.prog 58 #[.int .i64 i, .int .i64 r, .int .i64 e, .agg #[.int .i64 i, .int .i64 r], .int .i64 e] w fun e' w' => e' = .returned (.bool true) ∧ Below w.heap.size w w' := by
  go_enter Try.func58, Try.ntmps58
  go_wp2_with fail
  go_ret
  exact ⟨rfl, by go_grown⟩
end Go.Proofs.Ytbodacjhhkjdfaa
