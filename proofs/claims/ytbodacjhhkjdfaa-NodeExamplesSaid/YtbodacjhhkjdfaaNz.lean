/- The law NodeEquals: its walk. -/
import Derived.Test.YtbodacjhhkjdfaaNy
import Derived.Test.YtbodacjhhkjdfaaRegU
namespace Go.Proofs.Ytbodacjhhkjdfaa
open Go.RowKit

theorem OwnKs.setNode {base : Nat} {w : World} {v : Value} {n : Nat} {l : List Kid} (h : OwnKs base w v n l) {b i : Nat} {cs : Array Value} {fr : Nat × Nat} (hb : w.heap[b]? = some (.cells cs 24 fr)) (u : Value) : OwnKs base (w.setCell ⟨b, i, none⟩ u) v n l := by
  obtain ⟨h1, h2, h3, h4⟩ := h
  refine ⟨h1, h2, h3, ?_⟩
  rcases h4 with h4 | ⟨g, cap, cur, hv, hg, hh, r⟩
  · exact Or.inl h4
  · refine Or.inr ⟨g, cap, cur, hv, hg, block_setCell_other hh (p := ⟨b, i, none⟩) (fun e => ?_) u, r⟩
    simp only at e
    rw [e, hh] at hb
    injection hb with hb
    injection hb with _ hb
    exact absurd hb (by decide)
theorem OwnKs.setNode3 {base : Nat} {w : World} {v : Value} {n : Nat} {l : List Kid} (h : OwnKs base w v n l) {b : Nat} {cs : Array Value} {fr : Nat × Nat} (hb : w.heap[b]? = some (.cells cs 24 fr)) (u0 u1 u2 : Value) :
    OwnKs base (((w.setCell ⟨b, 0, none⟩ u0).setCell ⟨b, 1, none⟩ u1).setCell ⟨b, 2, none⟩ u2) v n l :=
  ((h.setNode hb u0).setNode (block_setCell hb 0 u0) u1).setNode (block_setCell (block_setCell hb 0 u0) 1 u1) u2

def TwoN (x y : Nd) (ao bo : Option Addr) (n m c d : Nat) (w : World) (p : Nat) (vs : Nat → Value) (u : World) : Prop :=
  ∃ b4 b5 ax cx ay cy, vs 4 = .pointer (some ⟨b4, 0, none⟩) ∧ vs 5 = .pointer (some ⟨b5, 0, none⟩) ∧ vs 3 = .agg #[.int .i64 y.h, .string y.text, .slice ay m cy] ∧ b4 ≠ b5 ∧ (w.heap.size + 1 + 1) ≤ b4 ∧ (w.heap.size + 1 + 1) ≤ b5 ∧ u.heap[b4]? = some (.cells #[.int .i64 x.h, .string x.text, .slice ax n cx] 24 (0, 0)) ∧ u.heap[b5]? = some (if p = 1 then (.cells #[.int .i64 0, .string ⟨#[]⟩, .slice none 0 0] 24 (0, 0)) else (.cells #[.int .i64 y.h, .string y.text, .slice ay m cy] 24 (0, 0))) ∧ OwnKs (w.heap.size + 1 + 1) u (.slice ax n cx) n x.kids ∧ OwnKs (w.heap.size + 1 + 1) u (.slice ay m cy) m y.kids ∧ Below (w.heap.size + 1 + 1) ((w.alloc (.cells #[.int .i64 x.h, .string x.text, .slice ao n c] 24)).alloc (.cells #[.int .i64 y.h, .string y.text, .slice bo m d] 24)) u
set_option maxRecDepth 100000 in
set_option maxHeartbeats 4000000 in
theorem walk_equals (x y : Nd) (ao bo : Option Addr) (n c m d : Nat) (w : World) (hk : IsKs w ao n x.kids) (hm : IsKs w bo m y.kids) (hreach : n * 32 ≤ 140737488351232) (hreach2 : m * 32 ≤ 140737488351232) :
    Calls Try.prog 5 #[aggN x.h x.text ao n c, aggN y.h y.text bo m d] w fun e w' => e = .returned (.bool true) ∧ Below w.heap.size w w' := by
  have hlx := hk.1
  have hly := hm.1
  have hn63 : n ≤ 9223372036854775807 := by omega
  have hm63 : m ≤ 9223372036854775807 := by omega
  have hsym : decide (y = x) = decide (x = y) := decide_eq_decide.2 ⟨fun h => h.symm, fun h => h.symm⟩
  have HK := Lib.hid hk
  have HM := Lib.hid hm
  have HLX := Lib.hid hlx
  have HLY := Lib.hid hly
  have HSYM := Lib.hid hsym
  clear hsym hly hlx hm hk
  unfold aggN
  go_enter Try.func5, Try.ntmps5
  go_wp2_with fail
  have HBA := Lib.hid (block_alloc (block_new w (.cells #[.int .i64 x.h, .string x.text, .slice ao n c] 24)) (.cells #[.int .i64 y.h, .string y.text, .slice bo m d] 24))
  have HBB := Lib.hid (block_new' (w.alloc (.cells #[.int .i64 x.h, .string x.text, .slice ao n c] 24)) (.cells #[.int .i64 y.h, .string y.text, .slice bo m d] 24) (w.heap.size + 1) (by simp))
  refine wp_region_plan [.make, .make, .make, .make, .fresh, .fresh, .write 0, .write 1] [0, 1, 2, 3, 4, 5] 2 (TwoN x y ao bo n m c d w) (by kernel_rfl) (by decide) (by kernel_rfl) (by kernel_rfl) (by kernel_rfl) (by kernel_rfl) (fun p vs vs' u h hE => by unfold TwoN at hE ⊢; rw [← h 4 (by decide), ← h 5 (by decide), ← h 3 (by decide)] at hE; exact hE) ?_
  simp only [fill, Act.put, List.setIfInBounds_toArray, List.set_cons_zero, List.set_cons_succ, Nat.zero_add, Nat.reduceAdd, List.zip_cons_cons, List.zip_nil_right]
  apply OpsIs.eq
  · intro vs u hb hd
    clear hd
    have q := block_below hb HBA.out (block_lt HBA.out)
    have p0 := block_cell q 0
    have p1 := block_cell q 1
    have p2 := block_cell q 2
    simp at p0 p1 p2
    clear q
    go_wp2_with fail
    exact ⟨rfl, _, rfl, Below.refl _ _, rfl⟩
  refine OpsIs.step (fun v u => ∃ a c', v = .agg #[.int .i64 x.h, .string x.text, .slice a n c'] ∧ OwnKs (w.heap.size + 1 + 1) u (.slice a n c') n x.kids) (by rintro v u u' ⟨a, c', e, h⟩ hb; exact ⟨a, c', e, h.later hb⟩) ?_ ?_
  · intro vs u hb hd
    have e0 := hd ⟨0, .data⟩ (by simp) (by decide)
    simp at e0
    clear hd
    simp only [e0]
    have hk := HK.out.later ((((Below.refl _ _).alloc (Nat.le_refl _) _).alloc (by simp) _).trans (hb.mono (by simp; omega)))
    have HKK := Lib.hid hk
    clear hk
    go_wp2_with fail
    refine (copyNode_any x _ n _ _ HKK.out hreach).mono ?_; rintro e w1 ⟨v, rfl, ⟨s, rfl, hs⟩, hb1⟩; obtain ⟨a6, c6, rfl, _⟩ := hs.ks; go_wp2_with fail; exact ⟨rfl, _, rfl, hb1, a6, c6, by rw [HLX.out], by have h := hs.le (base' := (w.heap.size + 1 + 1)) (by have := hb.size; simp at this; omega); rw [HLX.out] at h; exact h⟩
  apply OpsIs.eq
  · intro vs u hb hd
    clear hd
    have q := block_below hb HBB.out (block_lt HBB.out)
    have p0 := block_cell q 0
    have p1 := block_cell q 1
    have p2 := block_cell q 2
    simp at p0 p1 p2
    clear q
    go_wp2_with fail
    exact ⟨rfl, _, rfl, Below.refl _ _, rfl⟩
  refine OpsIs.step (fun v u => ∃ a c', v = .agg #[.int .i64 y.h, .string y.text, .slice a m c'] ∧ OwnKs (w.heap.size + 1 + 1) u (.slice a m c') m y.kids) (by rintro v u u' ⟨a, c', e, h⟩ hb; exact ⟨a, c', e, h.later hb⟩) ?_ ?_
  · intro vs u hb hd
    have e2 := hd ⟨2, .data⟩ (by simp) (by decide)
    simp at e2
    obtain ⟨ax, cx, ex, hx⟩ := hd ⟨1, .chain⟩ (by simp) (by decide)
    clear hd
    simp only [e2, ex]
    have hk := HM.out.later ((((Below.refl _ _).alloc (Nat.le_refl _) _).alloc (by simp) _).trans (hb.mono (by simp; omega)))
    have HKK := Lib.hid hk
    clear hk
    go_wp2_with fail
    refine (copyNode_any y _ m _ _ HKK.out hreach2).mono ?_; rintro e w1 ⟨v, rfl, ⟨s, rfl, hs⟩, hb1⟩; obtain ⟨a6, c6, rfl, _⟩ := hs.ks; go_wp2_with fail; exact ⟨rfl, _, rfl, hb1, a6, c6, by rw [HLY.out], by have h := hs.le (base' := (w.heap.size + 1 + 1)) (by have := hb.size; simp at this; omega); rw [HLY.out] at h; exact h⟩
  refine OpsIs.fresh (PtrTo (w.heap.size + 1 + 1) (.cells #[.int .i64 0, .string ⟨#[]⟩, .slice none 0 0] 24)) (Stab_ptr _ _) ?_ ?_
  · intro vs u hb hd
    clear hd
    go_wp2_with fail
    exact ⟨rfl, u.heap.size, Nat.le_refl _, by simp, rfl, (Below.refl _ _).alloc (Nat.le_refl _) _, _, rfl, by have := hb.size; simpa using this, block_new _ _⟩
  refine OpsIs.fresh (PtrTo (w.heap.size + 1 + 1) (.cells #[.int .i64 0, .string ⟨#[]⟩, .slice none 0 0] 24)) (Stab_ptr _ _) ?_ ?_
  · intro vs u hb hd
    clear hd
    go_wp2_with fail
    exact ⟨rfl, u.heap.size, Nat.le_refl _, by simp, rfl, (Below.refl _ _).alloc (Nat.le_refl _) _, _, rfl, by have := hb.size; simpa using this, block_new _ _⟩
  refine OpsIs.first ?_ ?_
  · intro vs u hb hdis hd
    obtain ⟨ax, cx, ex, hx⟩ := hd 1 (by simp)
    obtain ⟨ay, cy, ey, hy⟩ := hd 3 (by simp)
    obtain ⟨b4, hv4, hge4, hbl4⟩ := hd 4 (by simp)
    obtain ⟨b5, hv5, hge5, hbl5⟩ := hd 5 (by simp)
    clear hd
    simp only [ex, ey, hv4, hv5]
    have hne : b4 ≠ b5 := fun e => hdis 4 5 (by decide) rfl rfl (by rw [hv4, hv5, e])
    have p0 := block_cell hbl4 0
    have p1 := block_cell hbl4 1
    have p2 := block_cell hbl4 2
    have f0 := block_free hbl4 0
    have f1 := block_free hbl4 1
    have f2 := block_free hbl4 2
    simp at p0 p1 p2
    have hlt := block_lt hbl4
    have HX := Lib.hid hx
    have HY := Lib.hid hy
    have HL4 := Lib.hid hbl4
    have HL5 := Lib.hid hbl5
    have HV4 := Lib.hid hv4
    have HV5 := Lib.hid hv5
    have HVY := Lib.hid ey
    clear hx hy hbl4 hbl5 hv4 hv5 ey
    go_wp2_with fail
    exact ⟨rfl, undef, rfl, by unfold TwoN; exact ⟨b4, b5, ax, cx, ay, cy, HV4.out, HV5.out, HVY.out, hne, hge4, hge5, block_setCell (block_setCell (block_setCell HL4.out 0 _) 1 _) 2 _, (by rw [if_pos rfl]; exact block_setCell_other (block_setCell_other (block_setCell_other HL5.out (p := ⟨b4, 0, none⟩) hne _) (p := ⟨b4, 1, none⟩) hne _) (p := ⟨b4, 2, none⟩) hne _), OwnKs.setNode3 HX.out HL4.out _ _ _, OwnKs.setNode3 HY.out HL4.out _ _ _, (((hb.mono (by simp)).setCell hge4 _).setCell hge4 _).setCell hge4 _⟩⟩
  refine OpsIs.next ?_ ?_
  · intro vs u hE hd
    obtain ⟨_, e0⟩ := hd ⟨0, .phase⟩ (by simp) (by decide)
    simp at e0
    obtain ⟨_, e2⟩ := hd ⟨2, .phase⟩ (by simp) (by decide)
    simp at e2
    obtain ⟨b4, b5, ax, cx, ay, cy, hv4, hv5, hv3, hne, hge4, hge5, hx4, hx5, hox, hoy, hbe⟩ := hE
    clear hd
    simp only [e0, e2, hv5, hv3]
    rw [if_pos rfl] at hx5
    have p0 := block_cell hx5 0
    have p1 := block_cell hx5 1
    have p2 := block_cell hx5 2
    have f0 := block_free hx5 0
    have f1 := block_free hx5 1
    have f2 := block_free hx5 2
    simp at p0 p1 p2
    have hlt := block_lt hx5
    have HX4 := Lib.hid hx4
    have HX5 := Lib.hid hx5
    have HOX := Lib.hid hox
    have HOY := Lib.hid hoy
    have HV4 := Lib.hid hv4
    have HV5 := Lib.hid hv5
    have HV3 := Lib.hid hv3
    have HBE := Lib.hid hbe
    clear hx4 hx5 hox hoy hv4 hv5 hv3 hbe
    go_wp2_with fail
    exact ⟨rfl, undef, rfl, by unfold TwoN; exact ⟨b4, b5, ax, cx, ay, cy, HV4.out, HV5.out, HV3.out, hne, hge4, hge5, block_setCell_other (block_setCell_other (block_setCell_other HX4.out (p := ⟨b5, 0, none⟩) hne.symm _) (p := ⟨b5, 1, none⟩) hne.symm _) (p := ⟨b5, 2, none⟩) hne.symm _, (by rw [if_neg (by decide)]; exact block_setCell (block_setCell (block_setCell HX5.out 0 _) 1 _) 2 _), OwnKs.setNode3 HOX.out HX5.out _ _ _, OwnKs.setNode3 HOY.out HX5.out _ _ _, ((HBE.out.setCell hge5 _).setCell hge5 _).setCell hge5 _⟩⟩
  refine OpsIs.done ?_
  intro vs u hE hS
  clear hS
  obtain ⟨b4, b5, ax, cx, ay, cy, hv4, hv5, hv3, hne, hge4, hge5, hx4, hx5, hox, hoy, hbe⟩ := hE
  rw [if_neg (by decide)] at hx5
  simp only [hv4, hv5]
  have HBE := Lib.hid (((((Below.refl _ _).alloc (Nat.le_refl _) _).alloc (by simp) _).trans (hbe.mono (by omega))) : Below w.heap.size w u)
  have HA0 := Lib.hid (block_below hbe HBA.out (by omega))
  have HB0 := Lib.hid (block_below hbe HBB.out (by omega))
  have HKA := Lib.hid (HK.out.later HBE.out)
  have HKB := Lib.hid (HM.out.later HBE.out)
  obtain ⟨_, _, e1, hxx, _⟩ := hox.ks
  injection e1 with e1 _ e3
  subst e1 e3
  obtain ⟨_, _, e1, hyy, _⟩ := hoy.ks
  injection e1 with e1 _ e3
  subst e1 e3
  have HX := Lib.hid hxx
  have HY := Lib.hid hyy
  have H4 := Lib.hid hx4
  have H5 := Lib.hid hx5
  clear hv4 hv5 hv3 hx4 hx5 hox hoy hbe hxx hyy
  go_wp2_with fail
  refine wp_region_specs (by kernel_rfl) (by decide) (by kernel_rfl) ?_
  simp only [fill, Act.put, List.setIfInBounds_toArray, List.set_cons_zero, List.set_cons_succ, Nat.zero_add, Nat.reduceAdd]
  apply OpsOK.eq
  · intro vs u hb hd
    clear hd
    have q := block_below hb H4.out (block_lt H4.out)
    have p0 := block_cell q 0
    have p1 := block_cell q 1
    have p2 := block_cell q 2
    simp at p0 p1 p2
    clear q
    go_wp2_with fail
    exact ⟨rfl, _, rfl, Below.refl _ _, rfl⟩
  apply OpsOK.eq
  · intro vs u hb hd
    clear hd
    have q := block_below hb H5.out (block_lt H5.out)
    have p0 := block_cell q 0
    have p1 := block_cell q 1
    have p2 := block_cell q 2
    simp at p0 p1 p2
    clear q
    go_wp2_with fail
    exact ⟨rfl, _, rfl, Below.refl _ _, rfl⟩
  apply OpsOK.eq
  · intro vs u hb hd
    simp [Region.binds] at hd
    obtain ⟨e0, e1⟩ := hd
    simp only [e0, e1]
    have hkx := HX.out.later hb
    have hky := HY.out.later hb
    have hka := HKA.out.later hb
    have hkb := HKB.out.later hb
    have HKX := Lib.hid hkx
    have HKY := Lib.hid hky
    have HA := Lib.hid hka
    have HB' := Lib.hid hkb
    clear hkx hky hka hkb
    go_wp2_with fail
    refine (equal_any x y _ _ n m _ _ _ HKX.out HKY.out hn63).mono ?_; rintro e w' ⟨rfl, hbel⟩; go_wp2_with fail; exact ⟨rfl, _, rfl, hbel, rfl⟩
  apply OpsOK.eq
  · intro vs u hb hd
    clear hd
    have q := block_below hb HA0.out (block_lt HA0.out)
    have p0 := block_cell q 0
    have p1 := block_cell q 1
    have p2 := block_cell q 2
    simp at p0 p1 p2
    clear q
    go_wp2_with fail
    exact ⟨rfl, _, rfl, Below.refl _ _, rfl⟩
  apply OpsOK.eq
  · intro vs u hb hd
    clear hd
    have q := block_below hb HB0.out (block_lt HB0.out)
    have p0 := block_cell q 0
    have p1 := block_cell q 1
    have p2 := block_cell q 2
    simp at p0 p1 p2
    clear q
    go_wp2_with fail
    exact ⟨rfl, _, rfl, Below.refl _ _, rfl⟩
  apply OpsOK.eq
  · intro vs u hb hd
    simp [Region.binds] at hd
    obtain ⟨e3, e4, e2⟩ := hd
    simp only [e3, e4, e2]
    have hkx := HX.out.later hb
    have hky := HY.out.later hb
    have hka := HKA.out.later hb
    have hkb := HKB.out.later hb
    have HKX := Lib.hid hkx
    have HKY := Lib.hid hky
    have HA := Lib.hid hka
    have HB' := Lib.hid hkb
    clear hkx hky hka hkb
    go_wp2_with fail
    refine (refEqual_any x y _ _ n m _ _ _ HA.out HB'.out hn63).mono ?_; rintro e w' ⟨rfl, hbel⟩; go_wp2_with fail; exact ⟨rfl, _, rfl, hbel, rfl⟩
  apply OpsOK.eq
  · intro vs u hb hd
    simp [Region.binds] at hd
    obtain ⟨e2, e5⟩ := hd
    simp only [e2, e5]
    go_wp2_with fail
    exact ⟨rfl, _, rfl, Below.refl _ _, rfl⟩
  apply OpsOK.eq
  · intro vs u hb hd
    simp [Region.binds] at hd
    obtain ⟨e6, e5⟩ := hd
    simp only [e6, e5]
    go_wp2_with fail
    exact ⟨rfl, _, rfl, Below.refl _ _, rfl⟩
  apply OpsOK.eq
  · intro vs u hb hd
    simp [Region.binds] at hd
    have e7 := hd
    clear hd
    simp only [e7]
    have q := block_below hb H4.out (block_lt H4.out)
    have p0 := block_cell q 0
    have p1 := block_cell q 1
    have p2 := block_cell q 2
    simp at p0 p1 p2
    clear q
    go_wp2_with fail
    exact ⟨rfl, _, rfl, Below.refl _ _, rfl⟩
  apply OpsOK.eq
  · intro vs u hb hd
    simp [Region.binds] at hd
    have e7 := hd
    clear hd
    simp only [e7]
    have q := block_below hb H4.out (block_lt H4.out)
    have p0 := block_cell q 0
    have p1 := block_cell q 1
    have p2 := block_cell q 2
    simp at p0 p1 p2
    clear q
    go_wp2_with fail
    exact ⟨rfl, _, rfl, Below.refl _ _, rfl⟩
  apply OpsOK.eq
  · intro vs u hb hd
    simp [Region.binds] at hd
    obtain ⟨e8, e9, e7⟩ := hd
    simp only [e8, e9, e7]
    have hkx := HX.out.later hb
    have hky := HY.out.later hb
    have hka := HKA.out.later hb
    have hkb := HKB.out.later hb
    have HKX := Lib.hid hkx
    have HKY := Lib.hid hky
    have HA := Lib.hid hka
    have HB' := Lib.hid hkb
    clear hkx hky hka hkb
    go_wp2_with fail
    refine (equal_any x x _ _ n n _ _ _ HKX.out HKX.out hn63).mono ?_; rintro e w' ⟨rfl, hbel⟩; rw [decide_eq_true rfl]; go_wp2_with fail; exact ⟨rfl, _, rfl, hbel, rfl⟩
  apply OpsOK.eq
  · intro vs u hb hd
    simp [Region.binds] at hd
    obtain ⟨e7, e10⟩ := hd
    simp only [e7, e10]
    go_wp2_with fail
    exact ⟨rfl, _, rfl, Below.refl _ _, rfl⟩
  apply OpsOK.eq
  · intro vs u hb hd
    simp [Region.binds] at hd
    obtain ⟨e11, e10⟩ := hd
    simp only [e11, e10]
    go_wp2_with fail
    exact ⟨rfl, _, rfl, Below.refl _ _, rfl⟩
  apply OpsOK.eq
  · intro vs u hb hd
    simp [Region.binds] at hd
    have e12 := hd
    clear hd
    simp only [e12]
    have q := block_below hb H5.out (block_lt H5.out)
    have p0 := block_cell q 0
    have p1 := block_cell q 1
    have p2 := block_cell q 2
    simp at p0 p1 p2
    clear q
    go_wp2_with fail
    exact ⟨rfl, _, rfl, Below.refl _ _, rfl⟩
  apply OpsOK.eq
  · intro vs u hb hd
    simp [Region.binds] at hd
    have e12 := hd
    clear hd
    simp only [e12]
    have q := block_below hb H4.out (block_lt H4.out)
    have p0 := block_cell q 0
    have p1 := block_cell q 1
    have p2 := block_cell q 2
    simp at p0 p1 p2
    clear q
    go_wp2_with fail
    exact ⟨rfl, _, rfl, Below.refl _ _, rfl⟩
  apply OpsOK.eq
  · intro vs u hb hd
    simp [Region.binds] at hd
    obtain ⟨e13, e14, e12⟩ := hd
    simp only [e13, e14, e12]
    have hkx := HX.out.later hb
    have hky := HY.out.later hb
    have hka := HKA.out.later hb
    have hkb := HKB.out.later hb
    have HKX := Lib.hid hkx
    have HKY := Lib.hid hky
    have HA := Lib.hid hka
    have HB' := Lib.hid hkb
    clear hkx hky hka hkb
    go_wp2_with fail
    refine (equal_any y x _ _ m n _ _ _ HKY.out HKX.out hm63).mono ?_; rintro e w' ⟨rfl, hbel⟩; rw [HSYM.out]; go_wp2_with fail; exact ⟨rfl, _, rfl, hbel, rfl⟩
  apply OpsOK.eq
  · intro vs u hb hd
    simp [Region.binds] at hd
    have e12 := hd
    clear hd
    simp only [e12]
    have q := block_below hb H4.out (block_lt H4.out)
    have p0 := block_cell q 0
    have p1 := block_cell q 1
    have p2 := block_cell q 2
    simp at p0 p1 p2
    clear q
    go_wp2_with fail
    exact ⟨rfl, _, rfl, Below.refl _ _, rfl⟩
  apply OpsOK.eq
  · intro vs u hb hd
    simp [Region.binds] at hd
    have e12 := hd
    clear hd
    simp only [e12]
    have q := block_below hb H5.out (block_lt H5.out)
    have p0 := block_cell q 0
    have p1 := block_cell q 1
    have p2 := block_cell q 2
    simp at p0 p1 p2
    clear q
    go_wp2_with fail
    exact ⟨rfl, _, rfl, Below.refl _ _, rfl⟩
  apply OpsOK.eq
  · intro vs u hb hd
    simp [Region.binds] at hd
    obtain ⟨e16, e17, e15, e12⟩ := hd
    simp only [e16, e17, e15, e12]
    have hkx := HX.out.later hb
    have hky := HY.out.later hb
    have hka := HKA.out.later hb
    have hkb := HKB.out.later hb
    have HKX := Lib.hid hkx
    have HKY := Lib.hid hky
    have HA := Lib.hid hka
    have HB' := Lib.hid hkb
    clear hkx hky hka hkb
    go_wp2_with fail
    refine (equal_any x y _ _ n m _ _ _ HKX.out HKY.out hn63).mono ?_; rintro e w' ⟨rfl, hbel⟩; go_wp2_with fail; exact ⟨rfl, _, rfl, hbel, rfl⟩
  apply OpsOK.eq
  · intro vs u hb hd
    simp [Region.binds] at hd
    obtain ⟨e15, e18, e12⟩ := hd
    simp only [e15, e18, e12]
    go_wp2_with fail
    exact ⟨rfl, _, rfl, Below.refl _ _, rfl⟩
  apply OpsOK.eq
  · intro vs u hb hd
    simp [Region.binds] at hd
    obtain ⟨e12, e19⟩ := hd
    simp only [e12, e19]
    go_wp2_with fail
    exact ⟨rfl, _, rfl, Below.refl _ _, rfl⟩
  apply OpsOK.eq
  · intro vs u hb hd
    simp [Region.binds] at hd
    obtain ⟨e20, e18⟩ := hd
    simp only [e20, e18]
    go_wp2_with fail
    exact ⟨rfl, _, rfl, Below.refl _ _, rfl⟩
  apply OpsOK.eq
  · intro vs u hb hd
    simp [Region.binds] at hd
    have e21 := hd
    clear hd
    simp only [e21]
    go_wp2_with fail
    refine (awake_any _).mono ?_; rintro e w' ⟨rfl, hbel⟩; go_wp2_with fail; exact ⟨rfl, _, rfl, hbel, rfl⟩
  apply OpsOK.eq
  · intro vs u hb hd
    simp [Region.binds] at hd
    obtain ⟨e21, e22⟩ := hd
    simp only [e21, e22]
    go_wp2_with fail
    exact ⟨rfl, _, rfl, Below.refl _ _, rfl⟩
  apply OpsOK.eq
  · intro vs u hb hd
    simp [Region.binds] at hd
    obtain ⟨e23, e22, e0, e1, e2, e3, e4, e5, e6, e7, e8, e9, e10, e11, e12, e13, e14, e15, e16, e17, e18, e19, e20, e21, e22, e23⟩ := hd
    simp only [e23, e22, e0, e1, e2, e3, e4, e5, e6, e7, e8, e9, e10, e11, e12, e13, e14, e15, e16, e17, e18, e19, e20, e21]
    go_wp2_with fail
    exact ⟨rfl, _, rfl, Below.refl _ _, rfl⟩
  refine OpsOK.done ?_
  intro vs u2 hbu hS
  have h24 := hS 24 (by decide)
  simp at h24
  simp only [h24]
  clear h24
  clear hS
  have HBU := Lib.hid (below_step HBE.out hbu)
  clear hbu
  go_wp2_with fail
  go_ret
  exact ⟨rfl, HBU.out⟩
end Go.Proofs.Ytbodacjhhkjdfaa
