/- The contracts of checked, Leaf and Inner. -/
import Derived.Test.YtbodacjhhkjdfaaNo
namespace Go.Proofs.Ytbodacjhhkjdfaa
open Go.RowKit

/-- the value is a node with children in its own memory -/
def OwnN (base : Nat) (w : World) (v : Value) (x : Nd) : Prop := ∃ s, v = .agg #[.int .i64 x.h, .string x.text, s] ∧ OwnKs base w s x.kids.length x.kids
def noN : Nd := ⟨0, ⟨#[]⟩, []⟩
def resN (x : Nd) : Nd := if checkN x = 0 then x else noN
theorem ownN_none (base : Nat) (w : World) : OwnN base w (.agg #[.int .i64 0, .string ⟨#[]⟩, .slice none 0 0]) noN :=
  ⟨_, rfl, rfl, by intro x hx; exact absurd hx (by simp [noN]), World.ownsRow_nil _ _ _ _⟩

theorem OwnKs.le {base base' : Nat} {w : World} {v : Value} {n : Nat} {l : List Kid} (h : OwnKs base w v n l) (hb : base' ≤ base) : OwnKs base' w v n l := by
  obtain ⟨h1, h2, hl, h3⟩ := h
  refine ⟨h1, h2, hl, ?_⟩
  rcases h3 with h3 | ⟨g, cap, cur, e, hb', rest⟩
  · exact .inl h3
  · exact .inr ⟨g, cap, cur, e, by omega, rest⟩
theorem OwnKs.setCell {base : Nat} {w : World} {v : Value} {n : Nat} {l : List Kid} (h : OwnKs base w v n l) {a : Addr} (ha : a.block < base) (u : Value) : OwnKs base (w.setCell a u) v n l :=
  ⟨h.1, h.2.1, ownsRow_setCell_below h.2.2 ha u⟩

set_option maxRecDepth 100000 in
set_option maxHeartbeats 2000000 in
theorem checked_any (x : Nd) (ao : Option Addr) (n c : Nat) (w : World) (hk : IsKs w ao n x.kids) (hno : ao = none → c = 0) (hreach : n * 32 ≤ 140737488351232) :
    Calls Try.prog 68 #[aggN x.h x.text ao n c] w fun e w' => ∃ v, e = .returned (.tuple #[v, .int .i64 (checkN x)]) ∧ OwnN w.heap.size w' v (resN x) ∧ Below w.heap.size w w' := by
  have HK := Lib.hid hk
  have HNO := Lib.hid hno
  have hl := hk.1
  have HL := Lib.hid hl
  clear hk hl hno
  unfold aggN
  by_cases hc : checkN x = 0
  · have e : resN x = x := if_pos hc
    rw [e, hc]
    have HC := Lib.hid hc
    clear e hc
    go_enter Try.func68, Try.ntmps68
    go_wp2_with fail
    refine (check_any x ao n c _ ((HK.out.box _).box _)).mono ?_; rintro e w1 ⟨rfl, hb⟩
    rw [HC.out]
    obtain ⟨hbw, hb0, hb1⟩ := box2_later hb
    (have q0 := block_cell hb0 0; have q1 := block_cell hb0 1; have q2 := block_cell hb0 2; have f0 := block_free hb0 0; have f1 := block_free hb0 1; have f2 := block_free hb0 2; have hz := block_lt hb0; simp at q0 q1 q2)
    have HB0 := Lib.hid hb0
    have HB1 := Lib.hid hb1
    have HBW := Lib.hid hbw
    clear hb hb0 hb1 hbw
    go_wp2_with fail
    refine (clone_any x.kids ao n c _ (HK.out.later HBW.out) HNO.out hreach).mono ?_; rintro e w2 ⟨v, rfl, hv, hb⟩
    obtain ⟨h1, h2, h3⟩ := hv
    obtain ⟨ao', cap', rfl, _⟩ := OwnKs.ks ⟨h1, h2, h3⟩
    have hb0 := block_below hb HB0.out (block_lt HB0.out)
    (have q0 := block_cell hb0 0; have q1 := block_cell hb0 1; have q2 := block_cell hb0 2; have f0 := block_free hb0 0; have f1 := block_free hb0 1; have f2 := block_free hb0 2; have hz := block_lt hb0; simp at q0 q1 q2)
    have hb2 := block_setCell hb0 2 (.slice ao' n cap')
    (have q0 := block_cell hb2 0; have q1 := block_cell hb2 1; have q2 := block_cell hb2 2; have f0 := block_free hb2 0; have f1 := block_free hb2 1; have f2 := block_free hb2 2; have hz := block_lt hb2; simp at q0 q1 q2)
    have hb3 := block_setCell_other (block_below hb HB1.out (block_lt HB1.out)) (p := ⟨w.heap.size, 2, none⟩) (by simp) (.slice ao' n cap')
    (have q0 := block_cell hb3 0; have q1 := block_cell hb3 1; have q2 := block_cell hb3 2; have f0 := block_free hb3 0; have f1 := block_free hb3 1; have f2 := block_free hb3 2; have hz := block_lt hb3; simp at q0 q1 q2)
    have HB3 := Lib.hid hb3
    have hsz1 : w.heap.size + 1 < w1.heap.size := block_lt HB1.out
    have hown : OwnKs w1.heap.size w2 (.slice ao' n cap') n x.kids := ⟨h1, h2, h3⟩
    have HOWN := Lib.hid hown
    have HB := Lib.hid (below_step HBW.out hb)
    clear h1 h2 h3 hb hb0 hb2 hb3 hown
    go_wp2_with fail
    have hb0 := block_setCell (block_setCell (block_setCell HB3.out 0 (.int .i64 x.h)) 1 (.string x.text)) 2 (.slice ao' n cap')
    refine bodyPost_ret (res3_tmp Try.results68 (Try.isAgg24 _) (Try.sizeOf24 _) rfl hb0) rfl ⟨_, rfl, ⟨_, rfl, ?_⟩, (((HB.out.setCell (by simp) _).setCell (by simp) _).setCell (by simp) _).setCell (by simp) _⟩
    rw [HL.out]
    exact ((((HOWN.out.setCell (by show w.heap.size < _; omega) _).setCell (by show w.heap.size + 1 < _; omega) _).setCell (by show w.heap.size + 1 < _; omega) _).setCell (by show w.heap.size + 1 < _; omega) _).le (by omega)
  · have e : resN x = noN := if_neg hc
    rw [e]
    have hc' : (checkN x == 0) = false := by simpa using hc
    clear e hc
    go_enter Try.func68, Try.ntmps68
    go_wp2_with fail
    refine (check_any x ao n c _ ((HK.out.box _).box _)).mono ?_; rintro e w1 ⟨rfl, hb⟩
    obtain ⟨hbw, hb0, hb1⟩ := box2_later hb
    (have q0 := block_cell hb1 0; have q1 := block_cell hb1 1; have q2 := block_cell hb1 2; have f0 := block_free hb1 0; have f1 := block_free hb1 1; have f2 := block_free hb1 2; have hz := block_lt hb1; simp at q0 q1 q2)
    have HB1 := Lib.hid hb1
    have HBW := Lib.hid hbw
    clear hb hb0 hb1 hbw
    go_wp2_with fail
    have hb0 := block_setCell (block_setCell (block_setCell HB1.out 0 (.int .i64 0)) 1 (.string ⟨#[]⟩)) 2 (.slice none 0 0)
    exact bodyPost_ret (res3_tmp Try.results68 (Try.isAgg24 _) (Try.sizeOf24 _) rfl hb0) rfl ⟨_, rfl, ownN_none _ _, ((HBW.out.setCell (by simp) _).setCell (by simp) _).setCell (by simp) _⟩

set_option maxRecDepth 100000 in
set_option maxHeartbeats 2000000 in
theorem leaf_any (t : ByteArray) (w : World) :
    Calls Try.prog 37 #[.string t] w fun e w' => ∃ v, e = .returned (.tuple #[v, .int .i64 (checkN ⟨0, t, []⟩)]) ∧ OwnN w.heap.size w' v (resN ⟨0, t, []⟩) ∧ Below w.heap.size w w' := by
  have HK := Lib.hid (show ∀ u, IsKs u none 0 (Nd.mk 0 t []).kids from fun _ => ⟨rfl, by simp, fun h => absurd h (Nat.lt_irrefl _)⟩)
  go_enter Try.func37, Try.ntmps37
  go_wp2_with fail
  refine (checked_any ⟨0, t, []⟩ none 0 0 _ (HK.out _) (fun _ => rfl) (by omega)).mono ?_; rintro e w1 ⟨v, rfl, ⟨s, rfl, hs⟩, hb⟩
  obtain ⟨hbw, hb0⟩ := box_later hb
  (have q0 := block_cell hb0 0; have q1 := block_cell hb0 1; have q2 := block_cell hb0 2; have f0 := block_free hb0 0; have f1 := block_free hb0 1; have f2 := block_free hb0 2; have hz := block_lt hb0; simp at q0 q1 q2)
  obtain ⟨ao', cap', rfl, _⟩ := hs.ks
  have hlt := hb.size
  have HB0 := Lib.hid hb0
  have HBW := Lib.hid hbw
  have HS := Lib.hid hs
  clear hb hb0 hbw hs
  go_wp2_with fail
  have hb0 := block_setCell (block_setCell (block_setCell HB0.out 0 (.int .i64 (resN ⟨0, t, []⟩).h)) 1 (.string (resN ⟨0, t, []⟩).text)) 2 (.slice ao' (resN ⟨0, t, []⟩).kids.length cap')
  refine bodyPost_ret (res3_tmp Try.results37 (Try.isAgg24 _) (Try.sizeOf24 _) rfl hb0) rfl ⟨_, rfl, ⟨_, rfl, ?_⟩, ((HBW.out.setCell (by simp) _).setCell (by simp) _).setCell (by simp) _⟩
  exact (((HS.out.setCell (by show w.heap.size < _; simp) _).setCell (by show w.heap.size < _; simp) _).setCell (by show w.heap.size < _; simp) _).le (by simp)
end Go.Proofs.Ytbodacjhhkjdfaa
