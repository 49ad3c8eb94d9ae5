/- The freelist: Free of the reference. -/
import Derived.Test.YtpcpjmgkdbgopaaDoorFo
namespace Go.Proofs.YtpcpjmgkdbgopaaDoor
open Go.RowKit

theorem Rs.of_fun {w : World} {B : Nat} {t : TypeId} {v : Value} {n : Nat} {f : Nat → Value} (h : w.ownsRow B t 1 v n ((List.range n).map f)) : Rs w B t v n f := by
  obtain ⟨-, ⟨h, h2⟩ | ⟨g, cap', cur, h1, hg, h2, h3, -, h4, h5⟩⟩ := h
  · exact ⟨none, 0, by rw [h, h2], fun hn => by omega⟩
  · subst h1
    refine ⟨_, _, rfl, fun _ => ⟨g, cur.size, rfl, hg, cur, h2, rfl, by omega, fun i hi => ?_⟩⟩
    have := congrArg (fun l => l[i]?) h5
    simp only [List.getElem?_take, Array.getElem?_toList] at this
    rw [if_pos (by omega)] at this
    rw [this]
    simp [hi]
/-- the free slots, the top one first -/
def freeF (x : FL) (i : Nat) : Nat := x.sk (x.m - 1 - i)
def frTo (x : FL) (k : Nat) : List Value := (List.range k).map fun i => encI (freeF x i)
theorem frTo_snoc (x : FL) (k : Nat) : frTo x (k + 1) = frTo x k ++ [encI (freeF x k)] := by
  unfold frTo
  rw [List.range_succ, List.map_append]
  rfl
/-- what Free returns -/
def NewFs (w : World) (x : FL) (e : Ending) (w' : World) : Prop := ∃ v, e = .returned v ∧ Rs w' w.heap.size 3 v x.m (fun i => encI (freeF x i)) ∧ Below w.heap.size w w'

set_option maxRecDepth 100000 in
set_option maxHeartbeats 2000000 in
theorem refFree_any (b : YB) (x : FL) (w : World) (hl : IsY w b x) (hmn : x.m ≤ 16384) :
    Calls Tryd.prog 22 #[.pointer (some ⟨b.p, 0, none⟩)] w fun e w' => NewFs w x e w' := by
  obtain ⟨i0, hi, hz0, hz1, hz2⟩ := info_parts infoI
  obtain ⟨l0, l1, l2, l3, -⟩ := hl
  have HT := Lib.hid l1
  have HTL := Lib.hid l1.lt
  have HP := Lib.hid l0
  have HPL := Lib.hid (block_lt l0)
  (have q0 := block_cell l0 0; have q1 := block_cell l0 1; have q2 := block_cell l0 2; have q3 := block_cell l0 3; have f0 := block_free l0 0; have f1 := block_free l0 1; have f2 := block_free l0 2; have f3 := block_free l0 3; have hz := block_lt l0; simp at q0 q1 q2 q3)
  clear l0 l1 l2 l3
  go_enter Tryd.func22, Tryd.ntmps22
  go_wp2_with fail
  go_loopw [3, 4] (fun a i wr => ∃ k : Nat, k ≤ x.m ∧ (∃ j : Int, i = .int .i64 j ∧ j + k + 1 = x.m) ∧ wr.ownsRow w.heap.size 3 1 a k (frTo x k) ∧ Below w.heap.size w wr) (fun _ i _ => (intOf i + 1).toNat)
  case atStart => exact ⟨0, Nat.zero_le _, ⟨(x.m : Int) - 1, by go_num, by omega⟩, ⟨rfl, .inl ⟨rfl, rfl⟩⟩, Below.refl _ _⟩
  case round =>
    obtain ⟨k, hk, ⟨j, rfl, hj⟩, hown, hbr⟩ := hrel
    have hsz := hbr.size
    have HO := Lib.hid hown
    have HB := Lib.hid hbr
    have hp := block_below hbr HP.out HPL.out
    (have q0 := block_cell hp 0; have q1 := block_cell hp 1; have q2 := block_cell hp 2; have q3 := block_cell hp 3; have f0 := block_free hp 0; have f1 := block_free hp 1; have f2 := block_free hp 2; have f3 := block_free hp 3; have hz := block_lt hp; simp at q0 q1 q2 q3)
    by_cases hlt : k < x.m
    · obtain ⟨i, rfl⟩ : ∃ i : Nat, j = i := ⟨j.toNat, by omega⟩
      have hi2 : i = x.m - 1 - k := by omega
      have c : wr.cell? ⟨b.s, i, none⟩ = some (.int .i64 (freeF x k)) := by rw [hi2]; exact (HT.out.keep (hbr.block b.s HTL.out)).cell (by omega)
      have hi3 : (i : Int) < (x.m : Int) := by omega
      clear hi2
      have HOA : ∀ A, (wr.alloc A).ownsRow w.heap.size 3 1 u3 k (frTo x k) := fun A => HO.out.alloc A
      have HHO := Lib.hid HOA
      have HHN := Lib.hid (cell_one_new wr (encI (freeF x k)) 3)
      have HSN := Lib.hid (frTo_snoc x k)
      clear hown hbr hp HOA
      go_wp2_with (at_builtin; refine wpList_append_own_at _ rfl _ _ 45 rfl w.heap.size 3 i0 (.int .i64 0) 1 8 Tryd.underlying45 hi hz0 hz1 hz2 rfl (by decide) _ k (frTo x k) rfl (HHO.out _) ⟨wr.heap.size, 0, none⟩ 1 _ [encI (freeF x k)] rfl rfl HHN.out (encI_one [freeF x k]) ?c3 ?c4 ?c5 ?_)
      case c3 => unfold maxLen; omega
      case c4 => omega
      case c5 => simp; omega
      intro v' w1 hown1 hgrow _ hblk
      have hbr2 : Below w.heap.size w w1 := (HB.out.alloc hsz _).grown hgrow (Nat.le_trans hsz (by simp)) (fun q hq => by
        obtain ⟨_, ⟨e1, _⟩ | ⟨g, cap, cur, e1, e2, _⟩⟩ := HO.out
        · rw [e1] at hq; cases hq
        · rw [e1] at hq; injection hq with hq; subst hq; exact e2)
      have hown2 : w1.ownsRow w.heap.size 3 1 v' (k + 1) (frTo x (k + 1)) := by
        rw [HSN.out]
        exact hown1
      have HO2 := Lib.hid hown2
      have HB2 := Lib.hid hbr2
      clear hown1 hgrow hblk hbr2 hown2
      go_wp2_with fail
      go_roundw
      case rel => exact ⟨k + 1, by omega, ⟨(i : Int) - 1, by go_num, by omega⟩, HO2.out, HB2.out⟩
      case measure => simp [intOf] <;> omega
    · obtain rfl : k = x.m := by omega
      obtain rfl : j = -1 := by omega
      clear hown hbr hp
      go_wp2_with fail
      go_ret
      exact ⟨_, rfl, Rs.of_fun HO.out, HB.out⟩
end Go.Proofs.YtpcpjmgkdbgopaaDoor
