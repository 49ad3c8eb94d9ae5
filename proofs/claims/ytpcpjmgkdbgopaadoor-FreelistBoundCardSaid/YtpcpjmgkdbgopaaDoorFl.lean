/- The freelist: slots of the program. -/
import Derived.Test.YtpcpjmgkdbgopaaDoorFk
namespace Go.Proofs.YtpcpjmgkdbgopaaDoor
open Go.RowKit

/-- the slots below k with the state s, in ascending order -/
def slotsTo (x : FL) (s k : Nat) : List Nat := (List.range k).filter fun i => decide (x.st i = s)
theorem slotsTo_yes {x : FL} {s k : Nat} (h : x.st k = s) : slotsTo x s (k + 1) = slotsTo x s k ++ [k] := by
  unfold slotsTo; rw [List.range_succ, List.filter_append]; simp [h]
theorem slotsTo_no {x : FL} {s k : Nat} (h : x.st k ≠ s) : slotsTo x s (k + 1) = slotsTo x s k := by
  unfold slotsTo; rw [List.range_succ, List.filter_append]; simp [h]
theorem slotsTo_len (x : FL) (s k : Nat) : (slotsTo x s k).length ≤ k := by
  have := List.length_filter_le (fun i => decide (x.st i = s)) (List.range k)
  simpa [slotsTo] using this
theorem encI_one (l : List Nat) : ∀ u ∈ l.map encI, u.oneCell' = true := by
  intro u hu
  obtain ⟨b, _, rfl⟩ := List.mem_map.1 hu
  rfl

set_option maxRecDepth 100000 in
set_option maxHeartbeats 2000000 in
theorem slots_any (b : LB) (x : FL) (s : Nat) (w : World) (hl : IsL w b x) (hn : x.n ≤ 16384) :
    Calls Tryd.prog 42 #[.pointer (some ⟨b.p, 0, none⟩), .int .u8 s] w fun e w' => ∃ v, e = .returned v ∧ w'.ownsRow w.heap.size 3 1 v (slotsTo x s x.n).length ((slotsTo x s x.n).map encI) ∧ Below w.heap.size w w' := by
  obtain ⟨i0, hi, hz0, hz1, hz2⟩ := info_parts infoI
  obtain ⟨l0, l1, l2, l3⟩ := hl
  have HT := Lib.hid l2
  have HTL := Lib.hid l2.lt
  (have q0 := block_cell l0 0; have q1 := block_cell l0 1; have q2 := block_cell l0 2; have q3 := block_cell l0 3; have f0 := block_free l0 0; have f1 := block_free l0 1; have f2 := block_free l0 2; have f3 := block_free l0 3; have hz := block_lt l0; simp at q0 q1 q2 q3)
  clear l0 l1 l2 l3
  go_enter Tryd.func42, Tryd.ntmps42
  go_wp2_with fail
  go_loopw [5, 16] (fun a i wr => ∃ k : Nat, k ≤ x.n ∧ i = .int .i64 k ∧ wr.ownsRow w.heap.size 3 1 a (slotsTo x s k).length ((slotsTo x s k).map encI) ∧ Below w.heap.size w wr) (fun _ i _ => x.n - (intOf i).toNat)
  case atStart => exact ⟨0, Nat.zero_le _, rfl, ⟨rfl, .inl ⟨rfl, rfl⟩⟩, Below.refl _ _⟩
  case round =>
    obtain ⟨k, hk, rfl, hown, hbr⟩ := hrel
    have hsz := hbr.size
    have HO := Lib.hid hown
    have HB := Lib.hid hbr
    by_cases hlt : k < x.n
    · have c : wr.cell? ⟨b.t, k, none⟩ = some (.int .u8 (x.st k)) := (HT.out.keep (hbr.block b.t HTL.out)).cell hlt
      have hk1 : (k : Int) < (x.n : Int) := by omega
      clear hown hbr
      by_cases he : x.st k = s
      · rw [he] at c
        have HE := Lib.hid he
        have HOA : ∀ A, (wr.alloc A).ownsRow w.heap.size 3 1 u5 (slotsTo x s k).length ((slotsTo x s k).map encI) := fun A => HO.out.alloc A
        have HHO := Lib.hid HOA
        have HHN := Lib.hid (cell_one_new wr (encI k) 3)
        have HLEN := Lib.hid (slotsTo_len x s k)
        clear HOA he
        go_wp2_with (at_builtin; refine wpList_append_own_at _ rfl _ _ 45 rfl w.heap.size 3 i0 (.int .i64 0) 1 8 Tryd.underlying45 hi hz0 hz1 hz2 rfl (by decide) _ (slotsTo x s k).length ((slotsTo x s k).map encI) rfl (HHO.out _) ⟨wr.heap.size, 0, none⟩ 1 _ [encI k] rfl rfl HHN.out (encI_one [k]) ?c3 ?c4 ?c5 ?_)
        case c3 => unfold maxLen; have := HLEN.out; omega
        case c4 => have := HLEN.out; omega
        case c5 => have := HLEN.out; simp; omega
        intro v' w1 hown1 hgrow _ hblk
        have hbr2 : Below w.heap.size w w1 := (HB.out.alloc hsz _).grown hgrow (Nat.le_trans hsz (by simp)) (fun q hq => by
          obtain ⟨_, ⟨e1, _⟩ | ⟨g, cap, cur, e1, e2, _⟩⟩ := HO.out
          · rw [e1] at hq; cases hq
          · rw [e1] at hq; injection hq with hq; subst hq; exact e2)
        have hown2 : w1.ownsRow w.heap.size 3 1 v' (slotsTo x s (k + 1)).length ((slotsTo x s (k + 1)).map encI) := by
          rw [slotsTo_yes HE.out, List.map_append, List.length_append]
          exact hown1
        have HO2 := Lib.hid hown2
        have HB2 := Lib.hid hbr2
        clear hown1 hgrow hblk hbr2 hown2
        go_wp2_with fail
        go_roundw
        case rel => exact ⟨k + 1, by omega, by go_num, HO2.out, HB2.out⟩
        case measure => simp [intOf]; omega
      · have HE := Lib.hid he
        have hne : ((x.st k : Int) == (s : Int)) = false := by simp; omega
        clear he
        go_wp2_with fail
        go_roundw
        case rel => exact ⟨k + 1, by omega, by go_num, by rw [slotsTo_no HE.out]; exact HO.out, HB.out⟩
        case measure => simp [intOf]; omega
    · obtain rfl : k = x.n := by omega
      clear hown hbr
      go_wp2_with fail
      go_ret
      exact ⟨_, rfl, HO.out, HB.out⟩
end Go.Proofs.YtpcpjmgkdbgopaaDoor
