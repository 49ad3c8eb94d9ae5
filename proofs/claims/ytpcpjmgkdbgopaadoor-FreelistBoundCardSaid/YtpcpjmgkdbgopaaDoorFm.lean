/- The freelist: Withdrawn of both sides. -/
import Derived.Test.YtpcpjmgkdbgopaaDoorFl
namespace Go.Proofs.YtpcpjmgkdbgopaaDoor
open Go.RowKit

set_option maxRecDepth 100000 in
set_option maxHeartbeats 2000000 in
theorem slots_none (s : Nat) (w : World) :
    Calls Tryd.prog 42 #[.pointer none, .int .u8 s] w fun e w' => e = .returned (.slice none 0 0) ∧ w = w' := by
  go_enter Tryd.func42, Tryd.ntmps42
  go_wp2_with fail
  go_ret
  exact ⟨rfl, rfl⟩

set_option maxRecDepth 100000 in
set_option maxHeartbeats 2000000 in
theorem withdrawn_none (w : World) :
    Calls Tryd.prog 26 #[.pointer none] w fun e w' => e = .returned (.slice none 0 0) ∧ w = w' := by
  go_enter Tryd.func26, Tryd.ntmps26
  go_wp2_with fail
  refine (slots_none 2 _).mono ?_; rintro e w1 ⟨rfl, rfl⟩
  go_wp2_with fail
  go_ret
  exact ⟨rfl, rfl⟩

/-- the result is a new slice of these numbers; nothing that was there is written -/
def NewIs (w : World) (l : List Nat) (e : Ending) (w' : World) : Prop := ∃ v, e = .returned v ∧ w'.ownsRow w.heap.size 3 1 v l.length (l.map encI) ∧ Below w.heap.size w w'

set_option maxRecDepth 100000 in
set_option maxHeartbeats 2000000 in
theorem withdrawn_any (b : LB) (x : FL) (w : World) (hl : IsL w b x) (hn : x.n ≤ 16384) :
    Calls Tryd.prog 26 #[.pointer (some ⟨b.p, 0, none⟩)] w fun e w' => NewIs w (slotsTo x 2 x.n) e w' := by
  have HS := Lib.hid (slots_any b x 2 w hl hn)
  clear hl
  go_enter Tryd.func26, Tryd.ntmps26
  go_wp2_with fail
  refine HS.out.mono ?_; rintro e w1 ⟨v, rfl, ho, hb⟩
  have HO := Lib.hid ho
  have HB := Lib.hid hb
  clear ho hb
  go_wp2_with fail
  go_ret
  exact ⟨_, rfl, HO.out, HB.out⟩

set_option maxRecDepth 100000 in
set_option maxHeartbeats 2000000 in
theorem refWithdrawn_none (w : World) :
    Calls Tryd.prog 40 #[.pointer none] w fun e w' => e = .returned (.slice none 0 0) ∧ w = w' := by
  go_enter Tryd.func40, Tryd.ntmps40
  go_wp2_with fail
  go_ret
  exact ⟨rfl, rfl⟩

set_option maxRecDepth 100000 in
set_option maxHeartbeats 2000000 in
theorem refWithdrawn_any (b : YB) (x : FL) (w : World) (hl : IsY w b x) (hn : x.n ≤ 16384) :
    Calls Tryd.prog 40 #[.pointer (some ⟨b.p, 0, none⟩)] w fun e w' => NewIs w (slotsTo x 2 x.n) e w' := by
  obtain ⟨i0, hi, hz0, hz1, hz2⟩ := info_parts infoI
  obtain ⟨l0, l1, l2, l3, -⟩ := hl
  have HT := Lib.hid l2
  have HTL := Lib.hid l2.lt
  have HP := Lib.hid l0
  have HPL := Lib.hid (block_lt l0)
  clear l0 l1 l2 l3
  go_enter Tryd.func40, Tryd.ntmps40
  go_wp2_with fail
  go_loopw [3, 4] (fun a i wr => ∃ k : Nat, k ≤ x.n ∧ i = .int .i64 k ∧ wr.ownsRow w.heap.size 3 1 a (slotsTo x 2 k).length ((slotsTo x 2 k).map encI) ∧ Below w.heap.size w wr) (fun _ i _ => x.n - (intOf i).toNat)
  case atStart => exact ⟨0, Nat.zero_le _, rfl, ⟨rfl, .inl ⟨rfl, rfl⟩⟩, Below.refl _ _⟩
  case round =>
    obtain ⟨k, hk, rfl, hown, hbr⟩ := hrel
    have hsz := hbr.size
    have HO := Lib.hid hown
    have HB := Lib.hid hbr
    have hp := block_below hbr HP.out HPL.out
    (have q0 := block_cell hp 0; have q1 := block_cell hp 1; have q2 := block_cell hp 2; have q3 := block_cell hp 3; have f0 := block_free hp 0; have f1 := block_free hp 1; have f2 := block_free hp 2; have f3 := block_free hp 3; have hz := block_lt hp; simp at q0 q1 q2 q3)
    by_cases hlt : k < x.n
    · have c : wr.cell? ⟨b.t, k, none⟩ = some (.int .i64 (x.st k)) := (HT.out.keep (hbr.block b.t HTL.out)).cell hlt
      have hk1 : (k : Int) < (x.n : Int) := by omega
      clear hown hbr hp
      by_cases he : x.st k = 2
      · rw [he] at c
        have HE := Lib.hid he
        have HOA : ∀ A, (wr.alloc A).ownsRow w.heap.size 3 1 u3 (slotsTo x 2 k).length ((slotsTo x 2 k).map encI) := fun A => HO.out.alloc A
        have HHO := Lib.hid HOA
        have HHN := Lib.hid (cell_one_new wr (encI k) 3)
        have HLEN := Lib.hid (slotsTo_len x 2 k)
        clear HOA he
        go_wp2_with (at_builtin; refine wpList_append_own_at _ rfl _ _ 45 rfl w.heap.size 3 i0 (.int .i64 0) 1 8 Tryd.underlying45 hi hz0 hz1 hz2 rfl (by decide) _ (slotsTo x 2 k).length ((slotsTo x 2 k).map encI) rfl (HHO.out _) ⟨wr.heap.size, 0, none⟩ 1 _ [encI k] rfl rfl HHN.out (encI_one [k]) ?c3 ?c4 ?c5 ?_)
        case c3 => unfold maxLen; have := HLEN.out; omega
        case c4 => have := HLEN.out; omega
        case c5 => have := HLEN.out; simp; omega
        intro v' w1 hown1 hgrow _ hblk
        have hbr2 : Below w.heap.size w w1 := (HB.out.alloc hsz _).grown hgrow (Nat.le_trans hsz (by simp)) (fun q hq => by
          obtain ⟨_, ⟨e1, _⟩ | ⟨g, cap, cur, e1, e2, _⟩⟩ := HO.out
          · rw [e1] at hq; cases hq
          · rw [e1] at hq; injection hq with hq; subst hq; exact e2)
        have hown2 : w1.ownsRow w.heap.size 3 1 v' (slotsTo x 2 (k + 1)).length ((slotsTo x 2 (k + 1)).map encI) := by
          rw [slotsTo_yes HE.out, List.map_append, List.length_append]
          exact hown1
        have HO2 := Lib.hid hown2
        have HB2 := Lib.hid hbr2
        clear hown1 hgrow hblk hbr2 hown2
        go_wp2_with fail
        go_roundw
        case rel => exact ⟨k + 1, by omega, by go_num, HO2.out, HB2.out⟩
        case measure => simp [intOf]; omega
      · have HE := Lib.hid he
        have hne : ((x.st k : Int) == 2) = false := by simp; omega
        clear he
        go_wp2_with fail
        go_roundw
        case rel => exact ⟨k + 1, by omega, by go_num, by rw [slotsTo_no HE.out]; exact HO.out, HB.out⟩
        case measure => simp [intOf]; omega
    · obtain rfl : k = x.n := by omega
      clear hown hbr hp
      go_wp2_with fail
      go_ret
      exact ⟨_, rfl, HO.out, HB.out⟩
end Go.Proofs.YtpcpjmgkdbgopaaDoor
