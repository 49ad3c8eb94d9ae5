/- The freelist: Handles of the reference. -/
import Derived.Test.YtpcpjmgkdbgopaaDoorFm
namespace Go.Proofs.YtpcpjmgkdbgopaaDoor
open Go.RowKit

def encH (x : FL) (s : Nat) : Value := .int .u64 (hMk s (x.gn s))
theorem encH_one (x : FL) (l : List Nat) : ∀ u ∈ l.map (encH x), u.oneCell' = true := by
  intro u hu
  obtain ⟨b, _, rfl⟩ := List.mem_map.1 hu
  rfl
theorem infoH : (Tryd.prog.info? 33).map (fun i => (i.zero, i.size, i.bytes)) = some (some (.int .u64 0), 1, 8) := by kernel_rfl
theorem mkOK_of {x : FL} (h : FInv x) {k : Nat} (hk : k < x.n) : mkOK k (x.gn k) := by
  have h1 := h.gn k hk
  have h2 := h.n2
  have h3 := h.g2
  unfold mkOK
  omega
/-- the result is a new slice of the live handles, in the order of their slots -/
def NewHs (w : World) (x : FL) (e : Ending) (w' : World) : Prop := ∃ v, e = .returned v ∧ w'.ownsRow w.heap.size 33 1 v (slotsTo x 1 x.n).length ((slotsTo x 1 x.n).map (encH x)) ∧ Below w.heap.size w w'

set_option maxRecDepth 100000 in
set_option maxHeartbeats 2000000 in
theorem refHandles_any (b : YB) (x : FL) (w : World) (hl : IsY w b x) (hfi : FInv x) :
    Calls Tryd.prog 39 #[.pointer (some ⟨b.p, 0, none⟩)] w fun e w' => NewHs w x e w' := by
  obtain ⟨i0, hi, hz0, hz1, hz2⟩ := info_parts infoH
  obtain ⟨l0, l1, l2, l3, -⟩ := hl
  have hn := hfi.n2
  have HF := Lib.hid hfi
  have HT := Lib.hid l2
  have HG := Lib.hid l3
  have HGL := Lib.hid l3.lt
  have HTL := Lib.hid l2.lt
  have HP := Lib.hid l0
  have HPL := Lib.hid (block_lt l0)
  clear l0 l1 l2 l3 hfi
  go_enter Tryd.func39, Tryd.ntmps39
  go_wp2_with fail
  go_loopw [3, 4] (fun a i wr => ∃ k : Nat, k ≤ x.n ∧ i = .int .i64 k ∧ wr.ownsRow w.heap.size 33 1 a (slotsTo x 1 k).length ((slotsTo x 1 k).map (encH x)) ∧ Below w.heap.size w wr) (fun _ i _ => x.n - (intOf i).toNat)
  case atStart => exact ⟨0, Nat.zero_le _, rfl, ⟨rfl, .inl ⟨rfl, rfl⟩⟩, Below.refl _ _⟩
  case round =>
    obtain ⟨k, hk, rfl, hown, hbr⟩ := hrel
    have hsz := hbr.size
    have HO := Lib.hid hown
    have HB := Lib.hid hbr
    have hp := block_below hbr HP.out HPL.out
    (have q0 := block_cell hp 0; have q1 := block_cell hp 1; have q2 := block_cell hp 2; have q3 := block_cell hp 3; have f0 := block_free hp 0; have f1 := block_free hp 1; have f2 := block_free hp 2; have f3 := block_free hp 3; have hz := block_lt hp; simp at q0 q1 q2 q3)
    by_cases hlt : k < x.n
    · have hbr0 := HB
      have c : wr.cell? ⟨b.t, k, none⟩ = some (.int .i64 (x.st k)) := (HT.out.keep (hbr.block b.t HTL.out)).cell hlt
      have hk1 : (k : Int) < (x.n : Int) := by omega
      clear hown hbr hp
      by_cases he : x.st k = 1
      · rw [he] at c
        have HE := Lib.hid he
        have c3 : wr.cell? ⟨b.g, k, none⟩ = some (.int .u64 (x.gn k)) := (HG.out.keep (hbr0.out.block b.g HGL.out)).cell hlt
        have HMK := Lib.hid (mkOK_of HF.out hlt)
        clear hbr0
        have HOA : ∀ A, (wr.alloc A).ownsRow w.heap.size 33 1 u3 (slotsTo x 1 k).length ((slotsTo x 1 k).map (encH x)) := fun A => HO.out.alloc A
        have HHO := Lib.hid HOA
        have HHN := Lib.hid (cell_one_new wr (encH x k) 33)
        have HLEN := Lib.hid (slotsTo_len x 1 k)
        clear HOA he
        go_wp2_with fail
        refine (refMake_ok _ _ _ HMK.out).mono ?_; rintro e w1 ⟨rfl, rfl⟩
        go_wp2_with (at_builtin; refine wpList_append_own_at _ rfl _ _ 32 rfl w.heap.size 33 i0 (.int .u64 0) 1 8 Tryd.underlying32 hi hz0 hz1 hz2 rfl (by decide) _ (slotsTo x 1 k).length ((slotsTo x 1 k).map (encH x)) rfl (HHO.out _) ⟨wr.heap.size, 0, none⟩ 1 _ [encH x k] rfl rfl HHN.out (encH_one x [k]) ?c3 ?c4 ?c5 ?_)
        case c3 => unfold maxLen; have := HLEN.out; omega
        case c4 => have := HLEN.out; omega
        case c5 => have := HLEN.out; simp; omega
        intro v' w1 hown1 hgrow _ hblk
        have hbr2 : Below w.heap.size w w1 := (HB.out.alloc hsz _).grown hgrow (Nat.le_trans hsz (by simp)) (fun q hq => by
          obtain ⟨_, ⟨e1, _⟩ | ⟨g, cap, cur, e1, e2, _⟩⟩ := HO.out
          · rw [e1] at hq; cases hq
          · rw [e1] at hq; injection hq with hq; subst hq; exact e2)
        have hown2 : w1.ownsRow w.heap.size 33 1 v' (slotsTo x 1 (k + 1)).length ((slotsTo x 1 (k + 1)).map (encH x)) := by
          rw [slotsTo_yes HE.out, List.map_append, List.length_append]
          exact hown1
        have HO2 := Lib.hid hown2
        have HB2 := Lib.hid hbr2
        clear hown1 hgrow hblk hbr2 hown2
        go_wp2_with fail
        go_roundw
        case rel => exact ⟨k + 1, by omega, by go_num, HO2.out, HB2.out⟩
        case measure => simp [intOf]; omega
      · clear hbr0
        have HE := Lib.hid he
        have hne : ((x.st k : Int) == 1) = false := by simp; omega
        clear he
        go_wp2_with fail
        go_roundw
        case rel => exact ⟨k + 1, by omega, by go_num, by rw [slotsTo_no HE.out]; exact HO.out, HB.out⟩
        case measure => simp [intOf]; omega
    · obtain rfl : k = x.n := by omega
      clear hown hbr hp
      go_wp2_with fail
      go_ret
      exact ⟨_, rfl, HO.out, HB.out⟩
end Go.Proofs.YtpcpjmgkdbgopaaDoor
