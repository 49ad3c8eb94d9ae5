/- The freelist: the law FreelistExamples. -/
import Derived.Test.YtpcpjmgkdbgopaaDoorGc
namespace Go.Proofs.YtpcpjmgkdbgopaaDoor
open Go.RowKit

def endsL : List Int := [-1, 0, 1, 2, 16383, 16384, 16385]
theorem infoD : (Tryd.prog.info? 35).map (fun i => (i.zero, i.size, i.bytes)) = some (some (.agg #[.int .i64 0, .int .i64 0, .int .u64 0]), 3, 24) := by kernel_rfl
theorem ddF_one (l : List Dd) : ∀ u ∈ flatR ddF l, u.oneCell' = true := flatR_all (fun d u hu => by
  unfold ddF at hu
  rcases List.mem_cons.1 hu with h | hu
  · rw [h]; rfl
  rcases List.mem_cons.1 hu with h | hu
  · rw [h]; rfl
  rw [List.mem_singleton.1 hu]; rfl) l
def fourD (k : Nat) : List Dd := [⟨0, 0, 0⟩, ⟨2, k, 0⟩, ⟨2, k, 0⟩, ⟨3, 0, k⟩]
theorem fourD_in (k : Nat) (hk : k < 15) : ∀ d ∈ fourD k, 0 ≤ d.h ∧ d.h ≤ 18446744073709551615 := by
  intro d hd
  simp [fourD] at hd
  rcases hd with rfl | rfl | rfl | rfl <;> simp
  omega
theorem ends_arr (w : World) : Arr (w.alloc (.cells #[.int .i64 (-1), .int .i64 0, .int .i64 1, .int .i64 2, .int .i64 16383, .int .i64 16384, .int .i64 16385] 3)) w.heap.size 3 7 7 (fun i => .int .i64 (endsL.getD i 0)) :=
  ⟨_, block_new _ _, rfl, by decide, fun i hi => by
    have : i = 0 ∨ i = 1 ∨ i = 2 ∨ i = 3 ∨ i = 4 ∨ i = 5 ∨ i = 6 := by omega
    rcases this with rfl | rfl | rfl | rfl | rfl | rfl | rfl <;> rfl⟩
theorem four_cell (w : World) (k : Nat) : ∀ j u, (flatR ddF (fourD k))[j]? = some u → (w.alloc (.cells (flatR ddF (fourD k)).toArray 35)).cell? ((⟨w.heap.size, 0, none⟩ : Addr).add j) = some u := by
  intro j u hj
  rw [add_to, Nat.zero_add, block_cell (block_new w _) j, List.getElem?_toArray]
  exact hj

set_option maxRecDepth 100000 in
set_option maxHeartbeats 8000000 in
theorem examples_any (w : World) :
    Calls Tryd.prog 5 #[] w fun e w' => e = .returned (.bool true) ∧ Below w.heap.size w w' := by
  obtain ⟨i0, hi, hz0, hz1, hz2⟩ := info_parts infoD
  have HB0 := Lib.hid (Below.refl w.heap.size w)
  go_enter Tryd.func5, Tryd.ntmps5
  go_wp2_with fail
  refine (take_none _).mono ?_; rintro e w1 ⟨rfl, rfl⟩
  go_wp2_with fail
  refine (give_none _ _).mono ?_; rintro e w1 ⟨rfl, rfl⟩
  go_wp2_with fail
  refine (genL_none _ _).mono ?_; rintro e w1 ⟨rfl, rfl⟩
  go_wp2_with fail
  refine (live_none _ _).mono ?_; rintro e w1 ⟨rfl, rfl⟩
  go_wp2_with fail
  refine (free_none _).mono ?_; rintro e w1 ⟨rfl, rfl⟩
  go_wp2_with fail
  refine (handles_none _).mono ?_; rintro e w1 ⟨rfl, m1, rfl⟩
  have HB1 := Lib.hid (below_drewN HB0.out m1)
  generalize w.drewN m1 = w1 at *
  go_wp2_with fail
  refine (withdrawn_none _).mono ?_; rintro e w2 ⟨rfl, rfl⟩
  go_wp2_with fail
  have HA1 := Lib.hid (ends_arr w1)
  have HB2 := Lib.hid (HB1.out.alloc HB1.out.size (.cells #[.int .i64 (-1), .int .i64 0, .int .i64 1, .int .i64 2, .int .i64 16383, .int .i64 16384, .int .i64 16385] 3))
  go_loopw [9] (fun i wr => ∃ k : Nat, k ≤ 7 ∧ i = .int .i64 k ∧ Arr wr w1.heap.size 3 7 7 (fun i => .int .i64 (endsL.getD i 0)) ∧ Below w.heap.size w wr) (fun i _ => 7 - (intOf i).toNat)
  case atStart => exact ⟨0, by decide, rfl, HA1.out, HB2.out⟩
  case round =>
    obtain ⟨k, hk, rfl, ha, hb⟩ := hrel
    have HAA := Lib.hid ha
    have HBB := Lib.hid hb
    by_cases hlt : k < 7
    · have c0 := ha.cell hlt
      have hk1 : (k : Int) < 7 := by omega
      generalize endsL.getD k 0 = en at c0
      clear ha hb
      go_wp2_with fail
      refine (makes_any _ _ _).mono ?_; rintro e w3 ⟨rfl, hb⟩
      have A3 := Lib.hid (HAA.out.keep (hb.block _ HAA.out.lt))
      have B3 := Lib.hid (below_two HBB.out hb)
      have c1 := (hb.cell (p := ⟨w1.heap.size, k, none⟩) HAA.out.lt).trans c0
      clear hb c0
      go_wp2_with fail
      refine (makes_any _ _ _).mono ?_; rintro e w4 ⟨rfl, hb⟩
      have A4 := Lib.hid (A3.out.keep (hb.block _ A3.out.lt))
      have B4 := Lib.hid (below_two B3.out hb)
      have c2 := (hb.cell (p := ⟨w1.heap.size, k, none⟩) A3.out.lt).trans c1
      clear hb c1 A3 B3
      go_wp2_with fail
      refine (makes_any _ _ _).mono ?_; rintro e w5 ⟨rfl, hb⟩
      have A5 := Lib.hid (A4.out.keep (hb.block _ A4.out.lt))
      have B5 := Lib.hid (below_two B4.out hb)
      have c3 := (hb.cell (p := ⟨w1.heap.size, k, none⟩) A4.out.lt).trans c2
      clear hb c2 A4 B4
      go_wp2_with fail
      refine (makes_any _ _ _).mono ?_; rintro e w6 ⟨rfl, hb⟩
      have A6 := Lib.hid (A5.out.keep (hb.block _ A5.out.lt))
      have B6 := Lib.hid (below_two B5.out hb)
      have c4 := (hb.cell (p := ⟨w1.heap.size, k, none⟩) A5.out.lt).trans c3
      clear hb c3 A5 B5
      clear c4
      go_wp2_with fail
      go_roundw
      case rel => exact ⟨k + 1, by omega, by go_num, A6.out, B6.out⟩
      case measure => simp [intOf]; omega
    · have hk7 : ¬ ((k : Int) < 7) := by omega
      clear ha hb HAA hlt hk
      go_wp2_with fail
      go_loopw [10, 11] (fun i _ wr => ∃ k : Nat, k ≤ 4 ∧ i = .int .i64 k ∧ Below w.heap.size w wr) (fun i _ _ => 4 - (intOf i).toNat)
      case atStart => exact ⟨0, by decide, rfl, HBB.out⟩
      case round =>
        obtain ⟨k, hk, rfl, hb⟩ := hrel
        have HBC := Lib.hid hb
        clear hb HBB
        by_cases hlt : k < 4
        · have hk1 : (k : Int) < 4 := by omega
          go_wp2_with fail
          go_loopw [11, 12] (fun v i wr => ∃ (j : Nat) (l : List Dd), j ≤ 15 ∧ i = .int .i64 j ∧ l.length = 4 * j ∧ (∀ d ∈ l, 0 ≤ d.h ∧ d.h ≤ 18446744073709551615) ∧ wr.ownsRow w.heap.size 35 3 v (4 * j) (flatR ddF l) ∧ Below w.heap.size w wr) (fun _ i _ => 15 - (intOf i).toNat)
          case atStart => exact ⟨0, [], by decide, rfl, rfl, (fun _ h => nomatch h), ⟨rfl, .inl ⟨rfl, rfl⟩⟩, HBC.out⟩
          case round =>
            obtain ⟨j, l, hj, rfl, hll, hin, hown, hb⟩ := hrel
            have HOWN := Lib.hid hown
            have HIN := Lib.hid hin
            have HBD := Lib.hid hb
            have hsz := hb.size
            have hsz0 := HBC.out.size
            clear hown hin hb HBC
            by_cases hlt2 : j < 15
            · have hj1 : (j : Int) < 15 := by omega
              have HHO := Lib.hid (fun A => HOWN.out.alloc A)
              have HLN := Lib.hid (show (flatR ddF (fourD j)).length = 4 * 3 from flatR_len ddF_len _)
              go_wp2_with (at_builtin; refine wpList_append_own_at _ rfl _ _ 22 rfl w.heap.size 35 i0 (.agg #[.int .i64 0, .int .i64 0, .int .u64 0]) 3 24 Tryd.underlying22 hi hz0 hz1 hz2 rfl (by decide) _ (4 * j) (flatR ddF l) rfl (HHO.out _) ⟨_, 0, none⟩ 4 _ (flatR ddF (fourD j)) rfl HLN.out (four_cell _ j) (ddF_one _) ?c3 ?c4 ?c5 ?_)
              case c3 => unfold maxLen; omega
              case c4 => omega
              case c5 => simp; omega
              intro v' w3 hown hgrow _ hblk
              have HO2 := Lib.hid (show w3.ownsRow w.heap.size 35 3 v' (4 * (j + 1)) (flatR ddF (l ++ fourD j)) by rw [flatR_app]; exact hown)
              have HB4 := Lib.hid ((HBD.out.alloc hsz _).grown hgrow (Nat.le_trans hsz (by simp)) (fun q hq => by
                obtain ⟨_, ⟨e1, _⟩ | ⟨g, cap, cur, e1, e2, _⟩⟩ := HOWN.out
                · rw [e1] at hq; cases hq
                · rw [e1] at hq; injection hq with hq; subst hq; exact e2))
              have HIN2 := Lib.hid (show ∀ d ∈ l ++ fourD j, 0 ≤ d.h ∧ d.h ≤ 18446744073709551615 from fun d hd => by
                rcases List.mem_append.1 hd with h | h
                · exact HIN.out d h
                · exact fourD_in j hlt2 d h)
              clear hown hgrow hblk HOWN HIN HBD HHO
              go_wp2_with fail
              go_roundw
              case rel => exact ⟨j + 1, _, by omega, by go_num, by rw [List.length_append, hll]; show 4 * j + 4 = _; omega, HIN2.out, HO2.out, HB4.out⟩
              case measure => simp [intOf]; omega
            · obtain rfl : j = 15 := by omega
              obtain ⟨bo, cap, rfl, hr, -, -⟩ := IsR.owned ddF_len hll HOWN.out
              have HRR := Lib.hid hr
              clear hr
              go_wp2_with fail
              refine (plays_any 2 k bo 60 cap l _ HRR.out HIN.out (by decide)).mono ?_; rintro e w9 ⟨rfl, hb⟩
              have HBE := Lib.hid (below_two HBD.out hb)
              clear hb
              go_wp2_with fail
              go_roundw
              case rel => exact ⟨k + 1, by omega, by go_num, HBE.out⟩
              case measure => simp [intOf]; omega
        · obtain rfl : k = 4 := by omega
          go_wp2_with fail
          refine (awake_any _).mono ?_; rintro e w6 ⟨rfl, hb⟩
          have HB2 := Lib.hid (below_two HBC.out hb)
          clear hb
          go_wp2_with fail
          go_ret
          exact ⟨rfl, HB2.out⟩
end Go.Proofs.YtpcpjmgkdbgopaaDoor
