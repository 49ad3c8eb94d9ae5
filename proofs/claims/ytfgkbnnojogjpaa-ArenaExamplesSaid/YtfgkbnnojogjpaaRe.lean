/- The arena: spoil and same of the laws. -/
import Derived.Test.YtfgkbnnojogjpaaQv
namespace Go.Proofs.Ytfgkbnnojogjpaa
open Go.RowKit
set_option linter.unusedVariables false

/-- a slice of n elements in a block no older than lo -/
def RsB (w : World) (lo : Nat) (t : TypeId) (v : Value) (n : Nat) : Prop :=
  ∃ (ao : Option Addr) (c : Nat), v = .slice ao n c ∧ (0 < n → ∃ b cur, ao = some ⟨b, 0, none⟩ ∧ lo ≤ b ∧ w.heap[b]? = some (.cells cur t (0, 0)) ∧ n ≤ cur.size)
theorem RsB.of {w : World} {lo : Nat} {t : TypeId} {ao : Option Addr} {c n : Nat} (h : RsB w lo t (.slice ao n c) n) (hn : 0 < n) : ∃ b cur, ao = some ⟨b, 0, none⟩ ∧ lo ≤ b ∧ w.heap[b]? = some (.cells cur t (0, 0)) ∧ n ≤ cur.size := by
  obtain ⟨ao', c', e, h⟩ := h
  cases e
  exact h hn
theorem RsB.of_rs {w : World} {B : Nat} {t : TypeId} {v : Value} {n : Nat} {f : Nat → Value} (h : Rs w B t v n f) : RsB w B t v n := by
  obtain ⟨ao, c, rfl, h⟩ := h
  refine ⟨ao, c, rfl, fun hn => ?_⟩
  obtain ⟨b, cap, e, hB, cur, h1, h2, h3, -⟩ := h hn
  exact ⟨b, cur, e, hB, h1, by omega⟩
theorem RsB.le {w : World} {lo lo' : Nat} {t : TypeId} {v : Value} {n : Nat} (h : RsB w lo t v n) (hl : lo' ≤ lo) : RsB w lo' t v n := by
  obtain ⟨ao, c, rfl, h⟩ := h
  refine ⟨ao, c, rfl, fun hn => ?_⟩
  obtain ⟨b, cur, e, hB, h1, h2⟩ := h hn
  exact ⟨b, cur, e, Nat.le_trans hl hB, h1, h2⟩
theorem RsB.set {w : World} {lo : Nat} {t : TypeId} {v : Value} {n : Nat} (h : RsB w lo t v n) (b i : Nat) (x : Value) : RsB (w.setCell ⟨b, i, none⟩ x) lo t v n := by
  obtain ⟨ao, c, rfl, h⟩ := h
  refine ⟨ao, c, rfl, fun hn => ?_⟩
  obtain ⟨b', cur, e, hB, h1, h2⟩ := h hn
  by_cases hb : b = b'
  · subst hb
    exact ⟨b, _, e, hB, block_setCell h1 i x, by simpa using h2⟩
  · exact ⟨b', cur, e, hB, block_setCell_other h1 (p := ⟨b, i, none⟩) hb x, h2⟩
theorem RsB.cell {w : World} {lo : Nat} {t : TypeId} {n b : Nat} {cur : Array Value} (h : w.heap[b]? = some (.cells cur t (0, 0))) (hn : n ≤ cur.size) {k : Nat} (hk : k < n) : ∃ u, w.cell? ⟨b, k, none⟩ = some u := by
  have := block_cell h k
  rw [Array.getElem?_eq_getElem (by omega)] at this
  exact ⟨_, this⟩

set_option maxRecDepth 100000 in
set_option maxHeartbeats 2000000 in
theorem spoil13_any (B : PB) (A : AS) (w : World) (ha : IsA w B A) (hf : FInv A.x) :
    Calls Try.prog 31 #[.pointer (some ⟨B.p, 0, none⟩)] w fun e w' => e = .returned (.tuple #[]) ∧ Below w.heap.size w w' := by
  have h2 := slotsTo_len A.x 1 A.x.n
  have h3 := slotsTo_len A.x 2 A.x.n
  have h4 := hf.n2
  have h5 := hf.mn
  have HI := Lib.hid hf
  have HA := Lib.hid ha
  clear ha hf
  go_enter Try.func31, Try.ntmps31
  go_wp2_with fail
  refine (handlesA_any B A w HA.out HI.out).mono ?_; rintro e w1 hh
  obtain ⟨vb, rfl, rb, bb⟩ := hh.rs
  obtain ⟨bo, cb, rfl, -⟩ := id rb
  have HB1 := Lib.hid bb
  have HR1 := Lib.hid (RsB.of_rs rb)
  clear rb bb hh
  generalize hnb : (slotsTo A.x 1 A.x.n).length = nb at *
  go_wp2_with fail
  go_loopw [3] (fun i wr => ∃ k : Nat, k ≤ nb ∧ i = .int .i64 k ∧ Below w.heap.size w wr ∧ RsB wr w.heap.size 31 (.slice bo nb cb) nb) (fun i _ => nb - (intOf i).toNat)
  case atStart => exact ⟨0, Nat.zero_le _, rfl, HB1.out, HR1.out⟩
  case round =>
    obtain ⟨k, hk, rfl, hbr, hr⟩ := hrel
    by_cases hlt : k < nb
    · obtain ⟨ba, cur, hao, hlo, hc, hsz⟩ := hr.of (by omega)
      subst hao
      obtain ⟨u, q⟩ := RsB.cell (lo := 0) hc hsz hlt
      have f0 := block_free hc k
      have hk1 : (k : Int) < (nb : Int) := by omega
      have HR := Lib.hid (hr.set ba k (.int .u64 0))
      have HB := Lib.hid (hbr.setCell (p := ⟨ba, k, none⟩) hlo (.int .u64 0))
      clear hc hr hbr hlo hsz
      go_wp2_with fail
      go_roundw
      case rel => exact ⟨k + 1, by omega, by go_num, HB.out, HR.out⟩
      case measure => simp [intOf]; omega
    · obtain rfl : k = nb := by omega
      have HB := Lib.hid hbr
      clear hr hbr
      go_wp2_with fail
      refine (slotsA_any B A wr (HA.out.below HB.out) HI.out).mono ?_; rintro e w2 ⟨v1, v2, rfl, r1, r2, b2⟩
      have hwr := HB.out.size
      have HF := Lib.hid ((RsB.of_rs r1).le hwr)
      have HW := Lib.hid ((RsB.of_rs r2).le hwr)
      obtain ⟨fo, cf, rfl, -⟩ := id r1
      obtain ⟨wo, cw, rfl, -⟩ := id r2
      have HB2 := Lib.hid (below_two HB.out b2)
      clear r1 r2 b2
      generalize hna : A.x.m = na at *
      generalize hnc : (slotsTo A.x 2 A.x.n).length = nc at *
      go_wp2_with fail
      go_loopw [6] (fun i wr => ∃ k : Nat, k ≤ na ∧ i = .int .i64 k ∧ Below w.heap.size w wr ∧ RsB wr w.heap.size 3 (.slice fo na cf) na ∧ RsB wr w.heap.size 3 (.slice wo nc cw) nc) (fun i _ => na - (intOf i).toNat)
      case atStart => exact ⟨0, Nat.zero_le _, rfl, HB2.out, HF.out, HW.out⟩
      case round =>
        obtain ⟨k, hk, rfl, hbr, hr, hr2⟩ := hrel
        by_cases hlt : k < na
        · obtain ⟨ba, cur, hao, hlo, hc, hsz⟩ := hr.of (by omega)
          subst hao
          obtain ⟨u, q⟩ := RsB.cell (lo := 0) hc hsz hlt
          have f0 := block_free hc k
          have hk1 : (k : Int) < (na : Int) := by omega
          have HR := Lib.hid (hr.set ba k (.int .i64 (-1)))
          have HR2 := Lib.hid (hr2.set ba k (.int .i64 (-1)))
          have HB := Lib.hid (hbr.setCell (p := ⟨ba, k, none⟩) hlo (.int .i64 (-1)))
          clear hc hr hr2 hbr hlo hsz
          go_wp2_with fail
          go_roundw
          case rel => exact ⟨k + 1, by omega, by go_num, HB.out, HR.out, HR2.out⟩
          case measure => simp [intOf]; omega
        · obtain rfl : k = na := by omega
          have HB := Lib.hid hbr
          have HR := Lib.hid hr2
          clear hr hbr hr2
          go_wp2_with fail
          go_loopw [7] (fun i wr => ∃ k : Nat, k ≤ nc ∧ i = .int .i64 k ∧ Below w.heap.size w wr ∧ RsB wr w.heap.size 3 (.slice wo nc cw) nc) (fun i _ => nc - (intOf i).toNat)
          case atStart => exact ⟨0, Nat.zero_le _, rfl, HB.out, HR.out⟩
          case round =>
            obtain ⟨k, hk, rfl, hbr, hr⟩ := hrel
            by_cases hlt : k < nc
            · obtain ⟨ba, cur, hao, hlo, hc, hsz⟩ := hr.of (by omega)
              subst hao
              obtain ⟨u, q⟩ := RsB.cell (lo := 0) hc hsz hlt
              have f0 := block_free hc k
              have hk1 : (k : Int) < (nc : Int) := by omega
              have HR := Lib.hid (hr.set ba k (.int .i64 (-1)))
              have HB := Lib.hid (hbr.setCell (p := ⟨ba, k, none⟩) hlo (.int .i64 (-1)))
              clear hc hr hbr hlo hsz
              go_wp2_with fail
              go_roundw
              case rel => exact ⟨k + 1, by omega, by go_num, HB.out, HR.out⟩
              case measure => simp [intOf]; omega
            · obtain rfl : k = nc := by omega
              have HB := Lib.hid hbr
              clear hr hbr
              go_wp2_with fail
              go_end0
              exact ⟨rfl, HB.out⟩

theorem Rs.keepB {w w' : World} {B K : Nat} {t : TypeId} {v : Value} {n : Nat} {f : Nat → Value} (h : Rs w B t v n f) (hb : Below K w w') (hK : w.heap.size ≤ K) : Rs w' B t v n f := h.keep hb hK

set_option maxRecDepth 100000 in
set_option maxHeartbeats 2000000 in
theorem same13_any (B : PB) (C : CB) (A : AS) (v : Value) (M : List Kn) (b0 : Nat) (w : World) (ha : IsA w B A) (hi : AInv A) (hb : IsB w b0 C A v M) :
    Calls Try.prog 32 #[.pointer (some ⟨B.p, 0, none⟩), .pointer (some ⟨C.p, 0, none⟩)] w fun e w' => e = .returned (.bool true) ∧ Below w.heap.size w w' := by
  have h2 := slotsTo_len A.x 1 A.x.n
  have h3 := slotsTo_len A.x 2 A.x.n
  have h4 := hi.f.n2
  have h5 := hi.f.mn
  have HI := Lib.hid hi
  have HA := Lib.hid ha
  have HB := Lib.hid hb
  have HBL0 := Lib.hid (Below.refl w.heap.size w)
  clear ha hb hi
  go_enter Try.func32, Try.ntmps32
  go_wp2_with fail
  refine (slotsA_any B A w HA.out HI.out.f).mono ?_; rintro e w1 ⟨v1, v2, rfl, r1, r2, b1⟩
  have HF := Lib.hid r1
  have HW := Lib.hid r2
  have HB1 := Lib.hid b1
  clear r1 r2 b1
  go_wp2_with fail
  refine (refSlotsA C A v M b0 w1 (HB.out.below HB1.out) HI.out).mono ?_; rintro e w2 ⟨v3, v4, rfl, r3, r4, b2⟩
  have HF2 := Lib.hid (show Rs w2 _ _ v1 _ _ from Rs.keepB HF.out b2 (Nat.le_refl _))
  have HW2 := Lib.hid (show Rs w2 _ _ v2 _ _ from Rs.keepB HW.out b2 (Nat.le_refl _))
  have HG2 := Lib.hid (show Rs w2 _ _ v3 _ _ from r3)
  have HV2 := Lib.hid (show Rs w2 _ _ v4 _ _ from r4)
  have HB2 := Lib.hid (below_two HB1.out b2)
  clear r3 r4 b2 HF HW HB1
  go_wp2_with fail
  refine (handlesA_any B A w2 (HA.out.below HB2.out) HI.out.f).mono ?_; rintro e w3 hh
  obtain ⟨va, rfl, ra, b3⟩ := hh.rs
  have HF3 := Lib.hid (HF2.out.keepB b3 (Nat.le_refl _))
  have HW3 := Lib.hid (HW2.out.keepB b3 (Nat.le_refl _))
  have HG3 := Lib.hid (HG2.out.keepB b3 (Nat.le_refl _))
  have HV3 := Lib.hid (HV2.out.keepB b3 (Nat.le_refl _))
  have HA3 := Lib.hid ra
  have HB3 := Lib.hid (below_two HB2.out b3)
  clear ra b3 hh HF2 HW2 HG2 HV2 HB2
  go_wp2_with fail
  refine (refHandlesA C A v M b0 w3 (HB.out.below HB3.out) HI.out).mono ?_; rintro e w4 hh
  obtain ⟨vb, rfl, rb, b4⟩ := hh.rs
  have HF4 := Lib.hid (HF3.out.keepB b4 (Nat.le_refl _))
  have HW4 := Lib.hid (HW3.out.keepB b4 (Nat.le_refl _))
  have HG4 := Lib.hid (HG3.out.keepB b4 (Nat.le_refl _))
  have HV4 := Lib.hid (HV3.out.keepB b4 (Nat.le_refl _))
  have HA4 := Lib.hid (HA3.out.keepB b4 (Nat.le_refl _))
  have HC4 := Lib.hid rb
  have HB4 := Lib.hid (below_two HB3.out b4)
  clear rb b4 hh HF3 HW3 HG3 HV3 HA3 HB3
  go_wp2_with fail
  refine (equalHandles_self w4 va vb _ _ HA4.out.sl HC4.out.sl (by omega)).mono ?_; rintro e w5 ⟨rfl, m, hw5⟩
  have HF5 := Lib.hid (show Rs w5 _ _ v1 _ _ by rw [hw5]; exact HF4.out.keepB (below_drewN (Below.refl _ _) m) (Nat.le_refl _))
  have HG5 := Lib.hid (show Rs w5 _ _ v3 _ _ by rw [hw5]; exact HG4.out.keepB (below_drewN (Below.refl _ _) m) (Nat.le_refl _))
  have HW5 := Lib.hid (show Rs w5 _ _ v2 _ _ by rw [hw5]; exact HW4.out.keepB (below_drewN (Below.refl _ _) m) (Nat.le_refl _))
  have HV5 := Lib.hid (show Rs w5 _ _ v4 _ _ by rw [hw5]; exact HV4.out.keepB (below_drewN (Below.refl _ _) m) (Nat.le_refl _))
  have HB5 := Lib.hid (show Below w.heap.size w w5 by rw [hw5]; exact below_drewN HB4.out m)
  clear hw5 HF4 HW4 HG4 HV4 HA4 HC4 HB4
  go_wp2_with fail
  refine (equalInts_self w5 v1 v3 _ _ HF5.out.sl HG5.out.sl (by omega)).mono ?_; rintro e w6 ⟨rfl, m, hw6⟩
  have HW6 := Lib.hid (show Rs w6 _ _ v2 _ _ by rw [hw6]; exact HW5.out.keepB (below_drewN (Below.refl _ _) m) (Nat.le_refl _))
  have HV6 := Lib.hid (show Rs w6 _ _ v4 _ _ by rw [hw6]; exact HV5.out.keepB (below_drewN (Below.refl _ _) m) (Nat.le_refl _))
  have HB6 := Lib.hid (show Below w.heap.size w w6 by rw [hw6]; exact below_drewN HB5.out m)
  clear hw6 HF5 HG5 HW5 HV5 HB5
  go_wp2_with fail
  refine (equalInts_self w6 v2 v4 _ _ HW6.out.sl HV6.out.sl (by omega)).mono ?_; rintro e w7 ⟨rfl, m, hw7⟩
  have HB7 := Lib.hid (show Below w.heap.size w w7 by rw [hw7]; exact below_drewN HB6.out m)
  clear hw7 HW6 HV6 HB6
  go_wp2_with fail
  refine (statsA_any B A w7 (HA.out.below HB7.out) HI.out.f).mono ?_; rintro e w8 ⟨rfl, b8⟩
  have HB8 := Lib.hid (below_two HB7.out b8)
  clear b8
  go_wp2_with fail
  refine (refStatsA C A v M b0 w8 (HB.out.below HB8.out) HI.out).mono ?_; rintro e w9 ⟨rfl, b9⟩
  have HB9 := Lib.hid (below_two HB8.out b9)
  clear b9
  unfold stats
  go_wp2_with fail
  go_ret
  exact ⟨rfl, HB9.out⟩
end Go.Proofs.Ytfgkbnnojogjpaa
