/- The freelist: spoil. -/
import Derived.Test.YtpcpjmgkdbgopaaDoorFt
namespace Go.Proofs.YtpcpjmgkdbgopaaDoor
open Go.RowKit

theorem IsL.below {w w' : World} {b : LB} {x : FL} {K : Nat} (h : IsL w b x) (hb : Below K w w') (hK : w.heap.size ≤ K) : IsL w' b x :=
  ⟨block_below hb h.1 (Nat.lt_of_lt_of_le (block_lt h.1) hK), h.2.1.keep (hb.block _ (Nat.lt_of_lt_of_le h.2.1.lt hK)), h.2.2.1.keep (hb.block _ (Nat.lt_of_lt_of_le h.2.2.1.lt hK)), h.2.2.2.keep (hb.block _ (Nat.lt_of_lt_of_le h.2.2.2.lt hK))⟩
theorem IsY.below {w w' : World} {b : YB} {x : FL} {K : Nat} (h : IsY w b x) (hb : Below K w w') (hK : w.heap.size ≤ K) : IsY w' b x :=
  ⟨block_below hb h.1 (Nat.lt_of_lt_of_le (block_lt h.1) hK), h.2.1.keep (hb.block _ (Nat.lt_of_lt_of_le h.2.1.lt hK)), h.2.2.1.keep (hb.block _ (Nat.lt_of_lt_of_le h.2.2.1.lt hK)), h.2.2.2.1.keep (hb.block _ (Nat.lt_of_lt_of_le h.2.2.2.1.lt hK)), h.2.2.2.2⟩

/-- a slice of n elements in a block between lo and hi -/
def RsI (w : World) (lo hi : Nat) (t : TypeId) (v : Value) (n : Nat) : Prop :=
  ∃ (ao : Option Addr) (c : Nat), v = .slice ao n c ∧ (0 < n → ∃ b cap f, ao = some ⟨b, 0, none⟩ ∧ lo ≤ b ∧ b < hi ∧ Arr w b t cap n f)
theorem RsI.of {w : World} {lo hi : Nat} {t : TypeId} {ao : Option Addr} {c n : Nat} (h : RsI w lo hi t (.slice ao n c) n) (hn : 0 < n) : ∃ b cap f, ao = some ⟨b, 0, none⟩ ∧ lo ≤ b ∧ b < hi ∧ Arr w b t cap n f := by
  obtain ⟨ao', c', e, h⟩ := h
  cases e
  exact h hn
theorem RsI.of_rs {w : World} {B : Nat} {t : TypeId} {v : Value} {n : Nat} {f : Nat → Value} (h : Rs w B t v n f) : RsI w B w.heap.size t v n := by
  obtain ⟨ao, c, rfl, h⟩ := h
  refine ⟨ao, c, rfl, fun hn => ?_⟩
  obtain ⟨b, cap, e, hB, ha⟩ := h hn
  exact ⟨b, cap, f, e, hB, ha.lt, ha⟩
theorem RsI.keep {w w' : World} {lo hi K : Nat} {t : TypeId} {v : Value} {n : Nat} (h : RsI w lo hi t v n) (hb : Below K w w') (hK : hi ≤ K) : RsI w' lo hi t v n := by
  obtain ⟨ao, c, rfl, h⟩ := h
  refine ⟨ao, c, rfl, fun hn => ?_⟩
  obtain ⟨b, cap, f, e, h1, h2, ha⟩ := h hn
  exact ⟨b, cap, f, e, h1, h2, ha.keep (hb.block b (Nat.lt_of_lt_of_le h2 hK))⟩
theorem RsI.set {w : World} {lo hi lo' hi' : Nat} {t : TypeId} {v : Value} {n : Nat} (h : RsI w lo hi t v n) {b i : Nat} (hb : lo' ≤ b ∧ b < hi') (hd : hi ≤ lo' ∨ hi' ≤ lo) (x : Value) : RsI (w.setCell ⟨b, i, none⟩ x) lo hi t v n := by
  obtain ⟨ao, c, rfl, h⟩ := h
  refine ⟨ao, c, rfl, fun hn => ?_⟩
  obtain ⟨b', cap, f, e, h1, h2, ha⟩ := h hn
  exact ⟨b', cap, f, e, h1, h2, ha.other (by show b ≠ b'; omega) x⟩
theorem RsI.self {w : World} {lo hi : Nat} {t : TypeId} {b k n c : Nat} (h : RsI w lo hi t (.slice (some ⟨b, 0, none⟩) n c) n) (hk : k < n) (hb : lo ≤ b ∧ b < hi) (x : Value) : RsI (w.setCell ⟨b, k, none⟩ x) lo hi t (.slice (some ⟨b, 0, none⟩) n c) n := by
  obtain ⟨b', cap, f, e, h1, h2, ha⟩ := h.of (by omega)
  cases e
  exact ⟨_, _, rfl, fun _ => ⟨b, cap, _, rfl, hb.1, hb.2, ha.set hk x⟩⟩

/-- what Handles and Withdrawn return, as a slice of its own -/
theorem NewHs.rs {w w' : World} {x : FL} {e : Ending} (h : NewHs w x e w') : ∃ v, e = .returned v ∧ Rs w' w.heap.size 33 v (slotsTo x 1 x.n).length (fun i => encH x ((slotsTo x 1 x.n).getD i 0)) ∧ Below w.heap.size w w' := by
  obtain ⟨v, he, ho, hb⟩ := h
  exact ⟨v, he, Rs.of_own ho, hb⟩
theorem NewIs.rs {w w' : World} {l : List Nat} {e : Ending} (h : NewIs w l e w') : ∃ v, e = .returned v ∧ Rs w' w.heap.size 3 v l.length (fun i => encI (l.getD i 0)) ∧ Below w.heap.size w w' := by
  obtain ⟨v, he, ho, hb⟩ := h
  exact ⟨v, he, Rs.of_own ho, hb⟩

set_option maxRecDepth 100000 in
set_option maxHeartbeats 2000000 in
theorem spoil_any (b : LB) (x : FL) (w : World) (hl : IsL w b x) (hfi : FInv x) :
    Calls Tryd.prog 17 #[.pointer (some ⟨b.p, 0, none⟩)] w fun e w' => e = .returned (.tuple #[]) ∧ Below w.heap.size w w' := by
  have hmn : x.m ≤ 16384 := Nat.le_trans hfi.mn hfi.n2
  have h2 := slotsTo_len x 1 x.n
  have h3 := slotsTo_len x 2 x.n
  have h4 := hfi.n2
  have HI := Lib.hid hfi
  have HL := Lib.hid hl
  clear hl hfi
  go_enter Tryd.func17, Tryd.ntmps17
  go_wp2_with fail
  refine (free_any b x w HL.out hmn).mono ?_; rintro e w1 ⟨va, rfl, ra, ba⟩
  obtain ⟨ao, ca, rfl, -⟩ := id ra
  have HL1 := Lib.hid (HL.out.below ba (Nat.le_refl _))
  have HA := Lib.hid (RsI.of_rs ra)
  have HBA := Lib.hid ba
  clear ra ba
  go_wp2_with fail
  refine (handles_any b x w1 HL1.out HI.out).mono ?_; rintro e w2 hh
  obtain ⟨vb, rfl, rb, bb⟩ := hh.rs
  obtain ⟨bo, cb, rfl, -⟩ := id rb
  have HL2 := Lib.hid (HL1.out.below bb (Nat.le_refl _))
  have HA2 := Lib.hid (HA.out.keep bb (Nat.le_refl _))
  have HB := Lib.hid (RsI.of_rs rb)
  have HBB := Lib.hid bb
  clear rb bb hh
  go_wp2_with fail
  refine (withdrawn_any b x w2 HL2.out h4).mono ?_; rintro e w3 hh
  obtain ⟨vc, rfl, rc, bc⟩ := hh.rs
  obtain ⟨co, cc, rfl, -⟩ := id rc
  have HA3 := Lib.hid (HA2.out.keep bc HBB.out.size)
  have HB3 := Lib.hid (HB.out.keep bc (Nat.le_refl _))
  have HC := Lib.hid (RsI.of_rs rc)
  have HBC := Lib.hid bc
  clear rc bc hh
  obtain ⟨S1, hS1⟩ : ∃ S1, S1 = w1.heap.size := ⟨_, rfl⟩
  obtain ⟨S2, hS2⟩ : ∃ S2, S2 = w2.heap.size := ⟨_, rfl⟩
  obtain ⟨S3, hS3⟩ : ∃ S3, S3 = w3.heap.size := ⟨_, rfl⟩
  obtain ⟨S0, hS0⟩ : ∃ S0, S0 = w.heap.size := ⟨_, rfl⟩
  have HLO_S0 := Lib.hid (show w.heap.size ≤ S0 by omega)
  have HLO_S1 := Lib.hid (show w.heap.size ≤ S1 by have := HBA.out.size; omega)
  have HLO_S2 := Lib.hid (show w.heap.size ≤ S2 by have := HBA.out.size; have := HBB.out.size; omega)
  have HLES1_S1 := Lib.hid (Nat.le_refl S1)
  have HLES1_S2 := Lib.hid (show S1 ≤ S2 by have := HBB.out.size; omega)
  have HLES2_S2 := Lib.hid (Nat.le_refl S2)
  have HB0 := Lib.hid (show Below w.heap.size w w3 from (HBA.out.trans (HBB.out.mono HBA.out.size)).trans (HBC.out.mono (Nat.le_trans HBA.out.size HBB.out.size)))
  have HA4 := HA3
  have HB4 := HB3
  have HC4 := HC
  rw [← hS0, ← hS1] at HA4
  rw [← hS1, ← hS2] at HB4
  rw [← hS2, ← hS3] at HC4
  clear HA HA2 HA3 HB HB3 HC hS0 hS1 hS2 hS3 HL1 HL2 HL
  generalize hna : x.m = na at *
  generalize hnb : (slotsTo x 1 x.n).length = nb at *
  generalize hnc : (slotsTo x 2 x.n).length = nc at *
  clear hna hnb hnc
  go_wp2_with fail
  go_loopw [5] (fun i wr => ∃ k : Nat, k ≤ na ∧ i = .int .i64 k ∧ Below w.heap.size w wr ∧ RsI wr S0 S1 3 (Value.slice ao na ca) na ∧ RsI wr S1 S2 33 (.slice bo nb cb) nb ∧ RsI wr S2 S3 3 (.slice co nc cc) nc) (fun i _ => na - (intOf i).toNat)
  case atStart => exact ⟨0, Nat.zero_le _, rfl, HB0.out, HA4.out, HB4.out, HC4.out⟩
  case round =>
    obtain ⟨k, hk, rfl, hbr, hr, k1, k2⟩ := hrel
    by_cases hlt : k < na
    · obtain ⟨ba, cap, f, hao, hlo, hhi, ha⟩ := hr.of (by omega)
      subst hao
      have q := ha.cell hlt
      have f0 := ha.free k
      have hk1 : (k : Int) < (na : Int) := by omega
      have hsb : S0 ≤ ba ∧ ba < S1 := ⟨hlo, hhi⟩
      have HR := Lib.hid (hr.self hlt hsb (.int .i64 (-1)))
      have HB := Lib.hid (hbr.setCell (p := ⟨ba, k, none⟩) (Nat.le_trans HLO_S0.out hlo) (.int .i64 (-1)))
      have HK1 := Lib.hid (k1.set (i := k) hsb (.inr HLES1_S1.out) (.int .i64 (-1)))
      have HK2 := Lib.hid (k2.set (i := k) hsb (.inr HLES1_S2.out) (.int .i64 (-1)))
      clear ha hr hbr hsb hlo hhi k1 k2
      go_wp2_with fail
      go_roundw
      case rel => exact ⟨k + 1, by omega, by go_num, HB.out, HR.out, HK1.out, HK2.out⟩
      case measure => simp [intOf]; omega
    · obtain rfl : k = na := by omega
      have HB := Lib.hid hbr
      have HK1 := Lib.hid k1
      have HK2 := Lib.hid k2
      clear hr hbr k1 k2
      go_wp2_with fail
      go_loopw [6] (fun i wr => ∃ k : Nat, k ≤ nb ∧ i = .int .i64 k ∧ Below w.heap.size w wr ∧ RsI wr S1 S2 33 (Value.slice bo nb cb) nb ∧ RsI wr S2 S3 3 (.slice co nc cc) nc) (fun i _ => nb - (intOf i).toNat)
      case atStart => exact ⟨0, Nat.zero_le _, rfl, HB.out, HK1.out, HK2.out⟩
      case round =>
        obtain ⟨k, hk, rfl, hbr, hr, k1⟩ := hrel
        by_cases hlt : k < nb
        · obtain ⟨ba, cap, f, hao, hlo, hhi, ha⟩ := hr.of (by omega)
          subst hao
          have q := ha.cell hlt
          have f0 := ha.free k
          have hk1 : (k : Int) < (nb : Int) := by omega
          have hsb : S1 ≤ ba ∧ ba < S2 := ⟨hlo, hhi⟩
          have HR := Lib.hid (hr.self hlt hsb (.int .u64 0))
          have HB := Lib.hid (hbr.setCell (p := ⟨ba, k, none⟩) (Nat.le_trans HLO_S1.out hlo) (.int .u64 0))
          have HK1 := Lib.hid (k1.set (i := k) hsb (.inr HLES2_S2.out) (.int .u64 0))
          clear ha hr hbr hsb hlo hhi k1
          go_wp2_with fail
          go_roundw
          case rel => exact ⟨k + 1, by omega, by go_num, HB.out, HR.out, HK1.out⟩
          case measure => simp [intOf]; omega
        · obtain rfl : k = nb := by omega
          have HB := Lib.hid hbr
          have HK1 := Lib.hid k1
          clear hr hbr k1
          go_wp2_with fail
          go_loopw [7] (fun i wr => ∃ k : Nat, k ≤ nc ∧ i = .int .i64 k ∧ Below w.heap.size w wr ∧ RsI wr S2 S3 3 (Value.slice co nc cc) nc) (fun i _ => nc - (intOf i).toNat)
          case atStart => exact ⟨0, Nat.zero_le _, rfl, HB.out, HK1.out⟩
          case round =>
            obtain ⟨k, hk, rfl, hbr, hr⟩ := hrel
            by_cases hlt : k < nc
            · obtain ⟨ba, cap, f, hao, hlo, hhi, ha⟩ := hr.of (by omega)
              subst hao
              have q := ha.cell hlt
              have f0 := ha.free k
              have hk1 : (k : Int) < (nc : Int) := by omega
              have hsb : S2 ≤ ba ∧ ba < S3 := ⟨hlo, hhi⟩
              have HR := Lib.hid (hr.self hlt hsb (.int .i64 (-1)))
              have HB := Lib.hid (hbr.setCell (p := ⟨ba, k, none⟩) (Nat.le_trans HLO_S2.out hlo) (.int .i64 (-1)))

              clear ha hr hbr hsb hlo hhi
              go_wp2_with fail
              go_roundw
              case rel => exact ⟨k + 1, by omega, by go_num, HB.out, HR.out⟩
              case measure => simp [intOf]; omega
            · obtain rfl : k = nc := by omega
              have HB := Lib.hid hbr

              clear hr hbr
              go_wp2_with fail
              go_end0
              exact ⟨rfl, HB.out⟩
end Go.Proofs.YtpcpjmgkdbgopaaDoor
