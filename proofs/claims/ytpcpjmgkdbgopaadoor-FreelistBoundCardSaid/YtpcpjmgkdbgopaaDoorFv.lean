/- The freelist: same. -/
import Derived.Test.YtpcpjmgkdbgopaaDoorFu
namespace Go.Proofs.YtpcpjmgkdbgopaaDoor
open Go.RowKit

theorem below_two {w w1 w2 : World} (h : Below w.heap.size w w1) (k : Below w1.heap.size w1 w2) : Below w.heap.size w w2 := h.trans (k.mono h.size)
theorem below_drewN {B : Nat} {w w1 : World} (h : Below B w w1) (n : Nat) : Below B w (w1.drewN n) := ⟨h.os, h.tape, h.output, h.size, h.block⟩
theorem eqTo_self (n : Nat) (f : Nat → Int) : decide (n = n ∧ EqTo n f f) = true := decide_eq_true ⟨rfl, fun _ _ => rfl⟩
theorem equalInts_self (w : World) (v v' : Value) (n : Nat) (f : Nat → Nat) (h : Sl w v n (fun i => encI (f i))) (h' : Sl w v' n (fun i => encI (f i))) (hn : n ≤ 9223372036854775807) :
    Calls Tryd.prog 20 #[v, v'] w fun e w' => e = .returned (.bool true) ∧ ∃ m, w' = w.drewN m := by
  have := equalInts_any w v v' n n (fun i => (f i : Int)) (fun i => (f i : Int)) h h' hn
  rwa [eqTo_self] at this
theorem equalHandles_self (w : World) (v v' : Value) (n : Nat) (f : Nat → Int) (h : Sl w v n (fun i => .int .u64 (f i))) (h' : Sl w v' n (fun i => .int .u64 (f i))) (hn : n ≤ 9223372036854775807) :
    Calls Tryd.prog 38 #[v, v'] w fun e w' => e = .returned (.bool true) ∧ ∃ m, w' = w.drewN m := by
  have := equalHandles_any w v v' n n f f h h' hn
  rwa [eqTo_self] at this
/-- the handles, as numbers -/
def hsF (x : FL) (i : Nat) : Int := hMk ((slotsTo x 1 x.n).getD i 0) (x.gn ((slotsTo x 1 x.n).getD i 0))

set_option maxRecDepth 100000 in
set_option maxHeartbeats 4000000 in
theorem same_any (b : LB) (c : YB) (x : FL) (h slot : Int) (w : World) (h0 : 0 ≤ h) (h1 : h ≤ 18446744073709551615) (hl : IsL w b x) (hy : IsY w c x) (hfi : FInv x) :
    Calls Tryd.prog 18 #[.pointer (some ⟨b.p, 0, none⟩), .pointer (some ⟨c.p, 0, none⟩), .int .u64 h, .int .i64 slot] w fun e w' => e = .returned (.bool true) ∧ Below w.heap.size w w' := by
  have hmn : x.m ≤ 16384 := Nat.le_trans hfi.mn hfi.n2
  have g2 : (slotsTo x 1 x.n).length ≤ 9223372036854775807 := by have := slotsTo_len x 1 x.n; have := hfi.n2; omega
  have g3 : (slotsTo x 2 x.n).length ≤ 9223372036854775807 := by have := slotsTo_len x 2 x.n; have := hfi.n2; omega
  have h4 := hfi.n2
  have g1 : x.m ≤ 9223372036854775807 := by omega
  have HI := Lib.hid hfi
  have HL := Lib.hid hl
  have HY := Lib.hid hy
  clear hl hfi hy
  go_enter Tryd.func18, Tryd.ntmps18
  go_wp2_with fail
  refine (genL_any b x slot w HL.out).mono ?_; rintro e w1 ⟨rfl, rfl⟩
  go_wp2_with fail
  refine (refGenL_any c x slot w HY.out).mono ?_; rintro e w1 ⟨rfl, rfl⟩
  go_wp2_with fail
  refine (free_any b x w HL.out hmn).mono ?_; rintro e w1 ⟨va, rfl, ra, ba⟩
  have HL1 := Lib.hid (HL.out.below ba (Nat.le_refl _))
  have HY1 := Lib.hid (HY.out.below ba (Nat.le_refl _))
  have HA := Lib.hid ra
  have HB1 := Lib.hid ba
  clear ra ba HL HY
  go_wp2_with fail
  refine (refFree_any c x w1 HY1.out hmn).mono ?_; rintro e w2 ⟨vb, rfl, rb, bb⟩
  have HL2 := Lib.hid (HL1.out.below bb (Nat.le_refl _))
  have HY2 := Lib.hid (HY1.out.below bb (Nat.le_refl _))
  have HA2 := Lib.hid (HA.out.keep bb (Nat.le_refl _)).sl
  have HB := Lib.hid rb.sl
  have HB2 := Lib.hid (below_two HB1.out bb)
  clear rb bb HL1 HY1 HA HB1
  go_wp2_with fail
  refine (equalInts_self w2 va vb x.m (freeF x) HA2.out HB.out g1).mono ?_; rintro e w3 ⟨rfl, m3, rfl⟩
  have HL3 := Lib.hid (HL2.out.drewN m3)
  have HY3 := Lib.hid (HY2.out.drewN m3)
  have HB3 := Lib.hid (below_drewN HB2.out m3)
  clear HL2 HY2 HB2 HA2 HB
  generalize w2.drewN m3 = w3 at *
  go_wp2_with fail
  refine (handles_any b x w3 HL3.out HI.out).mono ?_; rintro e w4 hh
  obtain ⟨vc, rfl, rc, bc⟩ := hh.rs
  have HL4 := Lib.hid (HL3.out.below bc (Nat.le_refl _))
  have HY4 := Lib.hid (HY3.out.below bc (Nat.le_refl _))
  have HC := Lib.hid rc
  have HB4 := Lib.hid (below_two HB3.out bc)
  clear hh rc bc HL3 HY3 HB3
  go_wp2_with fail
  refine (refHandles_any c x w4 HY4.out HI.out).mono ?_; rintro e w5 hh
  obtain ⟨vd, rfl, rd, bd⟩ := hh.rs
  have HL5 := Lib.hid (HL4.out.below bd (Nat.le_refl _))
  have HY5 := Lib.hid (HY4.out.below bd (Nat.le_refl _))
  have HC5 := Lib.hid (HC.out.keep bd (Nat.le_refl _)).sl
  have HD := Lib.hid rd.sl
  have HB5 := Lib.hid (below_two HB4.out bd)
  clear hh rd bd HL4 HY4 HB4 HC
  go_wp2_with fail
  refine (equalHandles_self w5 vc vd (slotsTo x 1 x.n).length (hsF x) HC5.out HD.out g2).mono ?_; rintro e w6 ⟨rfl, m6, rfl⟩
  have HL6 := Lib.hid (HL5.out.drewN m6)
  have HY6 := Lib.hid (HY5.out.drewN m6)
  have HB6 := Lib.hid (below_drewN HB5.out m6)
  clear HL5 HY5 HB5 HC5 HD
  generalize w5.drewN m6 = w6 at *
  go_wp2_with fail
  refine (withdrawn_any b x w6 HL6.out h4).mono ?_; rintro e w7 hh
  obtain ⟨ve, rfl, re, be⟩ := hh.rs
  have HL7 := Lib.hid (HL6.out.below be (Nat.le_refl _))
  have HY7 := Lib.hid (HY6.out.below be (Nat.le_refl _))
  have HE := Lib.hid re
  have HB7 := Lib.hid (below_two HB6.out be)
  clear hh re be HL6 HY6 HB6
  go_wp2_with fail
  refine (refWithdrawn_any c x w7 HY7.out h4).mono ?_; rintro e w8 hh
  obtain ⟨vf, rfl, rf, bf⟩ := hh.rs
  have HL8 := Lib.hid (HL7.out.below bf (Nat.le_refl _))
  have HY8 := Lib.hid (HY7.out.below bf (Nat.le_refl _))
  have HE8 := Lib.hid (HE.out.keep bf (Nat.le_refl _)).sl
  have HF := Lib.hid rf.sl
  have HB8 := Lib.hid (below_two HB7.out bf)
  clear hh rf bf HL7 HY7 HB7 HE
  go_wp2_with fail
  refine (equalInts_self w8 ve vf (slotsTo x 2 x.n).length (fun i => (slotsTo x 2 x.n).getD i 0) HE8.out HF.out g3).mono ?_; rintro e w9 ⟨rfl, m9, rfl⟩
  have HL9 := Lib.hid (HL8.out.drewN m9)
  have HY9 := Lib.hid (HY8.out.drewN m9)
  have HB9 := Lib.hid (below_drewN HB8.out m9)
  clear HL8 HY8 HB8 HE8 HF
  generalize w8.drewN m9 = w9 at *
  go_wp2_with fail
  refine (live_any b x h w9 h0 h1 HL9.out).mono ?_; rintro e w10 ⟨rfl, m10, rfl⟩
  have HY10 := Lib.hid (HY9.out.drewN m10)
  have HB10 := Lib.hid (below_drewN HB9.out m10)
  clear HL9 HY9 HB9
  generalize w9.drewN m10 = w10 at *
  go_wp2_with fail
  refine (refLive_any c x h w10 h0 h1 HY10.out).mono ?_; rintro e w11 ⟨rfl, m11, rfl⟩
  have HB11 := Lib.hid (below_drewN HB10.out m11)
  go_wp2_with fail
  go_ret
  exact ⟨rfl, HB11.out⟩
end Go.Proofs.YtpcpjmgkdbgopaaDoor
