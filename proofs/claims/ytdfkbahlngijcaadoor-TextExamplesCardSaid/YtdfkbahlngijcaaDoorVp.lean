/- Text: the law's own small: its walk. -/
import Derived.Test.YtdfkbahlngijcaaDoorKc
namespace Go.Proofs.YtdfkbahlngijcaaDoor
open Go.RowKit
set_option linter.unusedVariables false

def shortO (x : Ov) : Bool := decide (x.t.size ≤ 300)
def smallP (p : Pg) : Bool := decide (p.n ≤ 260) && p.l.all shortO
def smallH (c : Cf) (pn qn : Nat) : Bool := decide (pn ≤ 10) && (decide (c.t.size ≤ 1000) && decide (qn ≤ 3000))
def smallS (c : Cf) (pn qn : Nat) (ss : List Pg) : Bool := smallH c pn qn && ss.all smallP
set_option maxRecDepth 100000 in
set_option maxHeartbeats 8000000 in
theorem small_any (c : Cf) (po : Option Addr) (pn pc : Nat) (qo : Option Addr) (qn qc : Nat) (ss : List Pg) (w : World) (hp : IsPg w po pn ss) :
    Calls Tryd.prog 15 #[.agg #[.int .i64 c.slots, .int .u64 c.gens, .int .i64 c.clients, .int .i64 c.readers, .int .i64 c.queue, .int .i64 c.batch, .int .i64 c.feed, .string c.t, .slice po pn pc, .slice qo qn qc]] w fun e w' => e = .returned (.bool (smallS c pn qn ss)) ∧ Below w.heap.size w w' := by
  have HLN := Lib.hid (show ss.length = pn from hp.1.1)
  have HP := Lib.hid hp
  have HSS := Lib.hid (show smallS c pn qn ss = (smallH c pn qn && ss.all smallP) from rfl)
  have HSH := Lib.hid (show smallH c pn qn = (decide (pn ≤ 10) && (decide (c.t.size ≤ 1000) && decide (qn ≤ 3000))) from rfl)
  have HB0 := Lib.hid ((Below.refl w.heap.size w).alloc (Nat.le_refl _) (.cells (scA c po pn pc qo qn qc) 42))
  have HNB := Lib.hid (block_new w (.cells (scA c po pn pc qo qn qc) 42))
  generalize smallS c pn qn ss = S at *
  generalize smallH c pn qn = Hd at *
  obtain ⟨ca, cb, cl, cd, ce, cf, cg, t⟩ := c
  unfold scA at HNB HB0
  simp only at HNB HB0 HSH ⊢
  generalize hw1 : w.alloc (.cells #[.int .i64 ca, .int .u64 cb, .int .i64 cl, .int .i64 cd, .int .i64 ce, .int .i64 cf, .int .i64 cg, .string t, .slice po pn pc, .slice qo qn qc] 42) = w1 at *
  have HW1 := Lib.hid hw1
  have q7 := block_cell HNB.out 7
  have q8 := block_cell HNB.out 8
  have q9 := block_cell HNB.out 9
  simp at q7 q8 q9
  clear hw1 hp
  go_enter Tryd.func15, Tryd.ntmps15
  go_upto_region 1 with (fail)
  rw [HW1.out]
  go_cut [21] from 5 to 21 (fun v wq => v = .bool (!Hd) ∧ w1 = wq)
  case first =>
    by_cases h1 : 10 < pn
    · have h1i : (10 : Int) < (pn : Int) := by omega
      have HX := Lib.hid (show (!Hd) = true by rw [HSH.out, decide_eq_false (by omega)]; rfl)
      go_wp2_with fail
      go_meet
      case rel => exact ⟨by rw [HX.out] <;> rfl, rfl⟩
    · have h1i : ¬ ((10 : Int) < (pn : Int)) := by omega
      have h1d := decide_eq_false h1i
      by_cases h2 : 1000 < t.size
      · have h2i : (1000 : Int) < (t.size : Int) := by omega
        have HX := Lib.hid (show (!Hd) = true by rw [HSH.out, decide_eq_false (show ¬ t.size ≤ 1000 by omega), Bool.false_and, Bool.and_false]; rfl)
        go_wp2_with fail
        go_meet
        case rel => exact ⟨by rw [HX.out] <;> rfl, rfl⟩
      · have h2i : ¬ ((1000 : Int) < (t.size : Int)) := by omega
        have h2d := decide_eq_false h2i
        by_cases h3 : 3000 < qn
        · have h3i : (3000 : Int) < (qn : Int) := by omega
          have HX := Lib.hid (show (!Hd) = true by rw [HSH.out, decide_eq_false (show ¬ qn ≤ 3000 by omega), Bool.and_false, Bool.and_false]; rfl)
          go_wp2_with fail
          go_meet
          case rel => exact ⟨by rw [HX.out] <;> rfl, rfl⟩
        · have h3i : ¬ ((3000 : Int) < (qn : Int)) := by omega
          have h3d := decide_eq_false h3i
          have HX := Lib.hid (show (!Hd) = false by rw [HSH.out, decide_eq_true (show pn ≤ 10 by omega), decide_eq_true (show t.size ≤ 1000 by omega), decide_eq_true (show qn ≤ 3000 by omega)]; rfl)
          go_wp2_with fail
          go_meet
          case rel => exact ⟨by rw [HX.out] <;> rfl, rfl⟩
  case rest =>
    obtain ⟨rfl, rfl⟩ := hcut
    rcases Hd with _ | _
    · have HX := Lib.hid (show S = false by rw [HSS.out]; rfl)
      go_wp2_with fail
      go_ret
      exact ⟨by rw [HX.out] <;> rfl, HB0.out⟩
    · have HSS2 := Lib.hid (show S = ss.all smallP by rw [HSS.out]; rfl)
      have hp10 : pn ≤ 10 := by
        have := HSH.out.symm
        simp only [Bool.and_eq_true, decide_eq_true_eq] at this
        exact this.1
      go_wp2_with fail
      go_loop [3] (fun s3 => ∃ (i : Nat), i ≤ pn ∧ s3 = .int .i64 i ∧ ss.all smallP = (ss.drop i).all smallP) (fun s3 => pn - (intOf s3).toNat)
      case atStart => exact ⟨0, Nat.zero_le _, rfl, rfl⟩
      case round =>
        obtain ⟨i, hi, rfl, hA⟩ := hrel
        have HA := Lib.hid hA
        clear hA
        by_cases hlt : i < pn
        · as_aux_lemma =>
            have hlt' : (i : Int) < (pn : Int) := by omega
            have hi0 : (0 : Int) ≤ (i : Int) := by omega
            have HIL := Lib.hid (show i < ss.length by rw [HLN.out]; exact hlt)
            obtain ⟨bp, op, rfl, hbp, hcl⟩ := HP.out.at HB0.out hlt
            have c0 := hcl HIL.out
            have HOPS := Lib.hid (HP.out.2 (ss[i]'HIL.out) (List.getElem_mem _))
            have HA2 := Lib.hid (show ss.all smallP = (smallP (ss[i]'HIL.out) && (ss.drop (i + 1)).all smallP) by rw [HA.out, drop_at HIL.out]; rfl)
            generalize ss[i]'HIL.out = p at *
            obtain ⟨sa, sn, sc, sl⟩ := p
            have HOPS2 := Lib.hid (show IsR fO w sa sn sl from HOPS.out)
            have HSN := Lib.hid (show sl.length = sn from HOPS.out.1)
            replace HA2 := Lib.hid (show ss.all smallP = ((decide (sn ≤ 260) && sl.all shortO) && (ss.drop (i + 1)).all smallP) from HA2.out)
            replace c0 : w1.cell? ⟨bp, op + i, none⟩ = some (.slice sa sn sc) := c0
            clear HOPS hcl
            by_cases h260 : 260 < sn
            · have h260' : (260 : Int) < (sn : Int) := by omega
              have HX := Lib.hid (show S = false by rw [HSS2.out, HA2.out, decide_eq_false (show ¬ sn ≤ 260 by omega)]; rfl)
              go_wp2_with fail
              go_ret
              exact ⟨by rw [HX.out] <;> rfl, HB0.out⟩
            · have h260' : ¬ ((260 : Int) < (sn : Int)) := by omega
              have HA3 := Lib.hid (show ss.all smallP = (sl.all shortO && (ss.drop (i + 1)).all smallP) by rw [HA2.out, decide_eq_true (show sn ≤ 260 by omega)]; rfl)
              go_wp2_with fail
              go_loop [4] (fun s4 => ∃ (j : Nat), j ≤ sn ∧ s4 = .int .i64 j ∧ sl.all shortO = (sl.drop j).all shortO) (fun s4 => sn - (intOf s4).toNat)
              case atStart => exact ⟨0, Nat.zero_le _, rfl, rfl⟩
              case round =>
                obtain ⟨j, hj, rfl, hB⟩ := hrel
                have HB := Lib.hid hB
                clear hB
                by_cases hlj : j < sn
                · as_aux_lemma =>
                    have hlj' : (j : Int) < (sn : Int) := by omega
                    have hj0 : (0 : Int) ≤ (j : Int) := by omega
                    have HJL := Lib.hid (show j < sl.length by rw [HSN.out]; exact hlj)
                    obtain ⟨bo, oo, rfl, hbo, hcl⟩ := HOPS2.out.op HB0.out hlj
                    have hcl := hcl HJL.out
                    have HB2 := Lib.hid (show sl.all shortO = (shortO (sl[j]'HJL.out) && (sl.drop (j + 1)).all shortO) by rw [HB.out, drop_at HJL.out]; rfl)
                    generalize sl[j]'HJL.out = x at *
                    have d6 := hcl 6 _ rfl
                    have HB3 := Lib.hid (show sl.all shortO = (decide (x.t.size ≤ 300) && (sl.drop (j + 1)).all shortO) from HB2.out)
                    generalize x.t = xt at *
                    clear hcl
                    by_cases h300 : 300 < xt.size
                    · have h300' : (300 : Int) < (xt.size : Int) := by omega
                      have HX := Lib.hid (show S = false by rw [HSS2.out, HA3.out, HB3.out, decide_eq_false (show ¬ xt.size ≤ 300 by omega)]; rfl)
                      go_wp2_with fail
                      go_ret
                      exact ⟨by rw [HX.out] <;> rfl, HB0.out⟩
                    · have h300' : ¬ ((300 : Int) < (xt.size : Int)) := by omega
                      have HB4 := Lib.hid (show sl.all shortO = (sl.drop (j + 1)).all shortO by rw [HB3.out, decide_eq_true (show xt.size ≤ 300 by omega)]; rfl)
                      go_wp2_with fail
                      go_round
                      case rel => exact ⟨j + 1, by omega, by go_num, HB4.out⟩
                      case measure => (simp [intOf] <;> omega)
                · as_aux_lemma =>
                    obtain rfl : j = sn := by omega
                    have hlj' : ¬ ((j : Int) < (j : Int)) := by omega
                    have HB4 := Lib.hid (show ss.all smallP = (ss.drop (i + 1)).all smallP by
                      rw [HA3.out, HB.out, List.drop_of_length_le (show sl.length ≤ j by rw [HSN.out]; omega)]; rfl)
                    clear hlj
                    go_wp2_with fail
                    go_round
                    case rel => exact ⟨i + 1, by omega, by go_num, HB4.out⟩
                    case measure => (simp [intOf] <;> omega)
        · as_aux_lemma =>
            obtain rfl : i = pn := by omega
            have hlt' : ¬ ((i : Int) < (i : Int)) := by omega
            have HX := Lib.hid (show S = true by rw [HSS2.out, HA.out, List.drop_of_length_le (show ss.length ≤ i by rw [HLN.out]; omega)]; rfl)
            clear hlt
            go_wp2_with fail
            go_ret
            exact ⟨by rw [HX.out] <;> rfl, HB0.out⟩
structure SmallZ (c : Cf) (pn qn : Nat) (ss : List Pg) : Prop where
  pn : pn ≤ 10
  t : c.t.size ≤ 1000
  qn : qn ≤ 3000
  prog : ∀ s ∈ ss, s.n ≤ 260
  op : ∀ s ∈ ss, ∀ x ∈ s.l, x.t.size ≤ 300
theorem small_of {c : Cf} {pn qn : Nat} {ss : List Pg} (h : smallS c pn qn ss = true) : SmallZ c pn qn ss := by
  unfold smallS smallH at h
  simp only [Bool.and_eq_true, decide_eq_true_eq] at h
  obtain ⟨⟨h1, h2, h3⟩, h4⟩ := h
  have hs := fun s hs => List.all_eq_true.1 h4 s hs
  unfold smallP at hs
  simp only [Bool.and_eq_true, decide_eq_true_eq] at hs
  exact ⟨h1, h2, h3, fun s k => (hs s k).1, fun s k x hx => by
    have := List.all_eq_true.1 (hs s k).2 x hx
    unfold shortO at this
    exact of_decide_eq_true this⟩
end Go.Proofs.YtdfkbahlngijcaaDoor

