/- Text: script.Check in general: its walk. -/
import Derived.Test.YtdfkbahlngijcaaDoorSg
namespace Go.Proofs.YtdfkbahlngijcaaDoor
open Go.RowKit
set_option linter.unusedVariables false

set_option maxRecDepth 100000 in
set_option maxHeartbeats 16000000 in
theorem check_sc (c : Cf) (po : Option Addr) (pn pc : Nat) (qo : Option Addr) (qn qc : Nat) (ss : List Pg) (ps : List Int) (w : World) (hp : IsPg w po pn ss) (hq : IsR fI w qo qn ps)
    (hct : c.t.size ≤ 140737488355328) (hpt : ∀ s ∈ ss, ∀ x ∈ s.l, x.t.size ≤ 140737488355328) (hpn : pn ≤ 140737488355328) (hqn : qn ≤ 140737488355328) :
    Calls Tryd.prog 25 #[.agg #[.int .i64 c.slots, .int .u64 c.gens, .int .i64 c.clients, .int .i64 c.readers, .int .i64 c.queue, .int .i64 c.batch, .int .i64 c.feed, .string c.t, .slice po pn pc, .slice qo qn qc]] w fun e w' => e = .returned (.int .i64 (scE c ss ps)) ∧ Below w.heap.size w w' := by
  have HP := Lib.hid hp
  have HQ := Lib.hid hq
  have HLN := Lib.hid (show ss.length = pn from hp.1.1)
  have HQN := Lib.hid (show ps.length = qn from hq.1)
  have HPT := Lib.hid hpt
  have HSC := Lib.hid (show scE c ss ps = if cfgE c ≠ 0 then cfgE c else if (ss.length : Int) ≠ c.clients then 2 else if progE ss ≠ 0 then progE ss else if 65535 < ps.length then 5 else
    if ps.all (fun q => inR q 0 c.clients) = true then (if 65536 < lenSc c ss ps.length then 5 else 0) else 2 from rfl)
  have HLB := Lib.hid (fun h1 h2 h3 h4 h5 => len_bound (c := c) (ss := ss) (n := qn) h1 h2 h3 h4 h5)
  have HLEN := Lib.hid (fun (u : World) (h : IsPg u po pn ss) h2 h3 => length_sc c po pn pc qo qn qc ss u h h2 h3)
  have HB0 := Lib.hid ((Below.refl w.heap.size w).alloc (Nat.le_refl _) (.cells (scA c po pn pc qo qn qc) 42))
  have HNB := Lib.hid (block_new w (.cells (scA c po pn pc qo qn qc) 42))
  have HCK := Lib.hid (cfgCheck_any c (w.alloc (.cells (scA c po pn pc qo qn qc) 42)) hct)
  rw [HLN.out, HQN.out] at HSC
  have HSM := Lib.hid (show IsPg w po pn ss from hp)
  generalize hE : cfgE c = E at *
  have HE := Lib.hid hE
  generalize scE c ss ps = P at *
  obtain ⟨L, hL⟩ : ∃ L, L = lenSc c ss qn := ⟨_, rfl⟩
  rw [← hL] at HSC HLEN HLB
  clear hL
  obtain ⟨ca, cb, cl, cd, ce, cf, cg, t⟩ := c
  replace HSC := Lib.hid (show P = if E ≠ 0 then E else if (pn : Int) ≠ cl then 2 else if progE ss ≠ 0 then progE ss else if 65535 < qn then 5 else
    if ps.all (fun q => inR q 0 cl) = true then (if 65536 < L then 5 else 0) else 2 from HSC.out)
  clear hE hp hq hpt
  have q0 := block_cell HNB.out 0
  have q1 := block_cell HNB.out 1
  have q2 := block_cell HNB.out 2
  have q3 := block_cell HNB.out 3
  have q4 := block_cell HNB.out 4
  have q5 := block_cell HNB.out 5
  have q6 := block_cell HNB.out 6
  have q7 := block_cell HNB.out 7
  unfold scA at q0 q1 q2 q3 q4 q5 q6 q7 HNB HCK HB0
  simp at q0 q1 q2 q3 q4 q5 q6 q7
  replace HLEN := Lib.hid (show ∀ (u : World), IsPg u po pn ss → (∀ s ∈ ss, ∀ x ∈ s.l, plainO x = true) → L ≤ 1000000000000 → Calls Tryd.prog 64 #[.agg #[.int .i64 ca, .int .u64 cb, .int .i64 cl, .int .i64 cd, .int .i64 ce, .int .i64 cf, .int .i64 cg, .string t, .slice po pn pc, .slice qo qn qc]] u fun e w' => e = .returned (.int .i64 (L : Nat)) ∧ Below u.heap.size u w' from HLEN.out)
  go_enter Tryd.func25, Tryd.ntmps25
  go_wp2_with fail
  refine (HCK.out).mono ?_; rintro e w2 ⟨rfl, hb2⟩
  have HO2 := Lib.hid (block_below hb2 HNB.out (by simp))
  have HB2 := Lib.hid (HB0.out.trans (hb2.mono (by have := HB0.out.size; exact this)))
  have HLT := Lib.hid (block_lt HO2.out)
  have HP2 := Lib.hid (HP.out.later HB2.out)
  have HQ2 := Lib.hid (HQ.out.later HB2.out)
  clear hb2 HCK HB0 HNB q0 q1 q2 q3 q4 q5 q6 q7 HP HQ HSM
  generalize hbo : w.heap.size = bz0 at *
  have HBO := Lib.hid hbo
  have HSZ := Lib.hid (show bz0 ≤ w2.heap.size by have := HLT.out; omega)
  clear hbo
  have q0 := block_cell HO2.out 0
  have q1 := block_cell HO2.out 1
  have q2 := block_cell HO2.out 2
  have q3 := block_cell HO2.out 3
  have q4 := block_cell HO2.out 4
  have q5 := block_cell HO2.out 5
  have q6 := block_cell HO2.out 6
  have q7 := block_cell HO2.out 7
  have q8 := block_cell HO2.out 8
  have q9 := block_cell HO2.out 9
  simp at q0 q1 q2 q3 q4 q5 q6 q7 q8 q9
  by_cases h0 : E = 0
  · have HE0 := Lib.hid (show cfgE { slots := ca, gens := cb, clients := cl, readers := cd, queue := ce, batch := cf, feed := cg, t := t } = 0 from HE.out.trans h0)
    subst h0
    by_cases h1 : (pn : Int) = cl
    · subst h1
      go_wp2_with fail
      go_loopw [26] (fun s26 wr => ∃ (i : Nat), i ≤ pn ∧ s26 = .int .i64 i ∧ progE ss = progE (ss.drop i) ∧ Below w2.heap.size w2 wr) (fun s26 _ => pn - (intOf s26).toNat)
      case atStart => exact ⟨0, Nat.zero_le _, rfl, rfl, Below.refl _ _⟩
      case round =>
        obtain ⟨i, hi, rfl, hG, hbr⟩ := hrel
        have HG := Lib.hid hG
        have HBR := Lib.hid hbr
        clear hG
        by_cases hlt : i < pn
        · as_aux_lemma =>
            have hlt' : (i : Int) < (pn : Int) := by omega
            have hi0 : (0 : Int) ≤ (i : Int) := by omega
            have HIL := Lib.hid (show i < ss.length by rw [HLN.out]; exact hlt)
            obtain ⟨bp, op, rfl, hbp, hcl⟩ := HP2.out.at hbr hlt
            have c0 := hcl HIL.out
            have HOPS := Lib.hid (HP2.out.2 (ss[i]'HIL.out) (List.getElem_mem _))
            have HPX := Lib.hid (HPT.out (ss[i]'HIL.out) (List.getElem_mem _))
            have HG2 := Lib.hid (show progE ss = if 256 < (ss[i]'HIL.out).n then 5 else if (ss[i]'HIL.out).l.all plainO = true then progE (ss.drop (i + 1)) else 2 by rw [HG.out, drop_at HIL.out]; rfl)
            generalize ss[i]'HIL.out = p at *
            obtain ⟨sa, sn, sc, sl⟩ := p
            have HOPS2 := Lib.hid (show IsR fO w2 sa sn sl from HOPS.out)
            have HPX2 := Lib.hid (show ∀ x ∈ sl, x.t.size ≤ 140737488355328 from HPX.out)
            have HSN := Lib.hid (show sl.length = sn from HOPS.out.1)
            replace HG2 := Lib.hid (show progE ss = if 256 < sn then 5 else if sl.all plainO = true then progE (ss.drop (i + 1)) else 2 from HG2.out)
            replace c0 : wr.cell? ⟨bp, op + i, none⟩ = some (.slice sa sn sc) := c0
            clear HOPS HPX hcl
            by_cases h256 : 256 < sn
            · have h256' : (256 : Int) < (sn : Int) := by omega
              have HX := Lib.hid (show P = 5 by rw [HSC.out, if_neg (fun h => h rfl), if_neg (fun h => h rfl), HG2.out, if_pos h256, if_pos (by decide)])
              clear hbr
              go_wp2_with fail
              go_ret
              exact ⟨by rw [HX.out] <;> rfl, by rw [HBO.out]; exact HB2.out.trans (HBR.out.mono HSZ.out)⟩
            · have h256' : ¬ ((256 : Int) < (sn : Int)) := by omega
              have hsn : (sn : Int) ≤ 256 := by omega
              clear hbr
              go_wp2_with fail
              clear c0
              generalize wr = w3 at *
              go_loopw [35] (fun s35 wr => ∃ (j : Nat), j ≤ sn ∧ s35 = .int .i64 j ∧ sl.all plainO = (sl.drop j).all plainO ∧ Below w2.heap.size w2 wr) (fun s35 _ => sn - (intOf s35).toNat)
              case atStart => exact ⟨0, Nat.zero_le _, rfl, rfl, HBR.out⟩
              case round =>
                obtain ⟨j, hj, rfl, hA, hbj⟩ := hrel
                have HA := Lib.hid hA
                have HBJ := Lib.hid hbj
                have hszj := hbj.size
                clear hA
                by_cases hlj : j < sn
                · as_aux_lemma =>
                    have hlj' : (j : Int) < (sn : Int) := by omega
                    have hj0 : (0 : Int) ≤ (j : Int) := by omega
                    have HJL := Lib.hid (show j < sl.length by rw [HSN.out]; exact hlj)
                    obtain ⟨bo, oo, rfl, hbo, hcl⟩ := HOPS2.out.op hbj hlj
                    have hcl := hcl HJL.out
                    have HT := Lib.hid (HPX2.out (sl[j]'HJL.out) (List.getElem_mem _))
                    have HA2 := Lib.hid (show sl.all plainO = (plainO (sl[j]'HJL.out) && (sl.drop (j + 1)).all plainO) by rw [HA.out, drop_at HJL.out]; rfl)
                    generalize sl[j]'HJL.out = x at *
                    have c0 := hcl 0 _ rfl
                    have c1 := hcl 1 _ rfl
                    have c2 := hcl 2 _ rfl
                    have c3 := hcl 3 _ rfl
                    have c4 := hcl 4 _ rfl
                    have c5 := hcl 5 _ rfl
                    have c6 := hcl 6 _ rfl
                    rw [Nat.add_zero] at c0
                    have HOB := Lib.hid (block_new wr (.cells #[.int .u8 x.k, .int .i64 x.slot, .int .i64 x.at_, .int .i64 x.n, .int .u32 x.id, .int .u8 x.g, .string x.t] 51))
                    have HBA := Lib.hid (hbj.alloc hszj (.cells #[.int .u8 x.k, .int .i64 x.slot, .int .i64 x.at_, .int .i64 x.n, .int .u32 x.id, .int .u8 x.g, .string x.t] 51))
                    have HCP := Lib.hid (plainS_any x (wr.alloc (.cells #[.int .u8 x.k, .int .i64 x.slot, .int .i64 x.at_, .int .i64 x.n, .int .u32 x.id, .int .u8 x.g, .string x.t] 51)) HT.out)
                    have d0 := block_cell HOB.out 0
                    have d1 := block_cell HOB.out 1
                    have d2 := block_cell HOB.out 2
                    have d3 := block_cell HOB.out 3
                    have d4 := block_cell HOB.out 4
                    have d5 := block_cell HOB.out 5
                    have d6 := block_cell HOB.out 6
                    simp at d0 d1 d2 d3 d4 d5 d6
                    clear hcl hbj
                    by_cases hpl : plainO x = true
                    · rw [hpl] at HCP
                      have HA3 := Lib.hid (show sl.all plainO = (sl.drop (j + 1)).all plainO by rw [HA2.out, hpl, Bool.true_and])
                      clear hpl
                      go_wp2_with fail
                      refine (HCP.out).mono ?_; rintro e w5 ⟨rfl, hb5⟩
                      have HB5 := Lib.hid (HBA.out.trans (hb5.mono (by have := HBA.out.size; exact this)))
                      clear hb5 c0 c1 c2 c3 c4 c5 c6 d0 d1 d2 d3 d4 d5 d6 HCP HBA HOB
                      go_wp2_with fail
                      go_roundw
                      case rel => exact ⟨j + 1, by omega, by go_num, HA3.out, HB5.out⟩
                      case measure => (simp [intOf] <;> omega)
                    · have hpf := Bool.eq_false_iff.2 hpl
                      rw [hpf] at HCP
                      have HX := Lib.hid (show P = 2 by
                        have e : progE ss = 2 := by rw [HG2.out, if_neg h256, HA2.out, hpf, Bool.false_and]; rfl
                        rw [HSC.out, if_neg (fun h => h rfl), if_neg (fun h => h rfl), e]; rfl)
                      clear hpl hpf
                      go_wp2_with fail
                      refine (HCP.out).mono ?_; rintro e w5 ⟨rfl, hb5⟩
                      have HB5 := Lib.hid (HBA.out.trans (hb5.mono (by have := HBA.out.size; exact this)))
                      clear hb5 c0 c1 c2 c3 c4 c5 c6 d0 d1 d2 d3 d4 d5 d6 HCP HBA HOB
                      go_wp2_with fail
                      go_ret
                      exact ⟨by rw [HX.out] <;> rfl, by rw [HBO.out]; exact HB2.out.trans (HB5.out.mono HSZ.out)⟩
                · as_aux_lemma =>
                    have hlj' : ¬ ((j : Int) < (sn : Int)) := by omega
                    have HA3 := Lib.hid (show sl.all plainO = true by rw [HA.out, List.drop_of_length_le (by rw [HSN.out]; omega)]; rfl)
                    have HG3 := Lib.hid (show progE ss = progE (ss.drop (i + 1)) by rw [HG2.out, if_neg h256, if_pos HA3.out])
                    clear hlj hbj
                    go_wp2_with fail
                    go_roundw
                    case rel => exact ⟨i + 1, by omega, by go_num, HG3.out, HBJ.out⟩
                    case measure => (simp [intOf] <;> omega)
        · as_aux_lemma =>
            have hlt' : ¬ ((i : Int) < (pn : Int)) := by omega
            have HG3 := Lib.hid (show progE ss = 0 by rw [HG.out, List.drop_of_length_le (by rw [HLN.out]; omega)]; rfl)
            replace HSC := Lib.hid (show P = if 65535 < qn then 5 else if ps.all (fun q => inR q 0 pn) = true then (if 65536 < L then 5 else 0) else 2 by
              rw [HSC.out, if_neg (fun h => h rfl), if_neg (fun h => h rfl), if_neg (fun h => h HG3.out)])
            have HOR := Lib.hid (block_below hbr HO2.out HLT.out)
            have r2 := block_cell HOR.out 2
            have r9 := block_cell HOR.out 9
            simp at r2 r9
            have hszr := hbr.size
            by_cases hq5 : 65535 < qn
            · have hq5' : (65535 : Int) < (qn : Int) := by omega
              have HX := Lib.hid (show P = 5 by rw [HSC.out, if_pos hq5])
              clear hlt hbr
              go_wp2_with fail
              go_ret
              exact ⟨by rw [HX.out] <;> rfl, by rw [HBO.out]; exact HB2.out.trans (HBR.out.mono HSZ.out)⟩
            · have hq5' : ¬ ((65535 : Int) < (qn : Int)) := by omega
              have hqn2 : (qn : Int) ≤ 65535 := by omega
              have HQ5 := Lib.hid hq5
              replace HSC := Lib.hid (show P = if ps.all (fun q => inR q 0 pn) = true then (if 65536 < L then 5 else 0) else 2 by rw [HSC.out, if_neg hq5])
              clear hlt hbr hq5
              go_wp2_with fail
              clear r2 r9
              generalize wr = w3 at *
              go_loopw [51] (fun s51 wr => ∃ (k : Nat), k ≤ qn ∧ s51 = .int .i64 k ∧ ps.all (fun q => inR q 0 pn) = (ps.drop k).all (fun q => inR q 0 pn) ∧ Below w2.heap.size w2 wr) (fun s51 _ => qn - (intOf s51).toNat)
              case atStart => exact ⟨0, Nat.zero_le _, rfl, rfl, HBR.out⟩
              case round =>
                obtain ⟨k, hk, rfl, hA, hbk⟩ := hrel
                have HA := Lib.hid hA
                have HBK := Lib.hid hbk
                have HOK := Lib.hid (block_below hbk HO2.out HLT.out)
                have hszk := hbk.size
                clear hA
                by_cases hlk : k < qn
                · as_aux_lemma =>
                    have hlk' : (k : Int) < (qn : Int) := by omega
                    have hk0 : (0 : Int) ≤ (k : Int) := by omega
                    have HKL := Lib.hid (show k < ps.length by rw [HQN.out]; exact hlk)
                    obtain ⟨bk, ok, rfl, hbk2, hcl⟩ := HQ2.out.pick hbk hlk
                    have c0 := hcl HKL.out
                    have HA2 := Lib.hid (show ps.all (fun q => inR q 0 pn) = (inR (ps[k]'HKL.out) 0 pn && (ps.drop (k + 1)).all (fun q => inR q 0 pn)) by rw [HA.out, drop_at HKL.out]; rfl)
                    generalize ps[k]'HKL.out = v at *
                    have r2 := block_cell HOK.out 2
                    simp at r2
                    clear hcl hbk
                    by_cases hv0 : v < 0
                    · have HX := Lib.hid (show P = 2 by
                        have e : inR v 0 pn = false := by unfold inR; rw [decide_eq_false (by omega)]; rfl
                        rw [HSC.out, HA2.out, e]; rfl)
                      go_wp2_with fail
                      go_ret
                      exact ⟨by rw [HX.out] <;> rfl, by rw [HBO.out]; exact HB2.out.trans (HBK.out.mono HSZ.out)⟩
                    · by_cases hv1 : (pn : Int) < v
                      · have HX := Lib.hid (show P = 2 by
                          have e : inR v 0 pn = false := by unfold inR; rw [decide_eq_false (show ¬ v ≤ (pn : Int) by omega), Bool.and_false]
                          rw [HSC.out, HA2.out, e]; rfl)
                        go_wp2_with fail
                        go_ret
                        exact ⟨by rw [HX.out] <;> rfl, by rw [HBO.out]; exact HB2.out.trans (HBK.out.mono HSZ.out)⟩
                      · have HA3 := Lib.hid (show ps.all (fun q => inR q 0 pn) = (ps.drop (k + 1)).all (fun q => inR q 0 pn) by
                          have e : inR v 0 pn = true := by unfold inR; rw [decide_eq_true (by omega), decide_eq_true (by omega)]; rfl
                          rw [HA2.out, e, Bool.true_and])
                        go_wp2_with fail
                        go_roundw
                        case rel => exact ⟨k + 1, by omega, by go_num, HA3.out, HBK.out⟩
                        case measure => (simp [intOf] <;> omega)
                · as_aux_lemma =>
                    have hlk' : ¬ ((k : Int) < (qn : Int)) := by omega
                    have HA3 := Lib.hid (show ps.all (fun q => inR q 0 pn) = true by rw [HA.out, List.drop_of_length_le (by rw [HQN.out]; omega)]; rfl)
                    replace HSC := Lib.hid (show P = if 65536 < L then 5 else 0 by rw [HSC.out, if_pos HA3.out])
                    have hL : L ≤ 1000000000000 := HLB.out trivial (by rw [HLN.out]) HG3.out (fun s hs => (HP2.out.2 s hs).1) (by have := HQ5.out; omega)
                    have HCL := Lib.hid (HLEN.out wr (HP2.out.later hbk) (fun s hs x hx => List.all_eq_true.1 (progE_zero HG3.out s hs).2 x hx) hL)
                    have r0 := block_cell HOK.out 0
                    have r1 := block_cell HOK.out 1
                    have r2 := block_cell HOK.out 2
                    have r3 := block_cell HOK.out 3
                    have r4 := block_cell HOK.out 4
                    have r5 := block_cell HOK.out 5
                    have r6 := block_cell HOK.out 6
                    have r7 := block_cell HOK.out 7
                    have r8 := block_cell HOK.out 8
                    have r9 := block_cell HOK.out 9
                    simp at r0 r1 r2 r3 r4 r5 r6 r7 r8 r9
                    clear hbk
                    by_cases h6 : 65536 < L
                    · have h6' : (65536 : Int) < (L : Int) := by omega
                      have HX := Lib.hid (show P = 5 by rw [HSC.out, if_pos h6])
                      go_wp2_with fail
                      refine (HCL.out).mono ?_; rintro e w6 ⟨rfl, hb6⟩
                      have HB6 := Lib.hid (HBK.out.trans (hb6.mono HBK.out.size))
                      clear hb6
                      go_wp2_with fail
                      go_ret
                      exact ⟨by rw [HX.out] <;> rfl, by rw [HBO.out]; exact HB2.out.trans (HB6.out.mono HSZ.out)⟩
                    · have h6' : ¬ ((65536 : Int) < (L : Int)) := by omega
                      have HX := Lib.hid (show P = 0 by rw [HSC.out, if_neg h6])
                      go_wp2_with fail
                      refine (HCL.out).mono ?_; rintro e w6 ⟨rfl, hb6⟩
                      have HB6 := Lib.hid (HBK.out.trans (hb6.mono HBK.out.size))
                      clear hb6
                      go_wp2_with fail
                      go_ret
                      exact ⟨by rw [HX.out] <;> rfl, by rw [HBO.out]; exact HB2.out.trans (HB6.out.mono HSZ.out)⟩
    · as_aux_lemma =>
      have HX := Lib.hid (show P = 2 by rw [HSC.out, if_neg (fun h => h rfl), if_pos h1])
      go_wp2_with fail
      go_ret
      exact ⟨by rw [HX.out] <;> rfl, by rw [HBO.out]; exact HB2.out⟩
  · as_aux_lemma =>
    have HX := Lib.hid (show P = E by rw [HSC.out, if_pos h0])
    go_wp2_with fail
    go_ret
    exact ⟨by rw [HX.out] <;> rfl, by rw [HBO.out]; exact HB2.out⟩
end Go.Proofs.YtdfkbahlngijcaaDoor
