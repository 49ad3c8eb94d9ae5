/- The arena: the law ArenaKeeps. -/
import Derived.Test.YtfgkbnnojogjpaaQq
import Derived.Deep.QuietTactic
import Derived.BigQuiet
namespace Go.Proofs.Ytfgkbnnojogjpaa
open Go.RowKit
set_option linter.unusedVariables false

set_option maxRecDepth 100000 in
set_option maxHeartbeats 16000000 in
theorem keeps_any (n g : Int) (ao : Option Addr) (len cap : Nat) (l : List De) (w : World) (hr : Deeds w ao len l) (hlen : len ≤ 9223372036854775807) :
    Calls Try.prog 8 #[.int .i64 n, .int .i64 g, .slice ao len cap] w fun e w' => e = .returned (.bool true) ∧ Below w.heap.size w w' := by
  obtain ⟨i0, hi, hz0, hz1, hz2⟩ := info_parts infoKn
  obtain ⟨j0, hj, hy0, hy1, hy2⟩ := info_parts infoBo
  obtain ⟨a, ha, hna⟩ := mod_nat n 12 (by decide)
  obtain ⟨c, hc, hgc⟩ := mod_nat g 3 (by decide)
  have M1 := Lib.hid (mod13_as n 12 a (by decide) (by decide) hna)
  have M2 := Lib.hid (mod13_as g 3 c (by decide) (by decide) hgc)
  have NA := Lib.hid (newA_at a c ha hc)
  have HR := Lib.hid hr
  have ha1 : (a : Int) < 12 := by omega
  have hc1 : (c : Int) < 3 := by omega
  clear hna hgc hr
  go_enter Try.func8, Try.ntmps8
  go_wp2_with fail
  refine (M1.out _).mono ?_; rintro e w1 ⟨rfl, rfl⟩
  go_wp2_with fail
  refine (M2.out _).mono ?_; rintro e w1 ⟨rfl, rfl⟩
  go_wp2_with fail
  refine (NA.out _).mono ?_; rintro e w1 ⟨B, rfl, hs⟩
  have HS1 := Lib.hid (⟨hs, AllK.nil _ _⟩ : St w w1 B (newA (a + 1) (c + 1)) (.slice none 0 0) [])
  clear hs M1 M2 NA
  go_wp2_with fail
  go_loopw [9, 10, 11] (fun v vd i wr => ∃ (k : Nat) (A : AS) (L : List Kn), k ≤ len ∧ k ≤ 40 ∧ i = .int .i64 k ∧ St w wr B A v L ∧ KI A L ∧ L.length ≤ k ∧ A.st ≤ 50 * k ∧ DB wr w.heap.size vd L.length (fun i => deadB A.x (HL L i))) (fun _ _ i _ => len - (intOf i).toNat)
  case atStart => exact ⟨0, _, [], Nat.zero_le _, Nat.zero_le _, rfl, HS1.out, KI.nil _ _, Nat.le_refl _, Nat.le_refl _, DB.nil _ _ _⟩
  case round =>
    obtain ⟨k, A, L, hk, hk40, rfl, hst, hki, hll, hsk, hdb⟩ := hrel
    have HST := Lib.hid hst
    have HKI := Lib.hid hki
    have HDB := Lib.hid hdb
    clear hst hki hdb HS1
    by_cases hlt : k < len
    · have hk1 : (k : Int) < (len : Int) := by omega
      by_cases hlt40 : k < 40
      · have hk2 : (k : Int) < 40 := by omega
        obtain ⟨bb, off, d, rfl, hdo, e0, e1, e2, e3, e4, e5, e6, -, -⟩ := HR.out.cell HST.out.s.low hlt
        have hp := play_any w B A L u9 d wr HST.out.s hdo HST.out.a (by omega) (by omega)
        clear hdo
        have h6 := play6 HST.out.s.inv L d
        rcases h6 with ⟨h, x, hr, hS, hpf, -, hck, hal, hh⟩ | ⟨x, e, hr, he, hS, -⟩ | ⟨h, -, hl, hr, hS, hpf, -⟩ | ⟨h, -, -, hr, hS, -⟩ | ⟨h, -, -, hr, hS, -⟩ | ⟨h, -, -, hr, hS, -⟩
        · as_aux_lemma =>
            have hka := fun a c => hS ▸ HKI.out.alloc HST.out.s.inv hal a c
            rw [hr] at hp
            unfold PlayR at hp
            simp only at hp
            obtain ⟨A', hA'⟩ : ∃ A', A' = playS A L d := ⟨_, rfl⟩
            rw [← hA'] at hp hpf
            have hka' : ∀ a c, KI A' (L ++ [⟨h, x, a, c⟩]) ∧ h ∉ hsL L ∧ (∀ t ∈ hsL L, liveL A'.x t ↔ liveL A.x t) ∧ liveL A'.x h := by rw [hA']; exact hka
            have HKP := Lib.hid hka'
            clear hka hka'
            have HP := Lib.hid hp
            have HPF := Lib.hid hpf
            clear hp hpf hr hA' hS
            have HCK := Lib.hid hck
            have HH := Lib.hid hh
            clear hck hh hal
            go_wp2_with fail
            refine (HP.out).mono ?_; rintro e w2 ⟨ao, c2, rfl, hks, hs2, hk2⟩
            have HS2 := Lib.hid ((HST.out.turn hk2 hs2).alloc (.cells #[.int .i64 x.h, .string x.text, .slice ao x.kids.length c2] 36))
            have HD2 := Lib.hid ((HDB.out.turn HST.out.s.is hk2).alloc (.cells #[.int .i64 x.h, .string x.text, .slice ao x.kids.length c2] 36))
            have HK2 := Lib.hid (hks.later ((Below.refl _ _).alloc (Nat.le_refl _) (.cells #[.int .i64 x.h, .string x.text, .slice ao x.kids.length c2] 36)))
            have HNZ := Lib.hid (block_new w2 (.cells #[.int .i64 x.h, .string x.text, .slice ao x.kids.length c2] 36))
            clear hks hs2 hk2 HP HDB
            obtain ⟨aA0, cA0, rfl, -⟩ := HS2.out.a.form
            go_wp2_with fail
            obtain ⟨Y, hY⟩ : ∃ Y, Y = w2.heap.size := ⟨_, rfl⟩
            rw [← hY] at HNZ
            generalize w2.alloc (.cells #[.int .i64 x.h, .string x.text, .slice ao x.kids.length c2] 36) = wz at *
            rw [← hY]
            clear hY
            go_loop [16] (fun s16 => ∃ j : Nat, j ≤ L.length ∧ s16 = .int .i64 j) (fun s16 => L.length - (intOf s16).toNat)
            case atStart => exact ⟨0, Nat.zero_le _, rfl⟩
            case round =>
              obtain ⟨j, hjn, rfl⟩ := hrel
              by_cases hjl : j < L.length
              · have hj1 : (j : Int) < (L.length : Int) := by omega
                obtain ⟨bA, rfl, hbA, ⟨p0, -, -, -⟩, -⟩ := HS2.out.a.at hjl
                have hne : (L[j].h == h) = false := by
                  rw [beq_eq_false_iff_ne]
                  intro e
                  exact (HKP.out none 0).2.1 (by rw [← e]; exact hsL_mem hjl)
                generalize L[j].h = th at *
                go_wp2_with fail
                go_round
                case rel => exact ⟨j + 1, by omega, by go_num⟩
                case measure => simp [intOf]; omega
              · obtain rfl : j = L.length := by omega
                have HN3 := Lib.hid (block_new wz (.cells #[.int .u64 h, .int .i64 x.h, .string x.text, .slice ao x.kids.length c2] 50))
                have HSW := Lib.hid (HS2.out.alloc (.cells #[.int .u64 h, .int .i64 x.h, .string x.text, .slice ao x.kids.length c2] 50))
                have HDW0 := Lib.hid (HD2.out.alloc (.cells #[.int .u64 h, .int .i64 x.h, .string x.text, .slice ao x.kids.length c2] 50))
                have HKW := Lib.hid (HK2.out.later ((Below.refl _ _).alloc (Nat.le_refl _) (.cells #[.int .u64 h, .int .i64 x.h, .string x.text, .slice ao x.kids.length c2] 50)))
                have HZW := Lib.hid (show w.heap.size ≤ (wz.alloc (.cells #[.int .u64 h, .int .i64 x.h, .string x.text, .slice ao x.kids.length c2] 50)).heap.size from HSW.out.s.low.size)
                have hn2 := HNZ.out
                (have q0 := block_cell hn2 0; have q1 := block_cell hn2 1; have q2 := block_cell hn2 2; have f0 := block_free hn2 0; have f1 := block_free hn2 1; have f2 := block_free hn2 2; have hz := block_lt hn2; simp at q0 q1 q2)
                clear hn2
                go_wp2_with (at_builtin; refine wpList_append_own _ rfl _ _ 43 rfl w.heap.size 50 i0 (.agg #[.int .u64 0, .int .i64 0, .string ⟨#[]⟩, .slice none 0 0]) 4 56 Try.underlying43 hi hz0 hz1 hz2 rfl (by decide) _ L.length (flatR fKn L) rfl HSW.out.a.1 ⟨wz.heap.size, 0, none⟩ 1 _ (flatR fKn [⟨h, x, ao, c2⟩]) rfl rfl (newsKn (k := ⟨h, x, ao, c2⟩) HN3.out) (fKn_one _) ?c3 ?c4 ?c5 ?_)
                case c3 => unfold maxLen; omega
                case c4 => omega
                case c5 => have := HZW.out; simpa using this
                intro v' w3 hown hgrow _
                have HS3 := Lib.hid (HSW.out.grow (k := ⟨h, x, ao, c2⟩) hgrow hown (KnOK.mk HKW.out HCK.out HH.out))
                have HD3 := Lib.hid (DB.alloc (DB.far HDW0.out HSW.out.a hgrow) (.cells #[.bool false] 4))
                clear q0 q1 q2 f0 f1 f2 hz hown hgrow HN3 HSW HDW0 HKW HZW
                obtain ⟨L', hL'⟩ : ∃ L', L' = L ++ [⟨h, x, ao, c2⟩] := ⟨_, rfl⟩
                have HLL := Lib.hid (show L'.length = L.length + 1 by rw [hL', List.length_append]; rfl)
                have HF := Lib.hid (show deadB A'.x (HL L' L.length) = false by rw [hL', HL_last]; exact dead_no (HKP.out none 0).2.2.2)
                have HD3c := Lib.hid (HD3.out.congr (g := fun i => deadB A'.x (HL L' i)) (fun i hi => by
                  show deadB A.x (HL L i) = deadB A'.x (HL L' i)
                  rw [hL', HL_app hi, HL_at hi]
                  exact decide_eq_decide.2 (not_congr ((HKP.out none 0).2.2.1 _ (hsL_mem hi)).symm)))
                have HN4 := Lib.hid (block_new w3 (.cells #[.bool false] 4))
                have HZW := Lib.hid (show w.heap.size ≤ (w3.alloc (.cells #[.bool false] 4)).heap.size from (HS3.out.alloc _).s.low.size)
                have HLE := Lib.hid hL'
                clear hL'
                go_wp2_with (at_builtin; refine wpList_append_own _ rfl _ _ 78 rfl w.heap.size 4 j0 (.bool false) 1 1 Try.underlying78 hj hy0 hy1 hy2 rfl (by decide) _ L.length ((List.range L.length).map fun i => .bool (deadB A'.x (HL L' i))) rfl HD3c.out ⟨w3.heap.size, 0, none⟩ 1 _ [.bool false] rfl rfl (newsBo HN4.out) (oneBo _) ?d3 ?d4 ?d5 ?_)
                case d3 => unfold maxLen; omega
                case d4 => omega
                case d5 => have := HZW.out; simpa using this
                intro vd' w5 hown hgrow _
                have HSZ := Lib.hid (show St w w5 B A' v' L' by rw [HLE.out]; exact (HS3.out.alloc (.cells #[.bool false] 4)).grownP hgrow plainB HD3c.out.row)
                have HDZ := Lib.hid (show DB w5 w.heap.size vd' L'.length (mixD A'.x A'.x L' 0) by rw [mixD_zero, HLL.out]; refine DB.push ?_; rw [HF.out]; exact hown)
                have HKA := Lib.hid (show KI A' L' by rw [HLE.out]; exact (HKP.out ao c2).1)
                have HLN := Lib.hid (show L'.length ≤ k + 1 by rw [HLL.out]; omega)
                clear hown hgrow HN4 HZW HD3c HD3 HF HS3 HLE HLL
                go_wp2_with fail
                obtain ⟨aA, cA, rfl, -⟩ := HSZ.out.a.form
                obtain ⟨aD, cD, rfl⟩ := HDZ.out.slice
                have hN40 : L'.length ≤ 40 := by have := HLN.out; omega
                have hst1 : A'.st ≤ 50 * k + 1 := by have := HPF.out.st; omega
                go_loopw [17] (fun s17 wr => ∃ (j : Nat) (A2 : AS), j ≤ L'.length ∧ s17 = .int .i64 j ∧ A2.x = A'.x ∧ A2.it = A'.it ∧ A2.st ≤ A'.st + j ∧ St w wr B A2 (.slice aA L'.length cA) L' ∧ DB wr w.heap.size (.slice aD L'.length cD) L'.length (mixD A'.x A'.x L' j)) (fun s17 _ => L'.length - (intOf s17).toNat)
                case atStart => exact ⟨0, A', Nat.zero_le _, rfl, rfl, rfl, Nat.le_refl _, HSZ.out, HDZ.out⟩
                case round =>
                  obtain ⟨j, A2, hjn, rfl, hx2, hi2, hst2, hst, hdb⟩ := hrel
                  have HST2 := Lib.hid hst
                  have HDB2 := Lib.hid hdb
                  have HX2 := Lib.hid hx2
                  have HI2 := Lib.hid hi2
                  clear hst hdb hx2 hi2
                  by_cases hjl : j < L'.length
                  · have hj1 : (j : Int) < (L'.length : Int) := by omega
                    obtain ⟨bA, rfl, hbA, ⟨p0, p1, p2, p3⟩, hkn⟩ := HST2.out.a.at hjl
                    obtain ⟨bD, csD, rfl, hBD, hcD, pd, pf, hset⟩ := HDB2.out.at hjl
                    rw [mixD_here, HL_at hjl] at pd
                    have HLK0 := Lib.hid (HKA.out.lk _ (List.getElem_mem hjl))
                    obtain ⟨th, hth⟩ : ∃ th, th = L'[j].h := ⟨_, rfl⟩
                    obtain ⟨xx, hxx⟩ : ∃ xx, xx = L'[j].x := ⟨_, rfl⟩
                    have HTH := Lib.hid hth.symm
                    have HXX := Lib.hid hxx.symm
                    have HTL := Lib.hid (show HL L' j = th from (HL_at hjl).trans hth.symm)
                    have HTR := Lib.hid (show 0 ≤ th ∧ th ≤ 18446744073709551615 by rw [hth]; exact hkn.2.2)
                    have HXL := Lib.hid (show xx.kids.length ≤ 9223372036854775807 by have := kids4 hkn.2.1; rw [hxx]; omega)
                    rw [← hth] at p0 pd
                    have HLKX := Lib.hid (show liveL A'.x th → lookI A2.it th = some xx by rw [hth, hxx, HI2.out]; exact HLK0.out)
                    clear hth hxx p1 p2 p3 hkn HLK0
                    by_cases hlv : liveL A'.x th
                    · have HLV := Lib.hid (show liveL A2.x th by rw [HX2.out]; exact hlv)
                      have HLK := Lib.hid (HLKX.out hlv)
                      have HSTW := HST2
                      have HDW := Lib.hid (HDB2.out.congr (fun i _ => mixD_next (by rw [HTL.out]) i))
                      have HLQ := Lib.hid hlv
                      rw [dead_no hlv] at pd
                      clear hlv hset hcD
                      have HGT := Lib.hid (soloGet_yes w B A2 th xx wr HSTW.out.s (by omega) HLV.out HLK.out)
                      go_wp2_with fail
                      refine (HGT.out).mono ?_; rintro e w5 ⟨ay, cy, rfl, hks5, hs5, hk5⟩
                      have HS5 := Lib.hid (((HSTW.out.turn hk5 hs5)).alloc (.cells #[.int .i64 xx.h, .string xx.text, .slice ay xx.kids.length cy] 36))
                      have HD5 := Lib.hid ((HDW.out.turn HSTW.out.s.is hk5).alloc (.cells #[.int .i64 xx.h, .string xx.text, .slice ay xx.kids.length cy] 36))
                      have HK5 := Lib.hid (hks5.later ((Below.refl _ _).alloc (Nat.le_refl _) (.cells #[.int .i64 xx.h, .string xx.text, .slice ay xx.kids.length cy] 36)))
                      have hy5 := block_new w5 (.cells #[.int .i64 xx.h, .string xx.text, .slice ay xx.kids.length cy] 36)
                      have ham := HS5.out.a.at hjl
                      obtain ⟨bq, eb, hbw, ⟨q0, q1, q2, q3⟩, hkn⟩ := ham
                      cases eb
                      obtain ⟨bd', cs', eb, -, -, qd, -, -⟩ := HD5.out.at hjl
                      cases eb
                      rw [HTH.out] at q0
                      have HKN := Lib.hid hkn
                      rw [HXX.out] at q1 q2 q3
                      generalize HLA : L'[j].a = la at *
                      generalize HLC : L'[j].c = lc at *
                      have HKL := Lib.hid (show KsOK w.heap.size _ la xx.kids.length lc xx.kids by have := HKN.out.1; rw [HXX.out, HLA, HLC] at this; exact this)
                      clear HLA HLC hkn HKN
                      rw [mixD_end j (Nat.lt_succ_self j), HTL.out, dead_no HLQ.out] at qd
                      clear hks5 hs5 hk5 HGT HSTW HDW
                      have z0 := block_cell hy5 0
                      have z1 := block_cell hy5 1
                      have z2 := block_cell hy5 2
                      have hzz := block_lt hy5
                      simp only [List.getElem?_toArray, List.getElem?_cons_zero, List.getElem?_cons_succ] at z0 z1 z2
                      clear hy5
                      go_wp2_with fail
                      obtain ⟨Y, hY⟩ : ∃ Y, Y = w5.heap.size := ⟨_, rfl⟩
                      generalize hw6 : w5.alloc (.cells #[.int .i64 xx.h, .string xx.text, .slice ay xx.kids.length cy] 36) = w6 at *
                      clear hw6
                      rw [← hY] at z0 z1 z2 hzz
                      rw [← hY]
                      clear hY
                      have HCd := Lib.hid (fun (u : World) (hb : Below w6.heap.size w6 u) => (hb.cell (p := ⟨_, j, none⟩) (World.block_lt_of_cell? _ _ qd)).trans qd)
                      have HC0 := Lib.hid (fun (u : World) (hb : Below w6.heap.size w6 u) => (hb.cell (p := ⟨_, j * 4, none⟩) hbw).trans q0)
                      have HC1 := Lib.hid (fun (u : World) (hb : Below w6.heap.size w6 u) => (hb.cell (p := ⟨_, j * 4 + 1, none⟩) hbw).trans q1)
                      have HC2 := Lib.hid (fun (u : World) (hb : Below w6.heap.size w6 u) => (hb.cell (p := ⟨_, j * 4 + 2, none⟩) hbw).trans q2)
                      have HC3 := Lib.hid (fun (u : World) (hb : Below w6.heap.size w6 u) => (hb.cell (p := ⟨_, j * 4 + 3, none⟩) hbw).trans q3)
                      have HZ0 := Lib.hid (fun (u : World) (hb : Below w6.heap.size w6 u) => (hb.cell (p := ⟨Y, 0, none⟩) hzz).trans z0)
                      have HZ1 := Lib.hid (fun (u : World) (hb : Below w6.heap.size w6 u) => (hb.cell (p := ⟨Y, 1, none⟩) hzz).trans z1)
                      have HZ2 := Lib.hid (fun (u : World) (hb : Below w6.heap.size w6 u) => (hb.cell (p := ⟨Y, 2, none⟩) hzz).trans z2)
                      clear qd q0 q1 q2 q3 z0 z1 z2 hzz
                      refine wp_region_specs (by kernel_rfl) (by decide) (by kernel_rfl) ?_
                      simp only [fill, Act.put, List.setIfInBounds_toArray, List.set_cons_zero, List.set_cons_succ, Nat.zero_add, Nat.reduceAdd]
                      apply OpsOK.eq
                      · intro vs u hb hd
                        clear hd
                        go_wp2_with fail
                        exact ⟨rfl, _, rfl, Below.refl _ _, rfl⟩
                      apply OpsOK.eq
                      · intro vs u hb hd
                        clear hd
                        go_wp2_with fail
                        exact ⟨rfl, _, rfl, Below.refl _ _, rfl⟩
                      apply OpsOK.eq
                      · intro vs u hb hd
                        simp [Region.binds] at hd
                        obtain ⟨e0, e1⟩ := hd
                        simp only [e0, e1]
                        go_wp2_with fail
                        exact ⟨rfl, _, rfl, Below.refl _ _, rfl⟩
                      apply OpsOK.eq
                      · intro vs u hb hd
                        simp [Region.binds] at hd
                        have e2 := hd
                        clear hd
                        simp only [e2]
                        have rd := HCd.out u hb
                        go_wp2_with fail
                        exact ⟨rfl, _, rfl, Below.refl _ _, rfl⟩
                      apply OpsOK.eq
                      · intro vs u hb hd
                        simp [Region.binds] at hd
                        have e3 := hd
                        clear hd
                        simp only [e3]
                        go_wp2_with fail
                        exact ⟨rfl, _, rfl, Below.refl _ _, rfl⟩
                      apply OpsOK.eq
                      · intro vs u hb hd
                        simp [Region.binds] at hd
                        have e4 := hd
                        clear hd
                        simp only [e4]
                        go_wp2_with fail
                        exact ⟨rfl, _, rfl, Below.refl _ _, rfl⟩
                      apply OpsOK.eq
                      · intro vs u hb hd
                        simp [Region.binds] at hd
                        obtain ⟨e5, e4⟩ := hd
                        simp only [e5, e4]
                        go_wp2_with fail
                        exact ⟨rfl, _, rfl, Below.refl _ _, rfl⟩
                      apply OpsOK.eq
                      · intro vs u hb hd
                        simp [Region.binds] at hd
                        obtain ⟨e6, e4⟩ := hd
                        simp only [e6, e4]
                        go_wp2_with fail
                        exact ⟨rfl, _, rfl, Below.refl _ _, rfl⟩
                      apply OpsOK.eq
                      · intro vs u hb hd
                        simp [Region.binds] at hd
                        have e7 := hd
                        clear hd
                        simp only [e7]
                        go_wp2_with fail
                        exact ⟨rfl, _, rfl, Below.refl _ _, rfl⟩
                      apply OpsOK.eq
                      · intro vs u hb hd
                        simp [Region.binds] at hd
                        have e7 := hd
                        clear hd
                        simp only [e7]
                        go_wp2_with fail
                        exact ⟨rfl, _, rfl, Below.refl _ _, rfl⟩
                      apply OpsOK.eq
                      · intro vs u hb hd
                        simp [Region.binds] at hd
                        have e7 := hd
                        clear hd
                        simp only [e7]
                        go_wp2_with fail
                        exact ⟨rfl, _, rfl, Below.refl _ _, rfl⟩
                      apply OpsOK.eq
                      · intro vs u hb hd
                        simp [Region.binds] at hd
                        obtain ⟨e9, e10, e7⟩ := hd
                        simp only [e9, e10, e7]
                        go_wp2_with fail
                        exact ⟨rfl, _, rfl, Below.refl _ _, rfl⟩
                      apply OpsOK.eq
                      · intro vs u hb hd
                        simp [Region.binds] at hd
                        obtain ⟨e11, e7⟩ := hd
                        simp only [e11, e7]
                        go_wp2_with fail
                        exact ⟨rfl, _, rfl, Below.refl _ _, rfl⟩
                      apply OpsOK.eq
                      · intro vs u hb hd
                        simp [Region.binds] at hd
                        obtain ⟨e12, e7⟩ := hd
                        simp only [e12, e7]
                        go_wp2_with fail
                        exact ⟨rfl, _, rfl, Below.refl _ _, rfl⟩
                      apply OpsOK.eq
                      · intro vs u hb hd
                        simp [Region.binds] at hd
                        obtain ⟨e8, e13, e7⟩ := hd
                        simp only [e8, e13, e7]
                        go_wp2_with fail
                        exact ⟨rfl, _, rfl, Below.refl _ _, rfl⟩
                      apply OpsOK.eq
                      · intro vs u hb hd
                        simp [Region.binds] at hd
                        obtain ⟨e7, e14, e4⟩ := hd
                        simp only [e7, e14, e4]
                        go_wp2_with fail
                        exact ⟨rfl, _, rfl, Below.refl _ _, rfl⟩
                      apply OpsOK.eq
                      · intro vs u hb hd
                        simp [Region.binds] at hd
                        obtain ⟨e4, e15⟩ := hd
                        simp only [e4, e15]
                        go_wp2_with fail
                        exact ⟨rfl, _, rfl, Below.refl _ _, rfl⟩
                      apply OpsOK.eq
                      · intro vs u hb hd
                        simp [Region.binds] at hd
                        obtain ⟨e16, e14⟩ := hd
                        simp only [e16, e14]
                        go_wp2_with fail
                        exact ⟨rfl, _, rfl, Below.refl _ _, rfl⟩
                      apply OpsOK.eq
                      · intro vs u hb hd
                        simp [Region.binds] at hd
                        have e17 := hd
                        clear hd
                        simp only [e17]
                        go_wp2_with fail
                        exact ⟨rfl, _, rfl, Below.refl _ _, rfl⟩
                      apply OpsOK.eq
                      · intro vs u hb hd
                        simp [Region.binds] at hd
                        have e17 := hd
                        clear hd
                        simp only [e17]
                        go_wp2_with fail
                        exact ⟨rfl, _, rfl, Below.refl _ _, rfl⟩
                      apply OpsOK.eq
                      · intro vs u hb hd
                        simp [Region.binds] at hd
                        obtain ⟨e18, e19, e17⟩ := hd
                        simp only [e18, e19, e17]
                        go_wp2_with fail
                        exact ⟨rfl, _, rfl, Below.refl _ _, rfl⟩
                      apply OpsOK.eq
                      · intro vs u hb hd
                        simp [Region.binds] at hd
                        obtain ⟨e20, e17⟩ := hd
                        simp only [e20, e17]
                        have rd := HCd.out u hb
                        go_wp2_with fail
                        exact ⟨rfl, _, rfl, Below.refl _ _, rfl⟩
                      apply OpsOK.eq
                      · intro vs u hb hd
                        simp [Region.binds] at hd
                        obtain ⟨e21, e17⟩ := hd
                        simp only [e21, e17]
                        go_wp2_with fail
                        exact ⟨rfl, _, rfl, Below.refl _ _, rfl⟩
                      apply OpsOK.eq
                      · intro vs u hb hd
                        simp [Region.binds] at hd
                        obtain ⟨e22, e17⟩ := hd
                        simp only [e22, e17]
                        go_wp2_with fail
                        exact ⟨rfl, _, rfl, Below.refl _ _, rfl⟩
                      apply OpsOK.eq
                      · intro vs u hb hd
                        simp [Region.binds] at hd
                        have e23 := hd
                        clear hd
                        simp only [e23]
                        go_wp2_with fail
                        exact ⟨rfl, _, rfl, Below.refl _ _, rfl⟩
                      apply OpsOK.eq
                      · intro vs u hb hd
                        simp [Region.binds] at hd
                        obtain ⟨e24, e23⟩ := hd
                        simp only [e24, e23]
                        go_wp2_with fail
                        exact ⟨rfl, _, rfl, Below.refl _ _, rfl⟩
                      apply OpsOK.eq
                      · intro vs u hb hd
                        simp [Region.binds] at hd
                        obtain ⟨e25, e23⟩ := hd
                        simp only [e25, e23]
                        go_wp2_with fail
                        exact ⟨rfl, _, rfl, Below.refl _ _, rfl⟩
                      apply OpsOK.eq
                      · intro vs u hb hd
                        simp [Region.binds] at hd
                        have e26 := hd
                        clear hd
                        simp only [e26]
                        have r0 := HZ0.out u hb
                        have r1 := HZ1.out u hb
                        have r2 := HZ2.out u hb
                        go_wp2_with fail
                        exact ⟨rfl, _, rfl, Below.refl _ _, rfl⟩
                      apply OpsOK.eq
                      · intro vs u hb hd
                        simp [Region.binds] at hd
                        have e26 := hd
                        clear hd
                        simp only [e26]
                        go_wp2_with fail
                        exact ⟨rfl, _, rfl, Below.refl _ _, rfl⟩
                      apply OpsOK.eq
                      · intro vs u hb hd
                        simp [Region.binds] at hd
                        have e26 := hd
                        clear hd
                        simp only [e26]
                        go_wp2_with fail
                        exact ⟨rfl, _, rfl, Below.refl _ _, rfl⟩
                      apply OpsOK.eq
                      · intro vs u hb hd
                        simp [Region.binds] at hd
                        obtain ⟨e28, e29, e26⟩ := hd
                        simp only [e28, e29, e26]
                        go_wp2_with fail
                        exact ⟨rfl, _, rfl, Below.refl _ _, rfl⟩
                      apply OpsOK.eq
                      · intro vs u hb hd
                        simp [Region.binds] at hd
                        obtain ⟨e30, e26⟩ := hd
                        simp only [e30, e26]
                        go_wp2_with fail
                        exact ⟨rfl, _, rfl, Below.refl _ _, rfl⟩
                      apply OpsOK.eq
                      · intro vs u hb hd
                        simp [Region.binds] at hd
                        obtain ⟨e31, e26⟩ := hd
                        simp only [e31, e26]
                        have r0 := HC1.out u hb
                        have r1 := HC2.out u hb
                        have r2 := HC3.out u hb
                        go_wp2_with fail
                        exact ⟨rfl, _, rfl, Below.refl _ _, rfl⟩
                      apply OpsOK.eq
                      · intro vs u hb hd
                        simp [Region.binds] at hd
                        obtain ⟨e27, e32, e26⟩ := hd
                        simp only [e27, e32, e26]
                        go_wp2_with fail
                        refine (equalN_yes xx ay la 0 cy lc u (HK5.out.1.later hb) (HKL.out.1.later hb) HXL.out).mono ?_; rintro e w1 ⟨rfl, hbel⟩; go_wp2_with fail; exact ⟨rfl, _, rfl, hbel, rfl⟩
                      apply OpsOK.eq
                      · intro vs u hb hd
                        simp [Region.binds] at hd
                        obtain ⟨e33, e26⟩ := hd
                        simp only [e33, e26]
                        go_wp2_with fail
                        exact ⟨rfl, _, rfl, Below.refl _ _, rfl⟩
                      apply OpsOK.eq
                      · intro vs u hb hd
                        simp [Region.binds] at hd
                        obtain ⟨e26, e34, e23⟩ := hd
                        simp only [e26, e34, e23]
                        go_wp2_with fail
                        exact ⟨rfl, _, rfl, Below.refl _ _, rfl⟩
                      apply OpsOK.eq
                      · intro vs u hb hd
                        simp [Region.binds] at hd
                        obtain ⟨e35, e33, e23⟩ := hd
                        simp only [e35, e33, e23]
                        go_wp2_with fail
                        exact ⟨rfl, _, rfl, Below.refl _ _, rfl⟩
                      apply OpsOK.eq
                      · intro vs u hb hd
                        simp [Region.binds] at hd
                        have e36 := hd
                        clear hd
                        simp only [e36]
                        go_wp2_with fail
                        exact ⟨rfl, _, rfl, Below.refl _ _, rfl⟩
                      apply OpsOK.eq
                      · intro vs u hb hd
                        simp [Region.binds] at hd
                        have e36 := hd
                        clear hd
                        simp only [e36]
                        go_wp2_with fail
                        exact ⟨rfl, _, rfl, Below.refl _ _, rfl⟩
                      apply OpsOK.eq
                      · intro vs u hb hd
                        simp [Region.binds] at hd
                        have e36 := hd
                        clear hd
                        simp only [e36]
                        go_wp2_with fail
                        exact ⟨rfl, _, rfl, Below.refl _ _, rfl⟩
                      apply OpsOK.eq
                      · intro vs u hb hd
                        simp [Region.binds] at hd
                        obtain ⟨e38, e39, e36⟩ := hd
                        simp only [e38, e39, e36]
                        go_wp2_with fail
                        exact ⟨rfl, _, rfl, Below.refl _ _, rfl⟩
                      apply OpsOK.eq
                      · intro vs u hb hd
                        simp [Region.binds] at hd
                        obtain ⟨e40, e36⟩ := hd
                        simp only [e40, e36]
                        go_wp2_with fail
                        exact ⟨rfl, _, rfl, Below.refl _ _, rfl⟩
                      apply OpsOK.eq
                      · intro vs u hb hd
                        simp [Region.binds] at hd
                        obtain ⟨e41, e36⟩ := hd
                        simp only [e41, e36]
                        have r0 := HC0.out u hb
                        go_wp2_with fail
                        exact ⟨rfl, _, rfl, Below.refl _ _, rfl⟩
                      apply OpsOK.eq
                      · intro vs u hb hd
                        simp [Region.binds] at hd
                        obtain ⟨e37, e42, e36⟩ := hd
                        simp only [e37, e42, e36]
                        go_wp2_with fail
                        refine (liveA_yes B A2 th u HTR.out (HS5.out.s.is.below hb) HLV.out).mono ?_; rintro e w1 ⟨rfl, n1, rfl⟩; go_wp2_with fail; exact ⟨rfl, _, rfl, below_drewN (Below.refl _ _) n1, rfl⟩
                      apply OpsOK.eq
                      · intro vs u hb hd
                        simp [Region.binds] at hd
                        obtain ⟨e43, e36⟩ := hd
                        simp only [e43, e36]
                        go_wp2_with fail
                        exact ⟨rfl, _, rfl, Below.refl _ _, rfl⟩
                      apply OpsOK.eq
                      · intro vs u hb hd
                        simp [Region.binds] at hd
                        obtain ⟨e36, e44, e23⟩ := hd
                        simp only [e36, e44, e23]
                        go_wp2_with fail
                        exact ⟨rfl, _, rfl, Below.refl _ _, rfl⟩
                      apply OpsOK.eq
                      · intro vs u hb hd
                        simp [Region.binds] at hd
                        obtain ⟨e23, e45, e17⟩ := hd
                        simp only [e23, e45, e17]
                        go_wp2_with fail
                        exact ⟨rfl, _, rfl, Below.refl _ _, rfl⟩
                      apply OpsOK.eq
                      · intro vs u hb hd
                        simp [Region.binds] at hd
                        obtain ⟨e17, e46⟩ := hd
                        simp only [e17, e46]
                        go_wp2_with fail
                        exact ⟨rfl, _, rfl, Below.refl _ _, rfl⟩
                      refine OpsOK.done ?_
                      intro vs u hbu hS
                      have h47 := hS 47 (by decide)
                      simp at h47
                      simp only [h47]
                      clear h47
                      clear hS
                      have HBU := Lib.hid hbu
                      clear hbu
                      go_wp2_with fail
                      go_roundw
                      case rel => exact ⟨j + 1, A2, by omega, by go_num, HX2.out, HI2.out, by omega, HS5.out.below HBU.out, HD5.out.below HBU.out⟩
                      case measure => simp [intOf]; omega
                    · have HLV := Lib.hid (show ¬ liveL A2.x th by rw [HX2.out]; exact hlv)
                      have HSTW := HST2
                      have HDW := Lib.hid (HDB2.out.congr (fun i _ => mixD_next (by rw [HTL.out]) i))
                      have HLQ := Lib.hid hlv
                      rw [dead_yes hlv] at pd
                      clear hlv hset hcD
                      have HGT := Lib.hid (soloGet_no w B A2 th wr HSTW.out.s (by omega) HLV.out)
                      go_wp2_with fail
                      refine (HGT.out).mono ?_; rintro e w5 ⟨ay, cy, rfl, hs5, hk5⟩
                      have HS5 := Lib.hid (((HSTW.out.turn hk5 hs5)).alloc (.cells #[.int .i64 0, .string ⟨#[]⟩, .slice ay 0 cy] 36))
                      have HD5 := Lib.hid ((HDW.out.turn HSTW.out.s.is hk5).alloc (.cells #[.int .i64 0, .string ⟨#[]⟩, .slice ay 0 cy] 36))
                      have ham := HS5.out.a.at hjl
                      obtain ⟨bq, eb, hbw, ⟨q0, q1, q2, q3⟩, -⟩ := ham
                      cases eb
                      obtain ⟨bd', cs', eb, -, -, qd, -, -⟩ := HD5.out.at hjl
                      cases eb
                      rw [HTH.out] at q0
                      rw [mixD_end j (Nat.lt_succ_self j), HTL.out, dead_yes HLQ.out] at qd
                      clear hs5 hk5 HGT HSTW HDW
                      go_wp2_with fail
                      generalize w5.alloc (.cells #[.int .i64 0, .string ⟨#[]⟩, .slice ay 0 cy] 36) = w6 at *
                      have HLI := Lib.hid (fun (n : Nat) => liveA_no B { A2 with st := A2.st + 1 } th (w6.drewN n) HTR.out (HS5.out.s.is.drewN n) HLV.out)
                      go_quiet ((go_at_call 33; exact Calls.quiet_of (HLI.out _)))
                      go_wp2_with fail
                      go_roundw
                      case rel => exact ⟨j + 1, { A2 with st := A2.st + 1 }, by omega, by go_num, HX2.out, HI2.out, (by show A2.st + 1 ≤ _; omega), HS5.out.drewN _, HD5.out⟩
                      case measure => simp [intOf]; omega
                  · obtain rfl : j = L'.length := by omega
                    have HFI := Lib.hid (HDB2.out.congr (fun i hi => (mixD_end i hi).trans (by rw [← HX2.out])))
                    have hst3 : A2.st ≤ 50 * (k + 1) := by omega
                    go_wp2_with fail
                    go_roundw
                    case rel => exact ⟨k + 1, A2, L', by omega, by omega, by go_num, HST2.out, HKA.out.same HX2.out HI2.out, HLN.out, hst3, HFI.out⟩
                    case measure => simp [intOf]; omega
        · as_aux_lemma =>
            have he1 : (e == 0) = false := by simpa using he
            have hpf : PF A (playS A L d) 0 0 0 := by rw [hS]; exact PF.refl A
            have hka : KI (playS A L d) L := by rw [hS]; exact HKI.out
            have hxe : (playS A L d).x = A.x := by rw [hS]
            rw [hr] at hp
            unfold PlayR at hp
            simp only at hp
            obtain ⟨A', hA'⟩ : ∃ A', A' = playS A L d := ⟨_, rfl⟩
            rw [← hA'] at hp hpf hka hxe
            have HKP := Lib.hid hka
            have HXE := Lib.hid hxe
            clear hka hxe
            have HP := Lib.hid hp
            have HPF := Lib.hid hpf
            clear hp hpf hr hA' hS he
            go_wp2_with fail
            refine (HP.out).mono ?_; rintro e w2 ⟨ao, c2, rfl, hks, hs2, hk2⟩
            have HS2 := Lib.hid ((HST.out.turn hk2 hs2).alloc (.cells #[.int .i64 x.h, .string x.text, .slice ao x.kids.length c2] 36))
            have HD2 := Lib.hid ((HDB.out.turn HST.out.s.is hk2).alloc (.cells #[.int .i64 x.h, .string x.text, .slice ao x.kids.length c2] 36))
            obtain ⟨L', hL'⟩ : ∃ L', L' = L := ⟨_, rfl⟩
            have HKA := Lib.hid (show KI A' L' by rw [hL']; exact HKP.out)
            have HLN := Lib.hid (show L'.length ≤ k + 1 by rw [hL']; omega)
            have HSZ := Lib.hid (show St w _ B A' u9 L' by rw [hL']; exact HS2.out)
            have HDZ := Lib.hid (show DB _ w.heap.size u10 L'.length (mixD A'.x A'.x L' 0) by rw [mixD_zero, hL', HXE.out]; exact HD2.out)
            clear hks hs2 hk2 HP HS2 HD2 HDB hL'
            go_wp2_with fail
            generalize w2.alloc (.cells #[.int .i64 x.h, .string x.text, .slice ao x.kids.length c2] 36) = wz at *
            obtain ⟨aA, cA, rfl, -⟩ := HSZ.out.a.form
            obtain ⟨aD, cD, rfl⟩ := HDZ.out.slice
            have hN40 : L'.length ≤ 40 := by have := HLN.out; omega
            have hst1 : A'.st ≤ 50 * k + 1 := by have := HPF.out.st; omega
            go_loopw [17] (fun s17 wr => ∃ (j : Nat) (A2 : AS), j ≤ L'.length ∧ s17 = .int .i64 j ∧ A2.x = A'.x ∧ A2.it = A'.it ∧ A2.st ≤ A'.st + j ∧ St w wr B A2 (.slice aA L'.length cA) L' ∧ DB wr w.heap.size (.slice aD L'.length cD) L'.length (mixD A'.x A'.x L' j)) (fun s17 _ => L'.length - (intOf s17).toNat)
            case atStart => exact ⟨0, A', Nat.zero_le _, rfl, rfl, rfl, Nat.le_refl _, HSZ.out, HDZ.out⟩
            case round =>
              obtain ⟨j, A2, hjn, rfl, hx2, hi2, hst2, hst, hdb⟩ := hrel
              have HST2 := Lib.hid hst
              have HDB2 := Lib.hid hdb
              have HX2 := Lib.hid hx2
              have HI2 := Lib.hid hi2
              clear hst hdb hx2 hi2
              by_cases hjl : j < L'.length
              · have hj1 : (j : Int) < (L'.length : Int) := by omega
                obtain ⟨bA, rfl, hbA, ⟨p0, p1, p2, p3⟩, hkn⟩ := HST2.out.a.at hjl
                obtain ⟨bD, csD, rfl, hBD, hcD, pd, pf, hset⟩ := HDB2.out.at hjl
                rw [mixD_here, HL_at hjl] at pd
                have HLK0 := Lib.hid (HKA.out.lk _ (List.getElem_mem hjl))
                obtain ⟨th, hth⟩ : ∃ th, th = L'[j].h := ⟨_, rfl⟩
                obtain ⟨xx, hxx⟩ : ∃ xx, xx = L'[j].x := ⟨_, rfl⟩
                have HTH := Lib.hid hth.symm
                have HXX := Lib.hid hxx.symm
                have HTL := Lib.hid (show HL L' j = th from (HL_at hjl).trans hth.symm)
                have HTR := Lib.hid (show 0 ≤ th ∧ th ≤ 18446744073709551615 by rw [hth]; exact hkn.2.2)
                have HXL := Lib.hid (show xx.kids.length ≤ 9223372036854775807 by have := kids4 hkn.2.1; rw [hxx]; omega)
                rw [← hth] at p0 pd
                have HLKX := Lib.hid (show liveL A'.x th → lookI A2.it th = some xx by rw [hth, hxx, HI2.out]; exact HLK0.out)
                clear hth hxx p1 p2 p3 hkn HLK0
                by_cases hlv : liveL A'.x th
                · have HLV := Lib.hid (show liveL A2.x th by rw [HX2.out]; exact hlv)
                  have HLK := Lib.hid (HLKX.out hlv)
                  have HSTW := HST2
                  have HDW := Lib.hid (HDB2.out.congr (fun i _ => mixD_next (by rw [HTL.out]) i))
                  have HLQ := Lib.hid hlv
                  rw [dead_no hlv] at pd
                  clear hlv hset hcD
                  have HGT := Lib.hid (soloGet_yes w B A2 th xx wr HSTW.out.s (by omega) HLV.out HLK.out)
                  go_wp2_with fail
                  refine (HGT.out).mono ?_; rintro e w5 ⟨ay, cy, rfl, hks5, hs5, hk5⟩
                  have HS5 := Lib.hid (((HSTW.out.turn hk5 hs5)).alloc (.cells #[.int .i64 xx.h, .string xx.text, .slice ay xx.kids.length cy] 36))
                  have HD5 := Lib.hid ((HDW.out.turn HSTW.out.s.is hk5).alloc (.cells #[.int .i64 xx.h, .string xx.text, .slice ay xx.kids.length cy] 36))
                  have HK5 := Lib.hid (hks5.later ((Below.refl _ _).alloc (Nat.le_refl _) (.cells #[.int .i64 xx.h, .string xx.text, .slice ay xx.kids.length cy] 36)))
                  have hy5 := block_new w5 (.cells #[.int .i64 xx.h, .string xx.text, .slice ay xx.kids.length cy] 36)
                  have ham := HS5.out.a.at hjl
                  obtain ⟨bq, eb, hbw, ⟨q0, q1, q2, q3⟩, hkn⟩ := ham
                  cases eb
                  obtain ⟨bd', cs', eb, -, -, qd, -, -⟩ := HD5.out.at hjl
                  cases eb
                  rw [HTH.out] at q0
                  have HKN := Lib.hid hkn
                  rw [HXX.out] at q1 q2 q3
                  generalize HLA : L'[j].a = la at *
                  generalize HLC : L'[j].c = lc at *
                  have HKL := Lib.hid (show KsOK w.heap.size _ la xx.kids.length lc xx.kids by have := HKN.out.1; rw [HXX.out, HLA, HLC] at this; exact this)
                  clear HLA HLC hkn HKN
                  rw [mixD_end j (Nat.lt_succ_self j), HTL.out, dead_no HLQ.out] at qd
                  clear hks5 hs5 hk5 HGT HSTW HDW
                  have z0 := block_cell hy5 0
                  have z1 := block_cell hy5 1
                  have z2 := block_cell hy5 2
                  have hzz := block_lt hy5
                  simp only [List.getElem?_toArray, List.getElem?_cons_zero, List.getElem?_cons_succ] at z0 z1 z2
                  clear hy5
                  go_wp2_with fail
                  obtain ⟨Y, hY⟩ : ∃ Y, Y = w5.heap.size := ⟨_, rfl⟩
                  generalize hw6 : w5.alloc (.cells #[.int .i64 xx.h, .string xx.text, .slice ay xx.kids.length cy] 36) = w6 at *
                  clear hw6
                  rw [← hY] at z0 z1 z2 hzz
                  rw [← hY]
                  clear hY
                  have HCd := Lib.hid (fun (u : World) (hb : Below w6.heap.size w6 u) => (hb.cell (p := ⟨_, j, none⟩) (World.block_lt_of_cell? _ _ qd)).trans qd)
                  have HC0 := Lib.hid (fun (u : World) (hb : Below w6.heap.size w6 u) => (hb.cell (p := ⟨_, j * 4, none⟩) hbw).trans q0)
                  have HC1 := Lib.hid (fun (u : World) (hb : Below w6.heap.size w6 u) => (hb.cell (p := ⟨_, j * 4 + 1, none⟩) hbw).trans q1)
                  have HC2 := Lib.hid (fun (u : World) (hb : Below w6.heap.size w6 u) => (hb.cell (p := ⟨_, j * 4 + 2, none⟩) hbw).trans q2)
                  have HC3 := Lib.hid (fun (u : World) (hb : Below w6.heap.size w6 u) => (hb.cell (p := ⟨_, j * 4 + 3, none⟩) hbw).trans q3)
                  have HZ0 := Lib.hid (fun (u : World) (hb : Below w6.heap.size w6 u) => (hb.cell (p := ⟨Y, 0, none⟩) hzz).trans z0)
                  have HZ1 := Lib.hid (fun (u : World) (hb : Below w6.heap.size w6 u) => (hb.cell (p := ⟨Y, 1, none⟩) hzz).trans z1)
                  have HZ2 := Lib.hid (fun (u : World) (hb : Below w6.heap.size w6 u) => (hb.cell (p := ⟨Y, 2, none⟩) hzz).trans z2)
                  clear qd q0 q1 q2 q3 z0 z1 z2 hzz
                  refine wp_region_specs (by kernel_rfl) (by decide) (by kernel_rfl) ?_
                  simp only [fill, Act.put, List.setIfInBounds_toArray, List.set_cons_zero, List.set_cons_succ, Nat.zero_add, Nat.reduceAdd]
                  apply OpsOK.eq
                  · intro vs u hb hd
                    clear hd
                    go_wp2_with fail
                    exact ⟨rfl, _, rfl, Below.refl _ _, rfl⟩
                  apply OpsOK.eq
                  · intro vs u hb hd
                    clear hd
                    go_wp2_with fail
                    exact ⟨rfl, _, rfl, Below.refl _ _, rfl⟩
                  apply OpsOK.eq
                  · intro vs u hb hd
                    simp [Region.binds] at hd
                    obtain ⟨e0, e1⟩ := hd
                    simp only [e0, e1]
                    go_wp2_with fail
                    exact ⟨rfl, _, rfl, Below.refl _ _, rfl⟩
                  apply OpsOK.eq
                  · intro vs u hb hd
                    simp [Region.binds] at hd
                    have e2 := hd
                    clear hd
                    simp only [e2]
                    have rd := HCd.out u hb
                    go_wp2_with fail
                    exact ⟨rfl, _, rfl, Below.refl _ _, rfl⟩
                  apply OpsOK.eq
                  · intro vs u hb hd
                    simp [Region.binds] at hd
                    have e3 := hd
                    clear hd
                    simp only [e3]
                    go_wp2_with fail
                    exact ⟨rfl, _, rfl, Below.refl _ _, rfl⟩
                  apply OpsOK.eq
                  · intro vs u hb hd
                    simp [Region.binds] at hd
                    have e4 := hd
                    clear hd
                    simp only [e4]
                    go_wp2_with fail
                    exact ⟨rfl, _, rfl, Below.refl _ _, rfl⟩
                  apply OpsOK.eq
                  · intro vs u hb hd
                    simp [Region.binds] at hd
                    obtain ⟨e5, e4⟩ := hd
                    simp only [e5, e4]
                    go_wp2_with fail
                    exact ⟨rfl, _, rfl, Below.refl _ _, rfl⟩
                  apply OpsOK.eq
                  · intro vs u hb hd
                    simp [Region.binds] at hd
                    obtain ⟨e6, e4⟩ := hd
                    simp only [e6, e4]
                    go_wp2_with fail
                    exact ⟨rfl, _, rfl, Below.refl _ _, rfl⟩
                  apply OpsOK.eq
                  · intro vs u hb hd
                    simp [Region.binds] at hd
                    have e7 := hd
                    clear hd
                    simp only [e7]
                    go_wp2_with fail
                    exact ⟨rfl, _, rfl, Below.refl _ _, rfl⟩
                  apply OpsOK.eq
                  · intro vs u hb hd
                    simp [Region.binds] at hd
                    have e7 := hd
                    clear hd
                    simp only [e7]
                    go_wp2_with fail
                    exact ⟨rfl, _, rfl, Below.refl _ _, rfl⟩
                  apply OpsOK.eq
                  · intro vs u hb hd
                    simp [Region.binds] at hd
                    have e7 := hd
                    clear hd
                    simp only [e7]
                    go_wp2_with fail
                    exact ⟨rfl, _, rfl, Below.refl _ _, rfl⟩
                  apply OpsOK.eq
                  · intro vs u hb hd
                    simp [Region.binds] at hd
                    obtain ⟨e9, e10, e7⟩ := hd
                    simp only [e9, e10, e7]
                    go_wp2_with fail
                    exact ⟨rfl, _, rfl, Below.refl _ _, rfl⟩
                  apply OpsOK.eq
                  · intro vs u hb hd
                    simp [Region.binds] at hd
                    obtain ⟨e11, e7⟩ := hd
                    simp only [e11, e7]
                    go_wp2_with fail
                    exact ⟨rfl, _, rfl, Below.refl _ _, rfl⟩
                  apply OpsOK.eq
                  · intro vs u hb hd
                    simp [Region.binds] at hd
                    obtain ⟨e12, e7⟩ := hd
                    simp only [e12, e7]
                    go_wp2_with fail
                    exact ⟨rfl, _, rfl, Below.refl _ _, rfl⟩
                  apply OpsOK.eq
                  · intro vs u hb hd
                    simp [Region.binds] at hd
                    obtain ⟨e8, e13, e7⟩ := hd
                    simp only [e8, e13, e7]
                    go_wp2_with fail
                    exact ⟨rfl, _, rfl, Below.refl _ _, rfl⟩
                  apply OpsOK.eq
                  · intro vs u hb hd
                    simp [Region.binds] at hd
                    obtain ⟨e7, e14, e4⟩ := hd
                    simp only [e7, e14, e4]
                    go_wp2_with fail
                    exact ⟨rfl, _, rfl, Below.refl _ _, rfl⟩
                  apply OpsOK.eq
                  · intro vs u hb hd
                    simp [Region.binds] at hd
                    obtain ⟨e4, e15⟩ := hd
                    simp only [e4, e15]
                    go_wp2_with fail
                    exact ⟨rfl, _, rfl, Below.refl _ _, rfl⟩
                  apply OpsOK.eq
                  · intro vs u hb hd
                    simp [Region.binds] at hd
                    obtain ⟨e16, e14⟩ := hd
                    simp only [e16, e14]
                    go_wp2_with fail
                    exact ⟨rfl, _, rfl, Below.refl _ _, rfl⟩
                  apply OpsOK.eq
                  · intro vs u hb hd
                    simp [Region.binds] at hd
                    have e17 := hd
                    clear hd
                    simp only [e17]
                    go_wp2_with fail
                    exact ⟨rfl, _, rfl, Below.refl _ _, rfl⟩
                  apply OpsOK.eq
                  · intro vs u hb hd
                    simp [Region.binds] at hd
                    have e17 := hd
                    clear hd
                    simp only [e17]
                    go_wp2_with fail
                    exact ⟨rfl, _, rfl, Below.refl _ _, rfl⟩
                  apply OpsOK.eq
                  · intro vs u hb hd
                    simp [Region.binds] at hd
                    obtain ⟨e18, e19, e17⟩ := hd
                    simp only [e18, e19, e17]
                    go_wp2_with fail
                    exact ⟨rfl, _, rfl, Below.refl _ _, rfl⟩
                  apply OpsOK.eq
                  · intro vs u hb hd
                    simp [Region.binds] at hd
                    obtain ⟨e20, e17⟩ := hd
                    simp only [e20, e17]
                    have rd := HCd.out u hb
                    go_wp2_with fail
                    exact ⟨rfl, _, rfl, Below.refl _ _, rfl⟩
                  apply OpsOK.eq
                  · intro vs u hb hd
                    simp [Region.binds] at hd
                    obtain ⟨e21, e17⟩ := hd
                    simp only [e21, e17]
                    go_wp2_with fail
                    exact ⟨rfl, _, rfl, Below.refl _ _, rfl⟩
                  apply OpsOK.eq
                  · intro vs u hb hd
                    simp [Region.binds] at hd
                    obtain ⟨e22, e17⟩ := hd
                    simp only [e22, e17]
                    go_wp2_with fail
                    exact ⟨rfl, _, rfl, Below.refl _ _, rfl⟩
                  apply OpsOK.eq
                  · intro vs u hb hd
                    simp [Region.binds] at hd
                    have e23 := hd
                    clear hd
                    simp only [e23]
                    go_wp2_with fail
                    exact ⟨rfl, _, rfl, Below.refl _ _, rfl⟩
                  apply OpsOK.eq
                  · intro vs u hb hd
                    simp [Region.binds] at hd
                    obtain ⟨e24, e23⟩ := hd
                    simp only [e24, e23]
                    go_wp2_with fail
                    exact ⟨rfl, _, rfl, Below.refl _ _, rfl⟩
                  apply OpsOK.eq
                  · intro vs u hb hd
                    simp [Region.binds] at hd
                    obtain ⟨e25, e23⟩ := hd
                    simp only [e25, e23]
                    go_wp2_with fail
                    exact ⟨rfl, _, rfl, Below.refl _ _, rfl⟩
                  apply OpsOK.eq
                  · intro vs u hb hd
                    simp [Region.binds] at hd
                    have e26 := hd
                    clear hd
                    simp only [e26]
                    have r0 := HZ0.out u hb
                    have r1 := HZ1.out u hb
                    have r2 := HZ2.out u hb
                    go_wp2_with fail
                    exact ⟨rfl, _, rfl, Below.refl _ _, rfl⟩
                  apply OpsOK.eq
                  · intro vs u hb hd
                    simp [Region.binds] at hd
                    have e26 := hd
                    clear hd
                    simp only [e26]
                    go_wp2_with fail
                    exact ⟨rfl, _, rfl, Below.refl _ _, rfl⟩
                  apply OpsOK.eq
                  · intro vs u hb hd
                    simp [Region.binds] at hd
                    have e26 := hd
                    clear hd
                    simp only [e26]
                    go_wp2_with fail
                    exact ⟨rfl, _, rfl, Below.refl _ _, rfl⟩
                  apply OpsOK.eq
                  · intro vs u hb hd
                    simp [Region.binds] at hd
                    obtain ⟨e28, e29, e26⟩ := hd
                    simp only [e28, e29, e26]
                    go_wp2_with fail
                    exact ⟨rfl, _, rfl, Below.refl _ _, rfl⟩
                  apply OpsOK.eq
                  · intro vs u hb hd
                    simp [Region.binds] at hd
                    obtain ⟨e30, e26⟩ := hd
                    simp only [e30, e26]
                    go_wp2_with fail
                    exact ⟨rfl, _, rfl, Below.refl _ _, rfl⟩
                  apply OpsOK.eq
                  · intro vs u hb hd
                    simp [Region.binds] at hd
                    obtain ⟨e31, e26⟩ := hd
                    simp only [e31, e26]
                    have r0 := HC1.out u hb
                    have r1 := HC2.out u hb
                    have r2 := HC3.out u hb
                    go_wp2_with fail
                    exact ⟨rfl, _, rfl, Below.refl _ _, rfl⟩
                  apply OpsOK.eq
                  · intro vs u hb hd
                    simp [Region.binds] at hd
                    obtain ⟨e27, e32, e26⟩ := hd
                    simp only [e27, e32, e26]
                    go_wp2_with fail
                    refine (equalN_yes xx ay la 0 cy lc u (HK5.out.1.later hb) (HKL.out.1.later hb) HXL.out).mono ?_; rintro e w1 ⟨rfl, hbel⟩; go_wp2_with fail; exact ⟨rfl, _, rfl, hbel, rfl⟩
                  apply OpsOK.eq
                  · intro vs u hb hd
                    simp [Region.binds] at hd
                    obtain ⟨e33, e26⟩ := hd
                    simp only [e33, e26]
                    go_wp2_with fail
                    exact ⟨rfl, _, rfl, Below.refl _ _, rfl⟩
                  apply OpsOK.eq
                  · intro vs u hb hd
                    simp [Region.binds] at hd
                    obtain ⟨e26, e34, e23⟩ := hd
                    simp only [e26, e34, e23]
                    go_wp2_with fail
                    exact ⟨rfl, _, rfl, Below.refl _ _, rfl⟩
                  apply OpsOK.eq
                  · intro vs u hb hd
                    simp [Region.binds] at hd
                    obtain ⟨e35, e33, e23⟩ := hd
                    simp only [e35, e33, e23]
                    go_wp2_with fail
                    exact ⟨rfl, _, rfl, Below.refl _ _, rfl⟩
                  apply OpsOK.eq
                  · intro vs u hb hd
                    simp [Region.binds] at hd
                    have e36 := hd
                    clear hd
                    simp only [e36]
                    go_wp2_with fail
                    exact ⟨rfl, _, rfl, Below.refl _ _, rfl⟩
                  apply OpsOK.eq
                  · intro vs u hb hd
                    simp [Region.binds] at hd
                    have e36 := hd
                    clear hd
                    simp only [e36]
                    go_wp2_with fail
                    exact ⟨rfl, _, rfl, Below.refl _ _, rfl⟩
                  apply OpsOK.eq
                  · intro vs u hb hd
                    simp [Region.binds] at hd
                    have e36 := hd
                    clear hd
                    simp only [e36]
                    go_wp2_with fail
                    exact ⟨rfl, _, rfl, Below.refl _ _, rfl⟩
                  apply OpsOK.eq
                  · intro vs u hb hd
                    simp [Region.binds] at hd
                    obtain ⟨e38, e39, e36⟩ := hd
                    simp only [e38, e39, e36]
                    go_wp2_with fail
                    exact ⟨rfl, _, rfl, Below.refl _ _, rfl⟩
                  apply OpsOK.eq
                  · intro vs u hb hd
                    simp [Region.binds] at hd
                    obtain ⟨e40, e36⟩ := hd
                    simp only [e40, e36]
                    go_wp2_with fail
                    exact ⟨rfl, _, rfl, Below.refl _ _, rfl⟩
                  apply OpsOK.eq
                  · intro vs u hb hd
                    simp [Region.binds] at hd
                    obtain ⟨e41, e36⟩ := hd
                    simp only [e41, e36]
                    have r0 := HC0.out u hb
                    go_wp2_with fail
                    exact ⟨rfl, _, rfl, Below.refl _ _, rfl⟩
                  apply OpsOK.eq
                  · intro vs u hb hd
                    simp [Region.binds] at hd
                    obtain ⟨e37, e42, e36⟩ := hd
                    simp only [e37, e42, e36]
                    go_wp2_with fail
                    refine (liveA_yes B A2 th u HTR.out (HS5.out.s.is.below hb) HLV.out).mono ?_; rintro e w1 ⟨rfl, n1, rfl⟩; go_wp2_with fail; exact ⟨rfl, _, rfl, below_drewN (Below.refl _ _) n1, rfl⟩
                  apply OpsOK.eq
                  · intro vs u hb hd
                    simp [Region.binds] at hd
                    obtain ⟨e43, e36⟩ := hd
                    simp only [e43, e36]
                    go_wp2_with fail
                    exact ⟨rfl, _, rfl, Below.refl _ _, rfl⟩
                  apply OpsOK.eq
                  · intro vs u hb hd
                    simp [Region.binds] at hd
                    obtain ⟨e36, e44, e23⟩ := hd
                    simp only [e36, e44, e23]
                    go_wp2_with fail
                    exact ⟨rfl, _, rfl, Below.refl _ _, rfl⟩
                  apply OpsOK.eq
                  · intro vs u hb hd
                    simp [Region.binds] at hd
                    obtain ⟨e23, e45, e17⟩ := hd
                    simp only [e23, e45, e17]
                    go_wp2_with fail
                    exact ⟨rfl, _, rfl, Below.refl _ _, rfl⟩
                  apply OpsOK.eq
                  · intro vs u hb hd
                    simp [Region.binds] at hd
                    obtain ⟨e17, e46⟩ := hd
                    simp only [e17, e46]
                    go_wp2_with fail
                    exact ⟨rfl, _, rfl, Below.refl _ _, rfl⟩
                  refine OpsOK.done ?_
                  intro vs u hbu hS
                  have h47 := hS 47 (by decide)
                  simp at h47
                  simp only [h47]
                  clear h47
                  clear hS
                  have HBU := Lib.hid hbu
                  clear hbu
                  go_wp2_with fail
                  go_roundw
                  case rel => exact ⟨j + 1, A2, by omega, by go_num, HX2.out, HI2.out, by omega, HS5.out.below HBU.out, HD5.out.below HBU.out⟩
                  case measure => simp [intOf]; omega
                · have HLV := Lib.hid (show ¬ liveL A2.x th by rw [HX2.out]; exact hlv)
                  have HSTW := HST2
                  have HDW := Lib.hid (HDB2.out.congr (fun i _ => mixD_next (by rw [HTL.out]) i))
                  have HLQ := Lib.hid hlv
                  rw [dead_yes hlv] at pd
                  clear hlv hset hcD
                  have HGT := Lib.hid (soloGet_no w B A2 th wr HSTW.out.s (by omega) HLV.out)
                  go_wp2_with fail
                  refine (HGT.out).mono ?_; rintro e w5 ⟨ay, cy, rfl, hs5, hk5⟩
                  have HS5 := Lib.hid (((HSTW.out.turn hk5 hs5)).alloc (.cells #[.int .i64 0, .string ⟨#[]⟩, .slice ay 0 cy] 36))
                  have HD5 := Lib.hid ((HDW.out.turn HSTW.out.s.is hk5).alloc (.cells #[.int .i64 0, .string ⟨#[]⟩, .slice ay 0 cy] 36))
                  have ham := HS5.out.a.at hjl
                  obtain ⟨bq, eb, hbw, ⟨q0, q1, q2, q3⟩, -⟩ := ham
                  cases eb
                  obtain ⟨bd', cs', eb, -, -, qd, -, -⟩ := HD5.out.at hjl
                  cases eb
                  rw [HTH.out] at q0
                  rw [mixD_end j (Nat.lt_succ_self j), HTL.out, dead_yes HLQ.out] at qd
                  clear hs5 hk5 HGT HSTW HDW
                  go_wp2_with fail
                  generalize w5.alloc (.cells #[.int .i64 0, .string ⟨#[]⟩, .slice ay 0 cy] 36) = w6 at *
                  have HLI := Lib.hid (fun (n : Nat) => liveA_no B { A2 with st := A2.st + 1 } th (w6.drewN n) HTR.out (HS5.out.s.is.drewN n) HLV.out)
                  go_quiet ((go_at_call 33; exact Calls.quiet_of (HLI.out _)))
                  go_wp2_with fail
                  go_roundw
                  case rel => exact ⟨j + 1, { A2 with st := A2.st + 1 }, by omega, by go_num, HX2.out, HI2.out, (by show A2.st + 1 ≤ _; omega), HS5.out.drewN _, HD5.out⟩
                  case measure => simp [intOf]; omega
              · obtain rfl : j = L'.length := by omega
                have HFI := Lib.hid (HDB2.out.congr (fun i hi => (mixD_end i hi).trans (by rw [← HX2.out])))
                have hst3 : A2.st ≤ 50 * (k + 1) := by omega
                go_wp2_with fail
                go_roundw
                case rel => exact ⟨k + 1, A2, L', by omega, by omega, by go_num, HST2.out, HKA.out.same HX2.out HI2.out, HLN.out, hst3, HFI.out⟩
                case measure => simp [intOf]; omega
        · as_aux_lemma =>
            have hka := hS ▸ HKI.out.free HST.out.s.inv hl
            rw [hr] at hp
            unfold PlayR at hp
            simp only at hp
            obtain ⟨A', hA'⟩ : ∃ A', A' = playS A L d := ⟨_, rfl⟩
            rw [← hA'] at hp hpf
            have hka' : KI A' L ∧ ∀ t, liveL A'.x t ↔ liveL A.x t ∧ t ≠ h := by rw [hA']; exact hka
            have HKP := Lib.hid hka'
            have HLH := Lib.hid hl
            clear hka hka' hl
            have HP := Lib.hid hp
            have HPF := Lib.hid hpf
            clear hp hpf hr hA' hS
            unfold noN at HP
            simp only [List.length_nil] at HP
            go_wp2_with fail
            refine (HP.out).mono ?_; rintro e w2 ⟨ao, c2, rfl, hks, hs2, hk2⟩
            have HS2 := Lib.hid ((HST.out.turn hk2 hs2).alloc (.cells #[.int .i64 0, .string ⟨#[]⟩, .slice ao 0 c2] 36))
            have HD2 := Lib.hid ((HDB.out.turn HST.out.s.is hk2).alloc (.cells #[.int .i64 0, .string ⟨#[]⟩, .slice ao 0 c2] 36))
            obtain ⟨L', hL'⟩ : ∃ L', L' = L := ⟨_, rfl⟩
            have HKA := Lib.hid (show KI A' L' by rw [hL']; exact HKP.out.1)
            have HLN := Lib.hid (show L'.length ≤ k + 1 by rw [hL']; omega)
            have HSZ := Lib.hid (show St w _ B A' u9 L' by rw [hL']; exact HS2.out)
            have HDZ := Lib.hid (show DB _ w.heap.size u10 L'.length (mixD A'.x A.x L' 0) by rw [mixD_zero, hL']; exact HD2.out)
            clear hks hs2 hk2 HP HS2 HD2 HDB hL'
            go_wp2_with fail
            generalize w2.alloc (.cells #[.int .i64 0, .string ⟨#[]⟩, .slice ao 0 c2] 36) = wz at *
            obtain ⟨aA, cA, rfl, -⟩ := HSZ.out.a.form
            obtain ⟨aD, cD, rfl⟩ := HDZ.out.slice
            have hN40 : L'.length ≤ 40 := by have := HLN.out; omega
            have hst1 : A'.st ≤ 50 * k + 1 := by have := HPF.out.st; omega
            go_loopw [17] (fun s17 wr => ∃ (j : Nat) (A2 : AS), j ≤ L'.length ∧ s17 = .int .i64 j ∧ A2.x = A'.x ∧ A2.it = A'.it ∧ A2.st ≤ A'.st + j ∧ St w wr B A2 (.slice aA L'.length cA) L' ∧ DB wr w.heap.size (.slice aD L'.length cD) L'.length (mixD A'.x A.x L' j)) (fun s17 _ => L'.length - (intOf s17).toNat)
            case atStart => exact ⟨0, A', Nat.zero_le _, rfl, rfl, rfl, Nat.le_refl _, HSZ.out, HDZ.out⟩
            case round =>
              obtain ⟨j, A2, hjn, rfl, hx2, hi2, hst2, hst, hdb⟩ := hrel
              have HST2 := Lib.hid hst
              have HDB2 := Lib.hid hdb
              have HX2 := Lib.hid hx2
              have HI2 := Lib.hid hi2
              clear hst hdb hx2 hi2
              by_cases hjl : j < L'.length
              · have hj1 : (j : Int) < (L'.length : Int) := by omega
                obtain ⟨bA, rfl, hbA, ⟨p0, p1, p2, p3⟩, hkn⟩ := HST2.out.a.at hjl
                obtain ⟨bD, csD, rfl, hBD, hcD, pd, pf, hset⟩ := HDB2.out.at hjl
                rw [mixD_here, HL_at hjl] at pd
                have HLK0 := Lib.hid (HKA.out.lk _ (List.getElem_mem hjl))
                obtain ⟨th, hth⟩ : ∃ th, th = L'[j].h := ⟨_, rfl⟩
                obtain ⟨xx, hxx⟩ : ∃ xx, xx = L'[j].x := ⟨_, rfl⟩
                have HTH := Lib.hid hth.symm
                have HXX := Lib.hid hxx.symm
                have HTL := Lib.hid (show HL L' j = th from (HL_at hjl).trans hth.symm)
                have HTR := Lib.hid (show 0 ≤ th ∧ th ≤ 18446744073709551615 by rw [hth]; exact hkn.2.2)
                have HXL := Lib.hid (show xx.kids.length ≤ 9223372036854775807 by have := kids4 hkn.2.1; rw [hxx]; omega)
                rw [← hth] at p0 pd
                have HLKX := Lib.hid (show liveL A'.x th → lookI A2.it th = some xx by rw [hth, hxx, HI2.out]; exact HLK0.out)
                clear hth hxx p1 p2 p3 hkn HLK0
                by_cases hth : th = h
                · subst hth
                  have HNL := Lib.hid (show ¬ liveL A'.x th from fun hh => ((HKP.out.2 th).1 hh).2 rfl)
                  have HLQ := HNL
                  have HLV := Lib.hid (show ¬ liveL A2.x th by rw [HX2.out]; exact HNL.out)
                  have hne : ¬ bA = bD := fun e => by
                    obtain ⟨-, cur, hq⟩ := own_typ4 HST2.out.a.1 (q := bA) rfl
                    rw [e, hcD] at hq; injection hq with hq; injection hq with _ hq; exact plainB.n7 hq
                  have hne2 : ¬ bD = bA := fun e => hne e.symm
                  have HSTW := Lib.hid (HST2.out.setP (i := j) hBD hcD plainB (.bool true))
                  have HDW := Lib.hid ((hset true).congr (fun i _ => mixD_set (by rw [HTL.out]; exact dead_yes HNL.out) i))
                  rw [dead_no HLH.out] at pd
                  clear hset hcD
                  have HGT := Lib.hid (soloGet_no w B A2 th (wr.setCell ⟨bD, j, none⟩ (.bool true)) HSTW.out.s (by omega) HLV.out)
                  go_wp2_with fail
                  refine (HGT.out).mono ?_; rintro e w5 ⟨ay, cy, rfl, hs5, hk5⟩
                  have HS5 := Lib.hid (((HSTW.out.turn hk5 hs5)).alloc (.cells #[.int .i64 0, .string ⟨#[]⟩, .slice ay 0 cy] 36))
                  have HD5 := Lib.hid ((HDW.out.turn HSTW.out.s.is hk5).alloc (.cells #[.int .i64 0, .string ⟨#[]⟩, .slice ay 0 cy] 36))
                  have ham := HS5.out.a.at hjl
                  obtain ⟨bq, eb, hbw, ⟨q0, q1, q2, q3⟩, -⟩ := ham
                  cases eb
                  obtain ⟨bd', cs', eb, -, -, qd, -, -⟩ := HD5.out.at hjl
                  cases eb
                  rw [HTH.out] at q0
                  rw [mixD_end j (Nat.lt_succ_self j), HTL.out, dead_yes HLQ.out] at qd
                  clear hs5 hk5 HGT HSTW HDW
                  go_wp2_with fail
                  generalize w5.alloc (.cells #[.int .i64 0, .string ⟨#[]⟩, .slice ay 0 cy] 36) = w6 at *
                  have HLI := Lib.hid (fun (n : Nat) => liveA_no B { A2 with st := A2.st + 1 } th (w6.drewN n) HTR.out (HS5.out.s.is.drewN n) HLV.out)
                  go_quiet ((go_at_call 33; exact Calls.quiet_of (HLI.out _)))
                  go_wp2_with fail
                  go_roundw
                  case rel => exact ⟨j + 1, { A2 with st := A2.st + 1 }, by omega, by go_num, HX2.out, HI2.out, (by show A2.st + 1 ≤ _; omega), HS5.out.drewN _, HD5.out⟩
                  case measure => simp [intOf]; omega
                · have hbq : ((th : Int) == h) = false := by simpa using hth
                  have HIF := Lib.hid (show liveL A'.x th ↔ liveL A.x th by rw [HKP.out.2 th]; exact ⟨fun h => h.1, fun h => ⟨h, hth⟩⟩)
                  have HDE := Lib.hid (show deadB A'.x th = deadB A.x th from decide_eq_decide.2 (not_congr HIF.out))
                  clear hth
                  by_cases hlv : liveL A'.x th
                  · have HLV := Lib.hid (show liveL A2.x th by rw [HX2.out]; exact hlv)
                    have HLK := Lib.hid (HLKX.out hlv)
                    have HSTW := HST2
                    have HDW := Lib.hid (HDB2.out.congr (fun i _ => mixD_next (by rw [HTL.out]; exact HDE.out) i))
                    rw [dead_no (HIF.out.1 hlv)] at pd
                    have HLQ := Lib.hid hlv
                    clear hlv hset hcD
                    have HGT := Lib.hid (soloGet_yes w B A2 th xx wr HSTW.out.s (by omega) HLV.out HLK.out)
                    go_wp2_with fail
                    refine (HGT.out).mono ?_; rintro e w5 ⟨ay, cy, rfl, hks5, hs5, hk5⟩
                    have HS5 := Lib.hid (((HSTW.out.turn hk5 hs5)).alloc (.cells #[.int .i64 xx.h, .string xx.text, .slice ay xx.kids.length cy] 36))
                    have HD5 := Lib.hid ((HDW.out.turn HSTW.out.s.is hk5).alloc (.cells #[.int .i64 xx.h, .string xx.text, .slice ay xx.kids.length cy] 36))
                    have HK5 := Lib.hid (hks5.later ((Below.refl _ _).alloc (Nat.le_refl _) (.cells #[.int .i64 xx.h, .string xx.text, .slice ay xx.kids.length cy] 36)))
                    have hy5 := block_new w5 (.cells #[.int .i64 xx.h, .string xx.text, .slice ay xx.kids.length cy] 36)
                    have ham := HS5.out.a.at hjl
                    obtain ⟨bq, eb, hbw, ⟨q0, q1, q2, q3⟩, hkn⟩ := ham
                    cases eb
                    obtain ⟨bd', cs', eb, -, -, qd, -, -⟩ := HD5.out.at hjl
                    cases eb
                    rw [HTH.out] at q0
                    have HKN := Lib.hid hkn
                    rw [HXX.out] at q1 q2 q3
                    generalize HLA : L'[j].a = la at *
                    generalize HLC : L'[j].c = lc at *
                    have HKL := Lib.hid (show KsOK w.heap.size _ la xx.kids.length lc xx.kids by have := HKN.out.1; rw [HXX.out, HLA, HLC] at this; exact this)
                    clear HLA HLC hkn HKN
                    rw [mixD_end j (Nat.lt_succ_self j), HTL.out, dead_no HLQ.out] at qd
                    clear hks5 hs5 hk5 HGT HSTW HDW
                    have z0 := block_cell hy5 0
                    have z1 := block_cell hy5 1
                    have z2 := block_cell hy5 2
                    have hzz := block_lt hy5
                    simp only [List.getElem?_toArray, List.getElem?_cons_zero, List.getElem?_cons_succ] at z0 z1 z2
                    clear hy5
                    go_wp2_with fail
                    obtain ⟨Y, hY⟩ : ∃ Y, Y = w5.heap.size := ⟨_, rfl⟩
                    generalize hw6 : w5.alloc (.cells #[.int .i64 xx.h, .string xx.text, .slice ay xx.kids.length cy] 36) = w6 at *
                    clear hw6
                    rw [← hY] at z0 z1 z2 hzz
                    rw [← hY]
                    clear hY
                    have HCd := Lib.hid (fun (u : World) (hb : Below w6.heap.size w6 u) => (hb.cell (p := ⟨_, j, none⟩) (World.block_lt_of_cell? _ _ qd)).trans qd)
                    have HC0 := Lib.hid (fun (u : World) (hb : Below w6.heap.size w6 u) => (hb.cell (p := ⟨_, j * 4, none⟩) hbw).trans q0)
                    have HC1 := Lib.hid (fun (u : World) (hb : Below w6.heap.size w6 u) => (hb.cell (p := ⟨_, j * 4 + 1, none⟩) hbw).trans q1)
                    have HC2 := Lib.hid (fun (u : World) (hb : Below w6.heap.size w6 u) => (hb.cell (p := ⟨_, j * 4 + 2, none⟩) hbw).trans q2)
                    have HC3 := Lib.hid (fun (u : World) (hb : Below w6.heap.size w6 u) => (hb.cell (p := ⟨_, j * 4 + 3, none⟩) hbw).trans q3)
                    have HZ0 := Lib.hid (fun (u : World) (hb : Below w6.heap.size w6 u) => (hb.cell (p := ⟨Y, 0, none⟩) hzz).trans z0)
                    have HZ1 := Lib.hid (fun (u : World) (hb : Below w6.heap.size w6 u) => (hb.cell (p := ⟨Y, 1, none⟩) hzz).trans z1)
                    have HZ2 := Lib.hid (fun (u : World) (hb : Below w6.heap.size w6 u) => (hb.cell (p := ⟨Y, 2, none⟩) hzz).trans z2)
                    clear qd q0 q1 q2 q3 z0 z1 z2 hzz
                    refine wp_region_specs (by kernel_rfl) (by decide) (by kernel_rfl) ?_
                    simp only [fill, Act.put, List.setIfInBounds_toArray, List.set_cons_zero, List.set_cons_succ, Nat.zero_add, Nat.reduceAdd]
                    apply OpsOK.eq
                    · intro vs u hb hd
                      clear hd
                      go_wp2_with fail
                      exact ⟨rfl, _, rfl, Below.refl _ _, rfl⟩
                    apply OpsOK.eq
                    · intro vs u hb hd
                      clear hd
                      go_wp2_with fail
                      exact ⟨rfl, _, rfl, Below.refl _ _, rfl⟩
                    apply OpsOK.eq
                    · intro vs u hb hd
                      simp [Region.binds] at hd
                      obtain ⟨e0, e1⟩ := hd
                      simp only [e0, e1]
                      go_wp2_with fail
                      exact ⟨rfl, _, rfl, Below.refl _ _, rfl⟩
                    apply OpsOK.eq
                    · intro vs u hb hd
                      simp [Region.binds] at hd
                      have e2 := hd
                      clear hd
                      simp only [e2]
                      have rd := HCd.out u hb
                      go_wp2_with fail
                      exact ⟨rfl, _, rfl, Below.refl _ _, rfl⟩
                    apply OpsOK.eq
                    · intro vs u hb hd
                      simp [Region.binds] at hd
                      have e3 := hd
                      clear hd
                      simp only [e3]
                      go_wp2_with fail
                      exact ⟨rfl, _, rfl, Below.refl _ _, rfl⟩
                    apply OpsOK.eq
                    · intro vs u hb hd
                      simp [Region.binds] at hd
                      have e4 := hd
                      clear hd
                      simp only [e4]
                      go_wp2_with fail
                      exact ⟨rfl, _, rfl, Below.refl _ _, rfl⟩
                    apply OpsOK.eq
                    · intro vs u hb hd
                      simp [Region.binds] at hd
                      obtain ⟨e5, e4⟩ := hd
                      simp only [e5, e4]
                      go_wp2_with fail
                      exact ⟨rfl, _, rfl, Below.refl _ _, rfl⟩
                    apply OpsOK.eq
                    · intro vs u hb hd
                      simp [Region.binds] at hd
                      obtain ⟨e6, e4⟩ := hd
                      simp only [e6, e4]
                      go_wp2_with fail
                      exact ⟨rfl, _, rfl, Below.refl _ _, rfl⟩
                    apply OpsOK.eq
                    · intro vs u hb hd
                      simp [Region.binds] at hd
                      have e7 := hd
                      clear hd
                      simp only [e7]
                      go_wp2_with fail
                      exact ⟨rfl, _, rfl, Below.refl _ _, rfl⟩
                    apply OpsOK.eq
                    · intro vs u hb hd
                      simp [Region.binds] at hd
                      have e7 := hd
                      clear hd
                      simp only [e7]
                      go_wp2_with fail
                      exact ⟨rfl, _, rfl, Below.refl _ _, rfl⟩
                    apply OpsOK.eq
                    · intro vs u hb hd
                      simp [Region.binds] at hd
                      have e7 := hd
                      clear hd
                      simp only [e7]
                      go_wp2_with fail
                      exact ⟨rfl, _, rfl, Below.refl _ _, rfl⟩
                    apply OpsOK.eq
                    · intro vs u hb hd
                      simp [Region.binds] at hd
                      obtain ⟨e9, e10, e7⟩ := hd
                      simp only [e9, e10, e7]
                      go_wp2_with fail
                      exact ⟨rfl, _, rfl, Below.refl _ _, rfl⟩
                    apply OpsOK.eq
                    · intro vs u hb hd
                      simp [Region.binds] at hd
                      obtain ⟨e11, e7⟩ := hd
                      simp only [e11, e7]
                      go_wp2_with fail
                      exact ⟨rfl, _, rfl, Below.refl _ _, rfl⟩
                    apply OpsOK.eq
                    · intro vs u hb hd
                      simp [Region.binds] at hd
                      obtain ⟨e12, e7⟩ := hd
                      simp only [e12, e7]
                      go_wp2_with fail
                      exact ⟨rfl, _, rfl, Below.refl _ _, rfl⟩
                    apply OpsOK.eq
                    · intro vs u hb hd
                      simp [Region.binds] at hd
                      obtain ⟨e8, e13, e7⟩ := hd
                      simp only [e8, e13, e7]
                      go_wp2_with fail
                      exact ⟨rfl, _, rfl, Below.refl _ _, rfl⟩
                    apply OpsOK.eq
                    · intro vs u hb hd
                      simp [Region.binds] at hd
                      obtain ⟨e7, e14, e4⟩ := hd
                      simp only [e7, e14, e4]
                      go_wp2_with fail
                      exact ⟨rfl, _, rfl, Below.refl _ _, rfl⟩
                    apply OpsOK.eq
                    · intro vs u hb hd
                      simp [Region.binds] at hd
                      obtain ⟨e4, e15⟩ := hd
                      simp only [e4, e15]
                      go_wp2_with fail
                      exact ⟨rfl, _, rfl, Below.refl _ _, rfl⟩
                    apply OpsOK.eq
                    · intro vs u hb hd
                      simp [Region.binds] at hd
                      obtain ⟨e16, e14⟩ := hd
                      simp only [e16, e14]
                      go_wp2_with fail
                      exact ⟨rfl, _, rfl, Below.refl _ _, rfl⟩
                    apply OpsOK.eq
                    · intro vs u hb hd
                      simp [Region.binds] at hd
                      have e17 := hd
                      clear hd
                      simp only [e17]
                      go_wp2_with fail
                      exact ⟨rfl, _, rfl, Below.refl _ _, rfl⟩
                    apply OpsOK.eq
                    · intro vs u hb hd
                      simp [Region.binds] at hd
                      have e17 := hd
                      clear hd
                      simp only [e17]
                      go_wp2_with fail
                      exact ⟨rfl, _, rfl, Below.refl _ _, rfl⟩
                    apply OpsOK.eq
                    · intro vs u hb hd
                      simp [Region.binds] at hd
                      obtain ⟨e18, e19, e17⟩ := hd
                      simp only [e18, e19, e17]
                      go_wp2_with fail
                      exact ⟨rfl, _, rfl, Below.refl _ _, rfl⟩
                    apply OpsOK.eq
                    · intro vs u hb hd
                      simp [Region.binds] at hd
                      obtain ⟨e20, e17⟩ := hd
                      simp only [e20, e17]
                      have rd := HCd.out u hb
                      go_wp2_with fail
                      exact ⟨rfl, _, rfl, Below.refl _ _, rfl⟩
                    apply OpsOK.eq
                    · intro vs u hb hd
                      simp [Region.binds] at hd
                      obtain ⟨e21, e17⟩ := hd
                      simp only [e21, e17]
                      go_wp2_with fail
                      exact ⟨rfl, _, rfl, Below.refl _ _, rfl⟩
                    apply OpsOK.eq
                    · intro vs u hb hd
                      simp [Region.binds] at hd
                      obtain ⟨e22, e17⟩ := hd
                      simp only [e22, e17]
                      go_wp2_with fail
                      exact ⟨rfl, _, rfl, Below.refl _ _, rfl⟩
                    apply OpsOK.eq
                    · intro vs u hb hd
                      simp [Region.binds] at hd
                      have e23 := hd
                      clear hd
                      simp only [e23]
                      go_wp2_with fail
                      exact ⟨rfl, _, rfl, Below.refl _ _, rfl⟩
                    apply OpsOK.eq
                    · intro vs u hb hd
                      simp [Region.binds] at hd
                      obtain ⟨e24, e23⟩ := hd
                      simp only [e24, e23]
                      go_wp2_with fail
                      exact ⟨rfl, _, rfl, Below.refl _ _, rfl⟩
                    apply OpsOK.eq
                    · intro vs u hb hd
                      simp [Region.binds] at hd
                      obtain ⟨e25, e23⟩ := hd
                      simp only [e25, e23]
                      go_wp2_with fail
                      exact ⟨rfl, _, rfl, Below.refl _ _, rfl⟩
                    apply OpsOK.eq
                    · intro vs u hb hd
                      simp [Region.binds] at hd
                      have e26 := hd
                      clear hd
                      simp only [e26]
                      have r0 := HZ0.out u hb
                      have r1 := HZ1.out u hb
                      have r2 := HZ2.out u hb
                      go_wp2_with fail
                      exact ⟨rfl, _, rfl, Below.refl _ _, rfl⟩
                    apply OpsOK.eq
                    · intro vs u hb hd
                      simp [Region.binds] at hd
                      have e26 := hd
                      clear hd
                      simp only [e26]
                      go_wp2_with fail
                      exact ⟨rfl, _, rfl, Below.refl _ _, rfl⟩
                    apply OpsOK.eq
                    · intro vs u hb hd
                      simp [Region.binds] at hd
                      have e26 := hd
                      clear hd
                      simp only [e26]
                      go_wp2_with fail
                      exact ⟨rfl, _, rfl, Below.refl _ _, rfl⟩
                    apply OpsOK.eq
                    · intro vs u hb hd
                      simp [Region.binds] at hd
                      obtain ⟨e28, e29, e26⟩ := hd
                      simp only [e28, e29, e26]
                      go_wp2_with fail
                      exact ⟨rfl, _, rfl, Below.refl _ _, rfl⟩
                    apply OpsOK.eq
                    · intro vs u hb hd
                      simp [Region.binds] at hd
                      obtain ⟨e30, e26⟩ := hd
                      simp only [e30, e26]
                      go_wp2_with fail
                      exact ⟨rfl, _, rfl, Below.refl _ _, rfl⟩
                    apply OpsOK.eq
                    · intro vs u hb hd
                      simp [Region.binds] at hd
                      obtain ⟨e31, e26⟩ := hd
                      simp only [e31, e26]
                      have r0 := HC1.out u hb
                      have r1 := HC2.out u hb
                      have r2 := HC3.out u hb
                      go_wp2_with fail
                      exact ⟨rfl, _, rfl, Below.refl _ _, rfl⟩
                    apply OpsOK.eq
                    · intro vs u hb hd
                      simp [Region.binds] at hd
                      obtain ⟨e27, e32, e26⟩ := hd
                      simp only [e27, e32, e26]
                      go_wp2_with fail
                      refine (equalN_yes xx ay la 0 cy lc u (HK5.out.1.later hb) (HKL.out.1.later hb) HXL.out).mono ?_; rintro e w1 ⟨rfl, hbel⟩; go_wp2_with fail; exact ⟨rfl, _, rfl, hbel, rfl⟩
                    apply OpsOK.eq
                    · intro vs u hb hd
                      simp [Region.binds] at hd
                      obtain ⟨e33, e26⟩ := hd
                      simp only [e33, e26]
                      go_wp2_with fail
                      exact ⟨rfl, _, rfl, Below.refl _ _, rfl⟩
                    apply OpsOK.eq
                    · intro vs u hb hd
                      simp [Region.binds] at hd
                      obtain ⟨e26, e34, e23⟩ := hd
                      simp only [e26, e34, e23]
                      go_wp2_with fail
                      exact ⟨rfl, _, rfl, Below.refl _ _, rfl⟩
                    apply OpsOK.eq
                    · intro vs u hb hd
                      simp [Region.binds] at hd
                      obtain ⟨e35, e33, e23⟩ := hd
                      simp only [e35, e33, e23]
                      go_wp2_with fail
                      exact ⟨rfl, _, rfl, Below.refl _ _, rfl⟩
                    apply OpsOK.eq
                    · intro vs u hb hd
                      simp [Region.binds] at hd
                      have e36 := hd
                      clear hd
                      simp only [e36]
                      go_wp2_with fail
                      exact ⟨rfl, _, rfl, Below.refl _ _, rfl⟩
                    apply OpsOK.eq
                    · intro vs u hb hd
                      simp [Region.binds] at hd
                      have e36 := hd
                      clear hd
                      simp only [e36]
                      go_wp2_with fail
                      exact ⟨rfl, _, rfl, Below.refl _ _, rfl⟩
                    apply OpsOK.eq
                    · intro vs u hb hd
                      simp [Region.binds] at hd
                      have e36 := hd
                      clear hd
                      simp only [e36]
                      go_wp2_with fail
                      exact ⟨rfl, _, rfl, Below.refl _ _, rfl⟩
                    apply OpsOK.eq
                    · intro vs u hb hd
                      simp [Region.binds] at hd
                      obtain ⟨e38, e39, e36⟩ := hd
                      simp only [e38, e39, e36]
                      go_wp2_with fail
                      exact ⟨rfl, _, rfl, Below.refl _ _, rfl⟩
                    apply OpsOK.eq
                    · intro vs u hb hd
                      simp [Region.binds] at hd
                      obtain ⟨e40, e36⟩ := hd
                      simp only [e40, e36]
                      go_wp2_with fail
                      exact ⟨rfl, _, rfl, Below.refl _ _, rfl⟩
                    apply OpsOK.eq
                    · intro vs u hb hd
                      simp [Region.binds] at hd
                      obtain ⟨e41, e36⟩ := hd
                      simp only [e41, e36]
                      have r0 := HC0.out u hb
                      go_wp2_with fail
                      exact ⟨rfl, _, rfl, Below.refl _ _, rfl⟩
                    apply OpsOK.eq
                    · intro vs u hb hd
                      simp [Region.binds] at hd
                      obtain ⟨e37, e42, e36⟩ := hd
                      simp only [e37, e42, e36]
                      go_wp2_with fail
                      refine (liveA_yes B A2 th u HTR.out (HS5.out.s.is.below hb) HLV.out).mono ?_; rintro e w1 ⟨rfl, n1, rfl⟩; go_wp2_with fail; exact ⟨rfl, _, rfl, below_drewN (Below.refl _ _) n1, rfl⟩
                    apply OpsOK.eq
                    · intro vs u hb hd
                      simp [Region.binds] at hd
                      obtain ⟨e43, e36⟩ := hd
                      simp only [e43, e36]
                      go_wp2_with fail
                      exact ⟨rfl, _, rfl, Below.refl _ _, rfl⟩
                    apply OpsOK.eq
                    · intro vs u hb hd
                      simp [Region.binds] at hd
                      obtain ⟨e36, e44, e23⟩ := hd
                      simp only [e36, e44, e23]
                      go_wp2_with fail
                      exact ⟨rfl, _, rfl, Below.refl _ _, rfl⟩
                    apply OpsOK.eq
                    · intro vs u hb hd
                      simp [Region.binds] at hd
                      obtain ⟨e23, e45, e17⟩ := hd
                      simp only [e23, e45, e17]
                      go_wp2_with fail
                      exact ⟨rfl, _, rfl, Below.refl _ _, rfl⟩
                    apply OpsOK.eq
                    · intro vs u hb hd
                      simp [Region.binds] at hd
                      obtain ⟨e17, e46⟩ := hd
                      simp only [e17, e46]
                      go_wp2_with fail
                      exact ⟨rfl, _, rfl, Below.refl _ _, rfl⟩
                    refine OpsOK.done ?_
                    intro vs u hbu hS
                    have h47 := hS 47 (by decide)
                    simp at h47
                    simp only [h47]
                    clear h47
                    clear hS
                    have HBU := Lib.hid hbu
                    clear hbu
                    go_wp2_with fail
                    go_roundw
                    case rel => exact ⟨j + 1, A2, by omega, by go_num, HX2.out, HI2.out, by omega, HS5.out.below HBU.out, HD5.out.below HBU.out⟩
                    case measure => simp [intOf]; omega
                  · have HLV := Lib.hid (show ¬ liveL A2.x th by rw [HX2.out]; exact hlv)
                    have HSTW := HST2
                    have HDW := Lib.hid (HDB2.out.congr (fun i _ => mixD_next (by rw [HTL.out]; exact HDE.out) i))
                    rw [dead_yes (fun hh => hlv (HIF.out.2 hh))] at pd
                    have HLQ := Lib.hid hlv
                    clear hlv hset hcD
                    have HGT := Lib.hid (soloGet_no w B A2 th wr HSTW.out.s (by omega) HLV.out)
                    go_wp2_with fail
                    refine (HGT.out).mono ?_; rintro e w5 ⟨ay, cy, rfl, hs5, hk5⟩
                    have HS5 := Lib.hid (((HSTW.out.turn hk5 hs5)).alloc (.cells #[.int .i64 0, .string ⟨#[]⟩, .slice ay 0 cy] 36))
                    have HD5 := Lib.hid ((HDW.out.turn HSTW.out.s.is hk5).alloc (.cells #[.int .i64 0, .string ⟨#[]⟩, .slice ay 0 cy] 36))
                    have ham := HS5.out.a.at hjl
                    obtain ⟨bq, eb, hbw, ⟨q0, q1, q2, q3⟩, -⟩ := ham
                    cases eb
                    obtain ⟨bd', cs', eb, -, -, qd, -, -⟩ := HD5.out.at hjl
                    cases eb
                    rw [HTH.out] at q0
                    rw [mixD_end j (Nat.lt_succ_self j), HTL.out, dead_yes HLQ.out] at qd
                    clear hs5 hk5 HGT HSTW HDW
                    go_wp2_with fail
                    generalize w5.alloc (.cells #[.int .i64 0, .string ⟨#[]⟩, .slice ay 0 cy] 36) = w6 at *
                    have HLI := Lib.hid (fun (n : Nat) => liveA_no B { A2 with st := A2.st + 1 } th (w6.drewN n) HTR.out (HS5.out.s.is.drewN n) HLV.out)
                    go_quiet ((go_at_call 33; exact Calls.quiet_of (HLI.out _)))
                    go_wp2_with fail
                    go_roundw
                    case rel => exact ⟨j + 1, { A2 with st := A2.st + 1 }, by omega, by go_num, HX2.out, HI2.out, (by show A2.st + 1 ≤ _; omega), HS5.out.drewN _, HD5.out⟩
                    case measure => simp [intOf]; omega
              · obtain rfl : j = L'.length := by omega
                have HFI := Lib.hid (HDB2.out.congr (fun i hi => (mixD_end i hi).trans (by rw [← HX2.out])))
                have hst3 : A2.st ≤ 50 * (k + 1) := by omega
                go_wp2_with fail
                go_roundw
                case rel => exact ⟨k + 1, A2, L', by omega, by omega, by go_num, HST2.out, HKA.out.same HX2.out HI2.out, HLN.out, hst3, HFI.out⟩
                case measure => simp [intOf]; omega
        · as_aux_lemma =>
            have hpf : PF A (playS A L d) 0 0 1 := by rw [hS]; exact ⟨rfl, rfl, rfl, rfl, rfl⟩
            have hka : KI (playS A L d) L := by rw [hS]; exact HKI.out.same rfl rfl
            have hxe : (playS A L d).x = A.x := by rw [hS]
            rw [hr] at hp
            unfold PlayR at hp
            simp only at hp
            obtain ⟨A', hA'⟩ : ∃ A', A' = playS A L d := ⟨_, rfl⟩
            rw [← hA'] at hp hpf hka hxe
            have HKP := Lib.hid hka
            have HXE := Lib.hid hxe
            clear hka hxe
            have HP := Lib.hid hp
            have HPF := Lib.hid hpf
            clear hp hpf hr hA' hS
            unfold noN at HP
            simp only [List.length_nil] at HP
            go_wp2_with fail
            refine (HP.out).mono ?_; rintro e w2 ⟨ao, c2, rfl, hks, hs2, hk2⟩
            have HS2 := Lib.hid ((HST.out.turn hk2 hs2).alloc (.cells #[.int .i64 0, .string ⟨#[]⟩, .slice ao 0 c2] 36))
            have HD2 := Lib.hid ((HDB.out.turn HST.out.s.is hk2).alloc (.cells #[.int .i64 0, .string ⟨#[]⟩, .slice ao 0 c2] 36))
            obtain ⟨L', hL'⟩ : ∃ L', L' = L := ⟨_, rfl⟩
            have HKA := Lib.hid (show KI A' L' by rw [hL']; exact HKP.out)
            have HLN := Lib.hid (show L'.length ≤ k + 1 by rw [hL']; omega)
            have HSZ := Lib.hid (show St w _ B A' u9 L' by rw [hL']; exact HS2.out)
            have HDZ := Lib.hid (show DB _ w.heap.size u10 L'.length (mixD A'.x A'.x L' 0) by rw [mixD_zero, hL', HXE.out]; exact HD2.out)
            clear hks hs2 hk2 HP HS2 HD2 HDB hL'
            go_wp2_with fail
            generalize w2.alloc (.cells #[.int .i64 0, .string ⟨#[]⟩, .slice ao 0 c2] 36) = wz at *
            obtain ⟨aA, cA, rfl, -⟩ := HSZ.out.a.form
            obtain ⟨aD, cD, rfl⟩ := HDZ.out.slice
            have hN40 : L'.length ≤ 40 := by have := HLN.out; omega
            have hst1 : A'.st ≤ 50 * k + 1 := by have := HPF.out.st; omega
            go_loopw [17] (fun s17 wr => ∃ (j : Nat) (A2 : AS), j ≤ L'.length ∧ s17 = .int .i64 j ∧ A2.x = A'.x ∧ A2.it = A'.it ∧ A2.st ≤ A'.st + j ∧ St w wr B A2 (.slice aA L'.length cA) L' ∧ DB wr w.heap.size (.slice aD L'.length cD) L'.length (mixD A'.x A'.x L' j)) (fun s17 _ => L'.length - (intOf s17).toNat)
            case atStart => exact ⟨0, A', Nat.zero_le _, rfl, rfl, rfl, Nat.le_refl _, HSZ.out, HDZ.out⟩
            case round =>
              obtain ⟨j, A2, hjn, rfl, hx2, hi2, hst2, hst, hdb⟩ := hrel
              have HST2 := Lib.hid hst
              have HDB2 := Lib.hid hdb
              have HX2 := Lib.hid hx2
              have HI2 := Lib.hid hi2
              clear hst hdb hx2 hi2
              by_cases hjl : j < L'.length
              · have hj1 : (j : Int) < (L'.length : Int) := by omega
                obtain ⟨bA, rfl, hbA, ⟨p0, p1, p2, p3⟩, hkn⟩ := HST2.out.a.at hjl
                obtain ⟨bD, csD, rfl, hBD, hcD, pd, pf, hset⟩ := HDB2.out.at hjl
                rw [mixD_here, HL_at hjl] at pd
                have HLK0 := Lib.hid (HKA.out.lk _ (List.getElem_mem hjl))
                obtain ⟨th, hth⟩ : ∃ th, th = L'[j].h := ⟨_, rfl⟩
                obtain ⟨xx, hxx⟩ : ∃ xx, xx = L'[j].x := ⟨_, rfl⟩
                have HTH := Lib.hid hth.symm
                have HXX := Lib.hid hxx.symm
                have HTL := Lib.hid (show HL L' j = th from (HL_at hjl).trans hth.symm)
                have HTR := Lib.hid (show 0 ≤ th ∧ th ≤ 18446744073709551615 by rw [hth]; exact hkn.2.2)
                have HXL := Lib.hid (show xx.kids.length ≤ 9223372036854775807 by have := kids4 hkn.2.1; rw [hxx]; omega)
                rw [← hth] at p0 pd
                have HLKX := Lib.hid (show liveL A'.x th → lookI A2.it th = some xx by rw [hth, hxx, HI2.out]; exact HLK0.out)
                clear hth hxx p1 p2 p3 hkn HLK0
                by_cases hlv : liveL A'.x th
                · have HLV := Lib.hid (show liveL A2.x th by rw [HX2.out]; exact hlv)
                  have HLK := Lib.hid (HLKX.out hlv)
                  have HSTW := HST2
                  have HDW := Lib.hid (HDB2.out.congr (fun i _ => mixD_next (by rw [HTL.out]) i))
                  have HLQ := Lib.hid hlv
                  rw [dead_no hlv] at pd
                  clear hlv hset hcD
                  have HGT := Lib.hid (soloGet_yes w B A2 th xx wr HSTW.out.s (by omega) HLV.out HLK.out)
                  go_wp2_with fail
                  refine (HGT.out).mono ?_; rintro e w5 ⟨ay, cy, rfl, hks5, hs5, hk5⟩
                  have HS5 := Lib.hid (((HSTW.out.turn hk5 hs5)).alloc (.cells #[.int .i64 xx.h, .string xx.text, .slice ay xx.kids.length cy] 36))
                  have HD5 := Lib.hid ((HDW.out.turn HSTW.out.s.is hk5).alloc (.cells #[.int .i64 xx.h, .string xx.text, .slice ay xx.kids.length cy] 36))
                  have HK5 := Lib.hid (hks5.later ((Below.refl _ _).alloc (Nat.le_refl _) (.cells #[.int .i64 xx.h, .string xx.text, .slice ay xx.kids.length cy] 36)))
                  have hy5 := block_new w5 (.cells #[.int .i64 xx.h, .string xx.text, .slice ay xx.kids.length cy] 36)
                  have ham := HS5.out.a.at hjl
                  obtain ⟨bq, eb, hbw, ⟨q0, q1, q2, q3⟩, hkn⟩ := ham
                  cases eb
                  obtain ⟨bd', cs', eb, -, -, qd, -, -⟩ := HD5.out.at hjl
                  cases eb
                  rw [HTH.out] at q0
                  have HKN := Lib.hid hkn
                  rw [HXX.out] at q1 q2 q3
                  generalize HLA : L'[j].a = la at *
                  generalize HLC : L'[j].c = lc at *
                  have HKL := Lib.hid (show KsOK w.heap.size _ la xx.kids.length lc xx.kids by have := HKN.out.1; rw [HXX.out, HLA, HLC] at this; exact this)
                  clear HLA HLC hkn HKN
                  rw [mixD_end j (Nat.lt_succ_self j), HTL.out, dead_no HLQ.out] at qd
                  clear hks5 hs5 hk5 HGT HSTW HDW
                  have z0 := block_cell hy5 0
                  have z1 := block_cell hy5 1
                  have z2 := block_cell hy5 2
                  have hzz := block_lt hy5
                  simp only [List.getElem?_toArray, List.getElem?_cons_zero, List.getElem?_cons_succ] at z0 z1 z2
                  clear hy5
                  go_wp2_with fail
                  obtain ⟨Y, hY⟩ : ∃ Y, Y = w5.heap.size := ⟨_, rfl⟩
                  generalize hw6 : w5.alloc (.cells #[.int .i64 xx.h, .string xx.text, .slice ay xx.kids.length cy] 36) = w6 at *
                  clear hw6
                  rw [← hY] at z0 z1 z2 hzz
                  rw [← hY]
                  clear hY
                  have HCd := Lib.hid (fun (u : World) (hb : Below w6.heap.size w6 u) => (hb.cell (p := ⟨_, j, none⟩) (World.block_lt_of_cell? _ _ qd)).trans qd)
                  have HC0 := Lib.hid (fun (u : World) (hb : Below w6.heap.size w6 u) => (hb.cell (p := ⟨_, j * 4, none⟩) hbw).trans q0)
                  have HC1 := Lib.hid (fun (u : World) (hb : Below w6.heap.size w6 u) => (hb.cell (p := ⟨_, j * 4 + 1, none⟩) hbw).trans q1)
                  have HC2 := Lib.hid (fun (u : World) (hb : Below w6.heap.size w6 u) => (hb.cell (p := ⟨_, j * 4 + 2, none⟩) hbw).trans q2)
                  have HC3 := Lib.hid (fun (u : World) (hb : Below w6.heap.size w6 u) => (hb.cell (p := ⟨_, j * 4 + 3, none⟩) hbw).trans q3)
                  have HZ0 := Lib.hid (fun (u : World) (hb : Below w6.heap.size w6 u) => (hb.cell (p := ⟨Y, 0, none⟩) hzz).trans z0)
                  have HZ1 := Lib.hid (fun (u : World) (hb : Below w6.heap.size w6 u) => (hb.cell (p := ⟨Y, 1, none⟩) hzz).trans z1)
                  have HZ2 := Lib.hid (fun (u : World) (hb : Below w6.heap.size w6 u) => (hb.cell (p := ⟨Y, 2, none⟩) hzz).trans z2)
                  clear qd q0 q1 q2 q3 z0 z1 z2 hzz
                  refine wp_region_specs (by kernel_rfl) (by decide) (by kernel_rfl) ?_
                  simp only [fill, Act.put, List.setIfInBounds_toArray, List.set_cons_zero, List.set_cons_succ, Nat.zero_add, Nat.reduceAdd]
                  apply OpsOK.eq
                  · intro vs u hb hd
                    clear hd
                    go_wp2_with fail
                    exact ⟨rfl, _, rfl, Below.refl _ _, rfl⟩
                  apply OpsOK.eq
                  · intro vs u hb hd
                    clear hd
                    go_wp2_with fail
                    exact ⟨rfl, _, rfl, Below.refl _ _, rfl⟩
                  apply OpsOK.eq
                  · intro vs u hb hd
                    simp [Region.binds] at hd
                    obtain ⟨e0, e1⟩ := hd
                    simp only [e0, e1]
                    go_wp2_with fail
                    exact ⟨rfl, _, rfl, Below.refl _ _, rfl⟩
                  apply OpsOK.eq
                  · intro vs u hb hd
                    simp [Region.binds] at hd
                    have e2 := hd
                    clear hd
                    simp only [e2]
                    have rd := HCd.out u hb
                    go_wp2_with fail
                    exact ⟨rfl, _, rfl, Below.refl _ _, rfl⟩
                  apply OpsOK.eq
                  · intro vs u hb hd
                    simp [Region.binds] at hd
                    have e3 := hd
                    clear hd
                    simp only [e3]
                    go_wp2_with fail
                    exact ⟨rfl, _, rfl, Below.refl _ _, rfl⟩
                  apply OpsOK.eq
                  · intro vs u hb hd
                    simp [Region.binds] at hd
                    have e4 := hd
                    clear hd
                    simp only [e4]
                    go_wp2_with fail
                    exact ⟨rfl, _, rfl, Below.refl _ _, rfl⟩
                  apply OpsOK.eq
                  · intro vs u hb hd
                    simp [Region.binds] at hd
                    obtain ⟨e5, e4⟩ := hd
                    simp only [e5, e4]
                    go_wp2_with fail
                    exact ⟨rfl, _, rfl, Below.refl _ _, rfl⟩
                  apply OpsOK.eq
                  · intro vs u hb hd
                    simp [Region.binds] at hd
                    obtain ⟨e6, e4⟩ := hd
                    simp only [e6, e4]
                    go_wp2_with fail
                    exact ⟨rfl, _, rfl, Below.refl _ _, rfl⟩
                  apply OpsOK.eq
                  · intro vs u hb hd
                    simp [Region.binds] at hd
                    have e7 := hd
                    clear hd
                    simp only [e7]
                    go_wp2_with fail
                    exact ⟨rfl, _, rfl, Below.refl _ _, rfl⟩
                  apply OpsOK.eq
                  · intro vs u hb hd
                    simp [Region.binds] at hd
                    have e7 := hd
                    clear hd
                    simp only [e7]
                    go_wp2_with fail
                    exact ⟨rfl, _, rfl, Below.refl _ _, rfl⟩
                  apply OpsOK.eq
                  · intro vs u hb hd
                    simp [Region.binds] at hd
                    have e7 := hd
                    clear hd
                    simp only [e7]
                    go_wp2_with fail
                    exact ⟨rfl, _, rfl, Below.refl _ _, rfl⟩
                  apply OpsOK.eq
                  · intro vs u hb hd
                    simp [Region.binds] at hd
                    obtain ⟨e9, e10, e7⟩ := hd
                    simp only [e9, e10, e7]
                    go_wp2_with fail
                    exact ⟨rfl, _, rfl, Below.refl _ _, rfl⟩
                  apply OpsOK.eq
                  · intro vs u hb hd
                    simp [Region.binds] at hd
                    obtain ⟨e11, e7⟩ := hd
                    simp only [e11, e7]
                    go_wp2_with fail
                    exact ⟨rfl, _, rfl, Below.refl _ _, rfl⟩
                  apply OpsOK.eq
                  · intro vs u hb hd
                    simp [Region.binds] at hd
                    obtain ⟨e12, e7⟩ := hd
                    simp only [e12, e7]
                    go_wp2_with fail
                    exact ⟨rfl, _, rfl, Below.refl _ _, rfl⟩
                  apply OpsOK.eq
                  · intro vs u hb hd
                    simp [Region.binds] at hd
                    obtain ⟨e8, e13, e7⟩ := hd
                    simp only [e8, e13, e7]
                    go_wp2_with fail
                    exact ⟨rfl, _, rfl, Below.refl _ _, rfl⟩
                  apply OpsOK.eq
                  · intro vs u hb hd
                    simp [Region.binds] at hd
                    obtain ⟨e7, e14, e4⟩ := hd
                    simp only [e7, e14, e4]
                    go_wp2_with fail
                    exact ⟨rfl, _, rfl, Below.refl _ _, rfl⟩
                  apply OpsOK.eq
                  · intro vs u hb hd
                    simp [Region.binds] at hd
                    obtain ⟨e4, e15⟩ := hd
                    simp only [e4, e15]
                    go_wp2_with fail
                    exact ⟨rfl, _, rfl, Below.refl _ _, rfl⟩
                  apply OpsOK.eq
                  · intro vs u hb hd
                    simp [Region.binds] at hd
                    obtain ⟨e16, e14⟩ := hd
                    simp only [e16, e14]
                    go_wp2_with fail
                    exact ⟨rfl, _, rfl, Below.refl _ _, rfl⟩
                  apply OpsOK.eq
                  · intro vs u hb hd
                    simp [Region.binds] at hd
                    have e17 := hd
                    clear hd
                    simp only [e17]
                    go_wp2_with fail
                    exact ⟨rfl, _, rfl, Below.refl _ _, rfl⟩
                  apply OpsOK.eq
                  · intro vs u hb hd
                    simp [Region.binds] at hd
                    have e17 := hd
                    clear hd
                    simp only [e17]
                    go_wp2_with fail
                    exact ⟨rfl, _, rfl, Below.refl _ _, rfl⟩
                  apply OpsOK.eq
                  · intro vs u hb hd
                    simp [Region.binds] at hd
                    obtain ⟨e18, e19, e17⟩ := hd
                    simp only [e18, e19, e17]
                    go_wp2_with fail
                    exact ⟨rfl, _, rfl, Below.refl _ _, rfl⟩
                  apply OpsOK.eq
                  · intro vs u hb hd
                    simp [Region.binds] at hd
                    obtain ⟨e20, e17⟩ := hd
                    simp only [e20, e17]
                    have rd := HCd.out u hb
                    go_wp2_with fail
                    exact ⟨rfl, _, rfl, Below.refl _ _, rfl⟩
                  apply OpsOK.eq
                  · intro vs u hb hd
                    simp [Region.binds] at hd
                    obtain ⟨e21, e17⟩ := hd
                    simp only [e21, e17]
                    go_wp2_with fail
                    exact ⟨rfl, _, rfl, Below.refl _ _, rfl⟩
                  apply OpsOK.eq
                  · intro vs u hb hd
                    simp [Region.binds] at hd
                    obtain ⟨e22, e17⟩ := hd
                    simp only [e22, e17]
                    go_wp2_with fail
                    exact ⟨rfl, _, rfl, Below.refl _ _, rfl⟩
                  apply OpsOK.eq
                  · intro vs u hb hd
                    simp [Region.binds] at hd
                    have e23 := hd
                    clear hd
                    simp only [e23]
                    go_wp2_with fail
                    exact ⟨rfl, _, rfl, Below.refl _ _, rfl⟩
                  apply OpsOK.eq
                  · intro vs u hb hd
                    simp [Region.binds] at hd
                    obtain ⟨e24, e23⟩ := hd
                    simp only [e24, e23]
                    go_wp2_with fail
                    exact ⟨rfl, _, rfl, Below.refl _ _, rfl⟩
                  apply OpsOK.eq
                  · intro vs u hb hd
                    simp [Region.binds] at hd
                    obtain ⟨e25, e23⟩ := hd
                    simp only [e25, e23]
                    go_wp2_with fail
                    exact ⟨rfl, _, rfl, Below.refl _ _, rfl⟩
                  apply OpsOK.eq
                  · intro vs u hb hd
                    simp [Region.binds] at hd
                    have e26 := hd
                    clear hd
                    simp only [e26]
                    have r0 := HZ0.out u hb
                    have r1 := HZ1.out u hb
                    have r2 := HZ2.out u hb
                    go_wp2_with fail
                    exact ⟨rfl, _, rfl, Below.refl _ _, rfl⟩
                  apply OpsOK.eq
                  · intro vs u hb hd
                    simp [Region.binds] at hd
                    have e26 := hd
                    clear hd
                    simp only [e26]
                    go_wp2_with fail
                    exact ⟨rfl, _, rfl, Below.refl _ _, rfl⟩
                  apply OpsOK.eq
                  · intro vs u hb hd
                    simp [Region.binds] at hd
                    have e26 := hd
                    clear hd
                    simp only [e26]
                    go_wp2_with fail
                    exact ⟨rfl, _, rfl, Below.refl _ _, rfl⟩
                  apply OpsOK.eq
                  · intro vs u hb hd
                    simp [Region.binds] at hd
                    obtain ⟨e28, e29, e26⟩ := hd
                    simp only [e28, e29, e26]
                    go_wp2_with fail
                    exact ⟨rfl, _, rfl, Below.refl _ _, rfl⟩
                  apply OpsOK.eq
                  · intro vs u hb hd
                    simp [Region.binds] at hd
                    obtain ⟨e30, e26⟩ := hd
                    simp only [e30, e26]
                    go_wp2_with fail
                    exact ⟨rfl, _, rfl, Below.refl _ _, rfl⟩
                  apply OpsOK.eq
                  · intro vs u hb hd
                    simp [Region.binds] at hd
                    obtain ⟨e31, e26⟩ := hd
                    simp only [e31, e26]
                    have r0 := HC1.out u hb
                    have r1 := HC2.out u hb
                    have r2 := HC3.out u hb
                    go_wp2_with fail
                    exact ⟨rfl, _, rfl, Below.refl _ _, rfl⟩
                  apply OpsOK.eq
                  · intro vs u hb hd
                    simp [Region.binds] at hd
                    obtain ⟨e27, e32, e26⟩ := hd
                    simp only [e27, e32, e26]
                    go_wp2_with fail
                    refine (equalN_yes xx ay la 0 cy lc u (HK5.out.1.later hb) (HKL.out.1.later hb) HXL.out).mono ?_; rintro e w1 ⟨rfl, hbel⟩; go_wp2_with fail; exact ⟨rfl, _, rfl, hbel, rfl⟩
                  apply OpsOK.eq
                  · intro vs u hb hd
                    simp [Region.binds] at hd
                    obtain ⟨e33, e26⟩ := hd
                    simp only [e33, e26]
                    go_wp2_with fail
                    exact ⟨rfl, _, rfl, Below.refl _ _, rfl⟩
                  apply OpsOK.eq
                  · intro vs u hb hd
                    simp [Region.binds] at hd
                    obtain ⟨e26, e34, e23⟩ := hd
                    simp only [e26, e34, e23]
                    go_wp2_with fail
                    exact ⟨rfl, _, rfl, Below.refl _ _, rfl⟩
                  apply OpsOK.eq
                  · intro vs u hb hd
                    simp [Region.binds] at hd
                    obtain ⟨e35, e33, e23⟩ := hd
                    simp only [e35, e33, e23]
                    go_wp2_with fail
                    exact ⟨rfl, _, rfl, Below.refl _ _, rfl⟩
                  apply OpsOK.eq
                  · intro vs u hb hd
                    simp [Region.binds] at hd
                    have e36 := hd
                    clear hd
                    simp only [e36]
                    go_wp2_with fail
                    exact ⟨rfl, _, rfl, Below.refl _ _, rfl⟩
                  apply OpsOK.eq
                  · intro vs u hb hd
                    simp [Region.binds] at hd
                    have e36 := hd
                    clear hd
                    simp only [e36]
                    go_wp2_with fail
                    exact ⟨rfl, _, rfl, Below.refl _ _, rfl⟩
                  apply OpsOK.eq
                  · intro vs u hb hd
                    simp [Region.binds] at hd
                    have e36 := hd
                    clear hd
                    simp only [e36]
                    go_wp2_with fail
                    exact ⟨rfl, _, rfl, Below.refl _ _, rfl⟩
                  apply OpsOK.eq
                  · intro vs u hb hd
                    simp [Region.binds] at hd
                    obtain ⟨e38, e39, e36⟩ := hd
                    simp only [e38, e39, e36]
                    go_wp2_with fail
                    exact ⟨rfl, _, rfl, Below.refl _ _, rfl⟩
                  apply OpsOK.eq
                  · intro vs u hb hd
                    simp [Region.binds] at hd
                    obtain ⟨e40, e36⟩ := hd
                    simp only [e40, e36]
                    go_wp2_with fail
                    exact ⟨rfl, _, rfl, Below.refl _ _, rfl⟩
                  apply OpsOK.eq
                  · intro vs u hb hd
                    simp [Region.binds] at hd
                    obtain ⟨e41, e36⟩ := hd
                    simp only [e41, e36]
                    have r0 := HC0.out u hb
                    go_wp2_with fail
                    exact ⟨rfl, _, rfl, Below.refl _ _, rfl⟩
                  apply OpsOK.eq
                  · intro vs u hb hd
                    simp [Region.binds] at hd
                    obtain ⟨e37, e42, e36⟩ := hd
                    simp only [e37, e42, e36]
                    go_wp2_with fail
                    refine (liveA_yes B A2 th u HTR.out (HS5.out.s.is.below hb) HLV.out).mono ?_; rintro e w1 ⟨rfl, n1, rfl⟩; go_wp2_with fail; exact ⟨rfl, _, rfl, below_drewN (Below.refl _ _) n1, rfl⟩
                  apply OpsOK.eq
                  · intro vs u hb hd
                    simp [Region.binds] at hd
                    obtain ⟨e43, e36⟩ := hd
                    simp only [e43, e36]
                    go_wp2_with fail
                    exact ⟨rfl, _, rfl, Below.refl _ _, rfl⟩
                  apply OpsOK.eq
                  · intro vs u hb hd
                    simp [Region.binds] at hd
                    obtain ⟨e36, e44, e23⟩ := hd
                    simp only [e36, e44, e23]
                    go_wp2_with fail
                    exact ⟨rfl, _, rfl, Below.refl _ _, rfl⟩
                  apply OpsOK.eq
                  · intro vs u hb hd
                    simp [Region.binds] at hd
                    obtain ⟨e23, e45, e17⟩ := hd
                    simp only [e23, e45, e17]
                    go_wp2_with fail
                    exact ⟨rfl, _, rfl, Below.refl _ _, rfl⟩
                  apply OpsOK.eq
                  · intro vs u hb hd
                    simp [Region.binds] at hd
                    obtain ⟨e17, e46⟩ := hd
                    simp only [e17, e46]
                    go_wp2_with fail
                    exact ⟨rfl, _, rfl, Below.refl _ _, rfl⟩
                  refine OpsOK.done ?_
                  intro vs u hbu hS
                  have h47 := hS 47 (by decide)
                  simp at h47
                  simp only [h47]
                  clear h47
                  clear hS
                  have HBU := Lib.hid hbu
                  clear hbu
                  go_wp2_with fail
                  go_roundw
                  case rel => exact ⟨j + 1, A2, by omega, by go_num, HX2.out, HI2.out, by omega, HS5.out.below HBU.out, HD5.out.below HBU.out⟩
                  case measure => simp [intOf]; omega
                · have HLV := Lib.hid (show ¬ liveL A2.x th by rw [HX2.out]; exact hlv)
                  have HSTW := HST2
                  have HDW := Lib.hid (HDB2.out.congr (fun i _ => mixD_next (by rw [HTL.out]) i))
                  have HLQ := Lib.hid hlv
                  rw [dead_yes hlv] at pd
                  clear hlv hset hcD
                  have HGT := Lib.hid (soloGet_no w B A2 th wr HSTW.out.s (by omega) HLV.out)
                  go_wp2_with fail
                  refine (HGT.out).mono ?_; rintro e w5 ⟨ay, cy, rfl, hs5, hk5⟩
                  have HS5 := Lib.hid (((HSTW.out.turn hk5 hs5)).alloc (.cells #[.int .i64 0, .string ⟨#[]⟩, .slice ay 0 cy] 36))
                  have HD5 := Lib.hid ((HDW.out.turn HSTW.out.s.is hk5).alloc (.cells #[.int .i64 0, .string ⟨#[]⟩, .slice ay 0 cy] 36))
                  have ham := HS5.out.a.at hjl
                  obtain ⟨bq, eb, hbw, ⟨q0, q1, q2, q3⟩, -⟩ := ham
                  cases eb
                  obtain ⟨bd', cs', eb, -, -, qd, -, -⟩ := HD5.out.at hjl
                  cases eb
                  rw [HTH.out] at q0
                  rw [mixD_end j (Nat.lt_succ_self j), HTL.out, dead_yes HLQ.out] at qd
                  clear hs5 hk5 HGT HSTW HDW
                  go_wp2_with fail
                  generalize w5.alloc (.cells #[.int .i64 0, .string ⟨#[]⟩, .slice ay 0 cy] 36) = w6 at *
                  have HLI := Lib.hid (fun (n : Nat) => liveA_no B { A2 with st := A2.st + 1 } th (w6.drewN n) HTR.out (HS5.out.s.is.drewN n) HLV.out)
                  go_quiet ((go_at_call 33; exact Calls.quiet_of (HLI.out _)))
                  go_wp2_with fail
                  go_roundw
                  case rel => exact ⟨j + 1, { A2 with st := A2.st + 1 }, by omega, by go_num, HX2.out, HI2.out, (by show A2.st + 1 ≤ _; omega), HS5.out.drewN _, HD5.out⟩
                  case measure => simp [intOf]; omega
              · obtain rfl : j = L'.length := by omega
                have HFI := Lib.hid (HDB2.out.congr (fun i hi => (mixD_end i hi).trans (by rw [← HX2.out])))
                have hst3 : A2.st ≤ 50 * (k + 1) := by omega
                go_wp2_with fail
                go_roundw
                case rel => exact ⟨k + 1, A2, L', by omega, by omega, by go_num, HST2.out, HKA.out.same HX2.out HI2.out, HLN.out, hst3, HFI.out⟩
                case measure => simp [intOf]; omega
        · as_aux_lemma =>
            have hpf : PF A (playS A L d) 0 0 0 := by rw [hS]; exact PF.refl A
            have hka : KI (playS A L d) L := by rw [hS]; exact HKI.out
            have hxe : (playS A L d).x = A.x := by rw [hS]
            rw [hr] at hp
            unfold PlayR at hp
            simp only at hp
            obtain ⟨A', hA'⟩ : ∃ A', A' = playS A L d := ⟨_, rfl⟩
            rw [← hA'] at hp hpf hka hxe
            have HKP := Lib.hid hka
            have HXE := Lib.hid hxe
            clear hka hxe
            have HP := Lib.hid hp
            have HPF := Lib.hid hpf
            clear hp hpf hr hA' hS
            generalize nodeOf A h = xz at *
            go_wp2_with fail
            refine (HP.out).mono ?_; rintro e w2 ⟨ao, c2, rfl, hks, hs2, hk2⟩
            have HS2 := Lib.hid ((HST.out.turn hk2 hs2).alloc (.cells #[.int .i64 xz.h, .string xz.text, .slice ao xz.kids.length c2] 36))
            have HD2 := Lib.hid ((HDB.out.turn HST.out.s.is hk2).alloc (.cells #[.int .i64 xz.h, .string xz.text, .slice ao xz.kids.length c2] 36))
            obtain ⟨L', hL'⟩ : ∃ L', L' = L := ⟨_, rfl⟩
            have HKA := Lib.hid (show KI A' L' by rw [hL']; exact HKP.out)
            have HLN := Lib.hid (show L'.length ≤ k + 1 by rw [hL']; omega)
            have HSZ := Lib.hid (show St w _ B A' u9 L' by rw [hL']; exact HS2.out)
            have HDZ := Lib.hid (show DB _ w.heap.size u10 L'.length (mixD A'.x A'.x L' 0) by rw [mixD_zero, hL', HXE.out]; exact HD2.out)
            clear hks hs2 hk2 HP HS2 HD2 HDB hL'
            go_wp2_with fail
            generalize w2.alloc (.cells #[.int .i64 xz.h, .string xz.text, .slice ao xz.kids.length c2] 36) = wz at *
            obtain ⟨aA, cA, rfl, -⟩ := HSZ.out.a.form
            obtain ⟨aD, cD, rfl⟩ := HDZ.out.slice
            have hN40 : L'.length ≤ 40 := by have := HLN.out; omega
            have hst1 : A'.st ≤ 50 * k + 1 := by have := HPF.out.st; omega
            go_loopw [17] (fun s17 wr => ∃ (j : Nat) (A2 : AS), j ≤ L'.length ∧ s17 = .int .i64 j ∧ A2.x = A'.x ∧ A2.it = A'.it ∧ A2.st ≤ A'.st + j ∧ St w wr B A2 (.slice aA L'.length cA) L' ∧ DB wr w.heap.size (.slice aD L'.length cD) L'.length (mixD A'.x A'.x L' j)) (fun s17 _ => L'.length - (intOf s17).toNat)
            case atStart => exact ⟨0, A', Nat.zero_le _, rfl, rfl, rfl, Nat.le_refl _, HSZ.out, HDZ.out⟩
            case round =>
              obtain ⟨j, A2, hjn, rfl, hx2, hi2, hst2, hst, hdb⟩ := hrel
              have HST2 := Lib.hid hst
              have HDB2 := Lib.hid hdb
              have HX2 := Lib.hid hx2
              have HI2 := Lib.hid hi2
              clear hst hdb hx2 hi2
              by_cases hjl : j < L'.length
              · have hj1 : (j : Int) < (L'.length : Int) := by omega
                obtain ⟨bA, rfl, hbA, ⟨p0, p1, p2, p3⟩, hkn⟩ := HST2.out.a.at hjl
                obtain ⟨bD, csD, rfl, hBD, hcD, pd, pf, hset⟩ := HDB2.out.at hjl
                rw [mixD_here, HL_at hjl] at pd
                have HLK0 := Lib.hid (HKA.out.lk _ (List.getElem_mem hjl))
                obtain ⟨th, hth⟩ : ∃ th, th = L'[j].h := ⟨_, rfl⟩
                obtain ⟨xx, hxx⟩ : ∃ xx, xx = L'[j].x := ⟨_, rfl⟩
                have HTH := Lib.hid hth.symm
                have HXX := Lib.hid hxx.symm
                have HTL := Lib.hid (show HL L' j = th from (HL_at hjl).trans hth.symm)
                have HTR := Lib.hid (show 0 ≤ th ∧ th ≤ 18446744073709551615 by rw [hth]; exact hkn.2.2)
                have HXL := Lib.hid (show xx.kids.length ≤ 9223372036854775807 by have := kids4 hkn.2.1; rw [hxx]; omega)
                rw [← hth] at p0 pd
                have HLKX := Lib.hid (show liveL A'.x th → lookI A2.it th = some xx by rw [hth, hxx, HI2.out]; exact HLK0.out)
                clear hth hxx p1 p2 p3 hkn HLK0
                by_cases hlv : liveL A'.x th
                · have HLV := Lib.hid (show liveL A2.x th by rw [HX2.out]; exact hlv)
                  have HLK := Lib.hid (HLKX.out hlv)
                  have HSTW := HST2
                  have HDW := Lib.hid (HDB2.out.congr (fun i _ => mixD_next (by rw [HTL.out]) i))
                  have HLQ := Lib.hid hlv
                  rw [dead_no hlv] at pd
                  clear hlv hset hcD
                  have HGT := Lib.hid (soloGet_yes w B A2 th xx wr HSTW.out.s (by omega) HLV.out HLK.out)
                  go_wp2_with fail
                  refine (HGT.out).mono ?_; rintro e w5 ⟨ay, cy, rfl, hks5, hs5, hk5⟩
                  have HS5 := Lib.hid (((HSTW.out.turn hk5 hs5)).alloc (.cells #[.int .i64 xx.h, .string xx.text, .slice ay xx.kids.length cy] 36))
                  have HD5 := Lib.hid ((HDW.out.turn HSTW.out.s.is hk5).alloc (.cells #[.int .i64 xx.h, .string xx.text, .slice ay xx.kids.length cy] 36))
                  have HK5 := Lib.hid (hks5.later ((Below.refl _ _).alloc (Nat.le_refl _) (.cells #[.int .i64 xx.h, .string xx.text, .slice ay xx.kids.length cy] 36)))
                  have hy5 := block_new w5 (.cells #[.int .i64 xx.h, .string xx.text, .slice ay xx.kids.length cy] 36)
                  have ham := HS5.out.a.at hjl
                  obtain ⟨bq, eb, hbw, ⟨q0, q1, q2, q3⟩, hkn⟩ := ham
                  cases eb
                  obtain ⟨bd', cs', eb, -, -, qd, -, -⟩ := HD5.out.at hjl
                  cases eb
                  rw [HTH.out] at q0
                  have HKN := Lib.hid hkn
                  rw [HXX.out] at q1 q2 q3
                  generalize HLA : L'[j].a = la at *
                  generalize HLC : L'[j].c = lc at *
                  have HKL := Lib.hid (show KsOK w.heap.size _ la xx.kids.length lc xx.kids by have := HKN.out.1; rw [HXX.out, HLA, HLC] at this; exact this)
                  clear HLA HLC hkn HKN
                  rw [mixD_end j (Nat.lt_succ_self j), HTL.out, dead_no HLQ.out] at qd
                  clear hks5 hs5 hk5 HGT HSTW HDW
                  have z0 := block_cell hy5 0
                  have z1 := block_cell hy5 1
                  have z2 := block_cell hy5 2
                  have hzz := block_lt hy5
                  simp only [List.getElem?_toArray, List.getElem?_cons_zero, List.getElem?_cons_succ] at z0 z1 z2
                  clear hy5
                  go_wp2_with fail
                  obtain ⟨Y, hY⟩ : ∃ Y, Y = w5.heap.size := ⟨_, rfl⟩
                  generalize hw6 : w5.alloc (.cells #[.int .i64 xx.h, .string xx.text, .slice ay xx.kids.length cy] 36) = w6 at *
                  clear hw6
                  rw [← hY] at z0 z1 z2 hzz
                  rw [← hY]
                  clear hY
                  have HCd := Lib.hid (fun (u : World) (hb : Below w6.heap.size w6 u) => (hb.cell (p := ⟨_, j, none⟩) (World.block_lt_of_cell? _ _ qd)).trans qd)
                  have HC0 := Lib.hid (fun (u : World) (hb : Below w6.heap.size w6 u) => (hb.cell (p := ⟨_, j * 4, none⟩) hbw).trans q0)
                  have HC1 := Lib.hid (fun (u : World) (hb : Below w6.heap.size w6 u) => (hb.cell (p := ⟨_, j * 4 + 1, none⟩) hbw).trans q1)
                  have HC2 := Lib.hid (fun (u : World) (hb : Below w6.heap.size w6 u) => (hb.cell (p := ⟨_, j * 4 + 2, none⟩) hbw).trans q2)
                  have HC3 := Lib.hid (fun (u : World) (hb : Below w6.heap.size w6 u) => (hb.cell (p := ⟨_, j * 4 + 3, none⟩) hbw).trans q3)
                  have HZ0 := Lib.hid (fun (u : World) (hb : Below w6.heap.size w6 u) => (hb.cell (p := ⟨Y, 0, none⟩) hzz).trans z0)
                  have HZ1 := Lib.hid (fun (u : World) (hb : Below w6.heap.size w6 u) => (hb.cell (p := ⟨Y, 1, none⟩) hzz).trans z1)
                  have HZ2 := Lib.hid (fun (u : World) (hb : Below w6.heap.size w6 u) => (hb.cell (p := ⟨Y, 2, none⟩) hzz).trans z2)
                  clear qd q0 q1 q2 q3 z0 z1 z2 hzz
                  refine wp_region_specs (by kernel_rfl) (by decide) (by kernel_rfl) ?_
                  simp only [fill, Act.put, List.setIfInBounds_toArray, List.set_cons_zero, List.set_cons_succ, Nat.zero_add, Nat.reduceAdd]
                  apply OpsOK.eq
                  · intro vs u hb hd
                    clear hd
                    go_wp2_with fail
                    exact ⟨rfl, _, rfl, Below.refl _ _, rfl⟩
                  apply OpsOK.eq
                  · intro vs u hb hd
                    clear hd
                    go_wp2_with fail
                    exact ⟨rfl, _, rfl, Below.refl _ _, rfl⟩
                  apply OpsOK.eq
                  · intro vs u hb hd
                    simp [Region.binds] at hd
                    obtain ⟨e0, e1⟩ := hd
                    simp only [e0, e1]
                    go_wp2_with fail
                    exact ⟨rfl, _, rfl, Below.refl _ _, rfl⟩
                  apply OpsOK.eq
                  · intro vs u hb hd
                    simp [Region.binds] at hd
                    have e2 := hd
                    clear hd
                    simp only [e2]
                    have rd := HCd.out u hb
                    go_wp2_with fail
                    exact ⟨rfl, _, rfl, Below.refl _ _, rfl⟩
                  apply OpsOK.eq
                  · intro vs u hb hd
                    simp [Region.binds] at hd
                    have e3 := hd
                    clear hd
                    simp only [e3]
                    go_wp2_with fail
                    exact ⟨rfl, _, rfl, Below.refl _ _, rfl⟩
                  apply OpsOK.eq
                  · intro vs u hb hd
                    simp [Region.binds] at hd
                    have e4 := hd
                    clear hd
                    simp only [e4]
                    go_wp2_with fail
                    exact ⟨rfl, _, rfl, Below.refl _ _, rfl⟩
                  apply OpsOK.eq
                  · intro vs u hb hd
                    simp [Region.binds] at hd
                    obtain ⟨e5, e4⟩ := hd
                    simp only [e5, e4]
                    go_wp2_with fail
                    exact ⟨rfl, _, rfl, Below.refl _ _, rfl⟩
                  apply OpsOK.eq
                  · intro vs u hb hd
                    simp [Region.binds] at hd
                    obtain ⟨e6, e4⟩ := hd
                    simp only [e6, e4]
                    go_wp2_with fail
                    exact ⟨rfl, _, rfl, Below.refl _ _, rfl⟩
                  apply OpsOK.eq
                  · intro vs u hb hd
                    simp [Region.binds] at hd
                    have e7 := hd
                    clear hd
                    simp only [e7]
                    go_wp2_with fail
                    exact ⟨rfl, _, rfl, Below.refl _ _, rfl⟩
                  apply OpsOK.eq
                  · intro vs u hb hd
                    simp [Region.binds] at hd
                    have e7 := hd
                    clear hd
                    simp only [e7]
                    go_wp2_with fail
                    exact ⟨rfl, _, rfl, Below.refl _ _, rfl⟩
                  apply OpsOK.eq
                  · intro vs u hb hd
                    simp [Region.binds] at hd
                    have e7 := hd
                    clear hd
                    simp only [e7]
                    go_wp2_with fail
                    exact ⟨rfl, _, rfl, Below.refl _ _, rfl⟩
                  apply OpsOK.eq
                  · intro vs u hb hd
                    simp [Region.binds] at hd
                    obtain ⟨e9, e10, e7⟩ := hd
                    simp only [e9, e10, e7]
                    go_wp2_with fail
                    exact ⟨rfl, _, rfl, Below.refl _ _, rfl⟩
                  apply OpsOK.eq
                  · intro vs u hb hd
                    simp [Region.binds] at hd
                    obtain ⟨e11, e7⟩ := hd
                    simp only [e11, e7]
                    go_wp2_with fail
                    exact ⟨rfl, _, rfl, Below.refl _ _, rfl⟩
                  apply OpsOK.eq
                  · intro vs u hb hd
                    simp [Region.binds] at hd
                    obtain ⟨e12, e7⟩ := hd
                    simp only [e12, e7]
                    go_wp2_with fail
                    exact ⟨rfl, _, rfl, Below.refl _ _, rfl⟩
                  apply OpsOK.eq
                  · intro vs u hb hd
                    simp [Region.binds] at hd
                    obtain ⟨e8, e13, e7⟩ := hd
                    simp only [e8, e13, e7]
                    go_wp2_with fail
                    exact ⟨rfl, _, rfl, Below.refl _ _, rfl⟩
                  apply OpsOK.eq
                  · intro vs u hb hd
                    simp [Region.binds] at hd
                    obtain ⟨e7, e14, e4⟩ := hd
                    simp only [e7, e14, e4]
                    go_wp2_with fail
                    exact ⟨rfl, _, rfl, Below.refl _ _, rfl⟩
                  apply OpsOK.eq
                  · intro vs u hb hd
                    simp [Region.binds] at hd
                    obtain ⟨e4, e15⟩ := hd
                    simp only [e4, e15]
                    go_wp2_with fail
                    exact ⟨rfl, _, rfl, Below.refl _ _, rfl⟩
                  apply OpsOK.eq
                  · intro vs u hb hd
                    simp [Region.binds] at hd
                    obtain ⟨e16, e14⟩ := hd
                    simp only [e16, e14]
                    go_wp2_with fail
                    exact ⟨rfl, _, rfl, Below.refl _ _, rfl⟩
                  apply OpsOK.eq
                  · intro vs u hb hd
                    simp [Region.binds] at hd
                    have e17 := hd
                    clear hd
                    simp only [e17]
                    go_wp2_with fail
                    exact ⟨rfl, _, rfl, Below.refl _ _, rfl⟩
                  apply OpsOK.eq
                  · intro vs u hb hd
                    simp [Region.binds] at hd
                    have e17 := hd
                    clear hd
                    simp only [e17]
                    go_wp2_with fail
                    exact ⟨rfl, _, rfl, Below.refl _ _, rfl⟩
                  apply OpsOK.eq
                  · intro vs u hb hd
                    simp [Region.binds] at hd
                    obtain ⟨e18, e19, e17⟩ := hd
                    simp only [e18, e19, e17]
                    go_wp2_with fail
                    exact ⟨rfl, _, rfl, Below.refl _ _, rfl⟩
                  apply OpsOK.eq
                  · intro vs u hb hd
                    simp [Region.binds] at hd
                    obtain ⟨e20, e17⟩ := hd
                    simp only [e20, e17]
                    have rd := HCd.out u hb
                    go_wp2_with fail
                    exact ⟨rfl, _, rfl, Below.refl _ _, rfl⟩
                  apply OpsOK.eq
                  · intro vs u hb hd
                    simp [Region.binds] at hd
                    obtain ⟨e21, e17⟩ := hd
                    simp only [e21, e17]
                    go_wp2_with fail
                    exact ⟨rfl, _, rfl, Below.refl _ _, rfl⟩
                  apply OpsOK.eq
                  · intro vs u hb hd
                    simp [Region.binds] at hd
                    obtain ⟨e22, e17⟩ := hd
                    simp only [e22, e17]
                    go_wp2_with fail
                    exact ⟨rfl, _, rfl, Below.refl _ _, rfl⟩
                  apply OpsOK.eq
                  · intro vs u hb hd
                    simp [Region.binds] at hd
                    have e23 := hd
                    clear hd
                    simp only [e23]
                    go_wp2_with fail
                    exact ⟨rfl, _, rfl, Below.refl _ _, rfl⟩
                  apply OpsOK.eq
                  · intro vs u hb hd
                    simp [Region.binds] at hd
                    obtain ⟨e24, e23⟩ := hd
                    simp only [e24, e23]
                    go_wp2_with fail
                    exact ⟨rfl, _, rfl, Below.refl _ _, rfl⟩
                  apply OpsOK.eq
                  · intro vs u hb hd
                    simp [Region.binds] at hd
                    obtain ⟨e25, e23⟩ := hd
                    simp only [e25, e23]
                    go_wp2_with fail
                    exact ⟨rfl, _, rfl, Below.refl _ _, rfl⟩
                  apply OpsOK.eq
                  · intro vs u hb hd
                    simp [Region.binds] at hd
                    have e26 := hd
                    clear hd
                    simp only [e26]
                    have r0 := HZ0.out u hb
                    have r1 := HZ1.out u hb
                    have r2 := HZ2.out u hb
                    go_wp2_with fail
                    exact ⟨rfl, _, rfl, Below.refl _ _, rfl⟩
                  apply OpsOK.eq
                  · intro vs u hb hd
                    simp [Region.binds] at hd
                    have e26 := hd
                    clear hd
                    simp only [e26]
                    go_wp2_with fail
                    exact ⟨rfl, _, rfl, Below.refl _ _, rfl⟩
                  apply OpsOK.eq
                  · intro vs u hb hd
                    simp [Region.binds] at hd
                    have e26 := hd
                    clear hd
                    simp only [e26]
                    go_wp2_with fail
                    exact ⟨rfl, _, rfl, Below.refl _ _, rfl⟩
                  apply OpsOK.eq
                  · intro vs u hb hd
                    simp [Region.binds] at hd
                    obtain ⟨e28, e29, e26⟩ := hd
                    simp only [e28, e29, e26]
                    go_wp2_with fail
                    exact ⟨rfl, _, rfl, Below.refl _ _, rfl⟩
                  apply OpsOK.eq
                  · intro vs u hb hd
                    simp [Region.binds] at hd
                    obtain ⟨e30, e26⟩ := hd
                    simp only [e30, e26]
                    go_wp2_with fail
                    exact ⟨rfl, _, rfl, Below.refl _ _, rfl⟩
                  apply OpsOK.eq
                  · intro vs u hb hd
                    simp [Region.binds] at hd
                    obtain ⟨e31, e26⟩ := hd
                    simp only [e31, e26]
                    have r0 := HC1.out u hb
                    have r1 := HC2.out u hb
                    have r2 := HC3.out u hb
                    go_wp2_with fail
                    exact ⟨rfl, _, rfl, Below.refl _ _, rfl⟩
                  apply OpsOK.eq
                  · intro vs u hb hd
                    simp [Region.binds] at hd
                    obtain ⟨e27, e32, e26⟩ := hd
                    simp only [e27, e32, e26]
                    go_wp2_with fail
                    refine (equalN_yes xx ay la 0 cy lc u (HK5.out.1.later hb) (HKL.out.1.later hb) HXL.out).mono ?_; rintro e w1 ⟨rfl, hbel⟩; go_wp2_with fail; exact ⟨rfl, _, rfl, hbel, rfl⟩
                  apply OpsOK.eq
                  · intro vs u hb hd
                    simp [Region.binds] at hd
                    obtain ⟨e33, e26⟩ := hd
                    simp only [e33, e26]
                    go_wp2_with fail
                    exact ⟨rfl, _, rfl, Below.refl _ _, rfl⟩
                  apply OpsOK.eq
                  · intro vs u hb hd
                    simp [Region.binds] at hd
                    obtain ⟨e26, e34, e23⟩ := hd
                    simp only [e26, e34, e23]
                    go_wp2_with fail
                    exact ⟨rfl, _, rfl, Below.refl _ _, rfl⟩
                  apply OpsOK.eq
                  · intro vs u hb hd
                    simp [Region.binds] at hd
                    obtain ⟨e35, e33, e23⟩ := hd
                    simp only [e35, e33, e23]
                    go_wp2_with fail
                    exact ⟨rfl, _, rfl, Below.refl _ _, rfl⟩
                  apply OpsOK.eq
                  · intro vs u hb hd
                    simp [Region.binds] at hd
                    have e36 := hd
                    clear hd
                    simp only [e36]
                    go_wp2_with fail
                    exact ⟨rfl, _, rfl, Below.refl _ _, rfl⟩
                  apply OpsOK.eq
                  · intro vs u hb hd
                    simp [Region.binds] at hd
                    have e36 := hd
                    clear hd
                    simp only [e36]
                    go_wp2_with fail
                    exact ⟨rfl, _, rfl, Below.refl _ _, rfl⟩
                  apply OpsOK.eq
                  · intro vs u hb hd
                    simp [Region.binds] at hd
                    have e36 := hd
                    clear hd
                    simp only [e36]
                    go_wp2_with fail
                    exact ⟨rfl, _, rfl, Below.refl _ _, rfl⟩
                  apply OpsOK.eq
                  · intro vs u hb hd
                    simp [Region.binds] at hd
                    obtain ⟨e38, e39, e36⟩ := hd
                    simp only [e38, e39, e36]
                    go_wp2_with fail
                    exact ⟨rfl, _, rfl, Below.refl _ _, rfl⟩
                  apply OpsOK.eq
                  · intro vs u hb hd
                    simp [Region.binds] at hd
                    obtain ⟨e40, e36⟩ := hd
                    simp only [e40, e36]
                    go_wp2_with fail
                    exact ⟨rfl, _, rfl, Below.refl _ _, rfl⟩
                  apply OpsOK.eq
                  · intro vs u hb hd
                    simp [Region.binds] at hd
                    obtain ⟨e41, e36⟩ := hd
                    simp only [e41, e36]
                    have r0 := HC0.out u hb
                    go_wp2_with fail
                    exact ⟨rfl, _, rfl, Below.refl _ _, rfl⟩
                  apply OpsOK.eq
                  · intro vs u hb hd
                    simp [Region.binds] at hd
                    obtain ⟨e37, e42, e36⟩ := hd
                    simp only [e37, e42, e36]
                    go_wp2_with fail
                    refine (liveA_yes B A2 th u HTR.out (HS5.out.s.is.below hb) HLV.out).mono ?_; rintro e w1 ⟨rfl, n1, rfl⟩; go_wp2_with fail; exact ⟨rfl, _, rfl, below_drewN (Below.refl _ _) n1, rfl⟩
                  apply OpsOK.eq
                  · intro vs u hb hd
                    simp [Region.binds] at hd
                    obtain ⟨e43, e36⟩ := hd
                    simp only [e43, e36]
                    go_wp2_with fail
                    exact ⟨rfl, _, rfl, Below.refl _ _, rfl⟩
                  apply OpsOK.eq
                  · intro vs u hb hd
                    simp [Region.binds] at hd
                    obtain ⟨e36, e44, e23⟩ := hd
                    simp only [e36, e44, e23]
                    go_wp2_with fail
                    exact ⟨rfl, _, rfl, Below.refl _ _, rfl⟩
                  apply OpsOK.eq
                  · intro vs u hb hd
                    simp [Region.binds] at hd
                    obtain ⟨e23, e45, e17⟩ := hd
                    simp only [e23, e45, e17]
                    go_wp2_with fail
                    exact ⟨rfl, _, rfl, Below.refl _ _, rfl⟩
                  apply OpsOK.eq
                  · intro vs u hb hd
                    simp [Region.binds] at hd
                    obtain ⟨e17, e46⟩ := hd
                    simp only [e17, e46]
                    go_wp2_with fail
                    exact ⟨rfl, _, rfl, Below.refl _ _, rfl⟩
                  refine OpsOK.done ?_
                  intro vs u hbu hS
                  have h47 := hS 47 (by decide)
                  simp at h47
                  simp only [h47]
                  clear h47
                  clear hS
                  have HBU := Lib.hid hbu
                  clear hbu
                  go_wp2_with fail
                  go_roundw
                  case rel => exact ⟨j + 1, A2, by omega, by go_num, HX2.out, HI2.out, by omega, HS5.out.below HBU.out, HD5.out.below HBU.out⟩
                  case measure => simp [intOf]; omega
                · have HLV := Lib.hid (show ¬ liveL A2.x th by rw [HX2.out]; exact hlv)
                  have HSTW := HST2
                  have HDW := Lib.hid (HDB2.out.congr (fun i _ => mixD_next (by rw [HTL.out]) i))
                  have HLQ := Lib.hid hlv
                  rw [dead_yes hlv] at pd
                  clear hlv hset hcD
                  have HGT := Lib.hid (soloGet_no w B A2 th wr HSTW.out.s (by omega) HLV.out)
                  go_wp2_with fail
                  refine (HGT.out).mono ?_; rintro e w5 ⟨ay, cy, rfl, hs5, hk5⟩
                  have HS5 := Lib.hid (((HSTW.out.turn hk5 hs5)).alloc (.cells #[.int .i64 0, .string ⟨#[]⟩, .slice ay 0 cy] 36))
                  have HD5 := Lib.hid ((HDW.out.turn HSTW.out.s.is hk5).alloc (.cells #[.int .i64 0, .string ⟨#[]⟩, .slice ay 0 cy] 36))
                  have ham := HS5.out.a.at hjl
                  obtain ⟨bq, eb, hbw, ⟨q0, q1, q2, q3⟩, -⟩ := ham
                  cases eb
                  obtain ⟨bd', cs', eb, -, -, qd, -, -⟩ := HD5.out.at hjl
                  cases eb
                  rw [HTH.out] at q0
                  rw [mixD_end j (Nat.lt_succ_self j), HTL.out, dead_yes HLQ.out] at qd
                  clear hs5 hk5 HGT HSTW HDW
                  go_wp2_with fail
                  generalize w5.alloc (.cells #[.int .i64 0, .string ⟨#[]⟩, .slice ay 0 cy] 36) = w6 at *
                  have HLI := Lib.hid (fun (n : Nat) => liveA_no B { A2 with st := A2.st + 1 } th (w6.drewN n) HTR.out (HS5.out.s.is.drewN n) HLV.out)
                  go_quiet ((go_at_call 33; exact Calls.quiet_of (HLI.out _)))
                  go_wp2_with fail
                  go_roundw
                  case rel => exact ⟨j + 1, { A2 with st := A2.st + 1 }, by omega, by go_num, HX2.out, HI2.out, (by show A2.st + 1 ≤ _; omega), HS5.out.drewN _, HD5.out⟩
                  case measure => simp [intOf]; omega
              · obtain rfl : j = L'.length := by omega
                have HFI := Lib.hid (HDB2.out.congr (fun i hi => (mixD_end i hi).trans (by rw [← HX2.out])))
                have hst3 : A2.st ≤ 50 * (k + 1) := by omega
                go_wp2_with fail
                go_roundw
                case rel => exact ⟨k + 1, A2, L', by omega, by omega, by go_num, HST2.out, HKA.out.same HX2.out HI2.out, HLN.out, hst3, HFI.out⟩
                case measure => simp [intOf]; omega
        · as_aux_lemma =>
            have hpf : PF A (playS A L d) 0 0 1 := by rw [hS]; exact ⟨rfl, rfl, rfl, rfl, rfl⟩
            have hka : KI (playS A L d) L := by rw [hS]; exact HKI.out.same rfl rfl
            have hxe : (playS A L d).x = A.x := by rw [hS]
            rw [hr] at hp
            unfold PlayR at hp
            simp only at hp
            obtain ⟨A', hA'⟩ : ∃ A', A' = playS A L d := ⟨_, rfl⟩
            rw [← hA'] at hp hpf hka hxe
            have HKP := Lib.hid hka
            have HXE := Lib.hid hxe
            clear hka hxe
            have HP := Lib.hid hp
            have HPF := Lib.hid hpf
            clear hp hpf hr hA' hS
            unfold noN at HP
            simp only [List.length_nil] at HP
            go_wp2_with fail
            refine (HP.out).mono ?_; rintro e w2 ⟨ao, c2, rfl, hks, hs2, hk2⟩
            have HS2 := Lib.hid ((HST.out.turn hk2 hs2).alloc (.cells #[.int .i64 0, .string ⟨#[]⟩, .slice ao 0 c2] 36))
            have HD2 := Lib.hid ((HDB.out.turn HST.out.s.is hk2).alloc (.cells #[.int .i64 0, .string ⟨#[]⟩, .slice ao 0 c2] 36))
            obtain ⟨L', hL'⟩ : ∃ L', L' = L := ⟨_, rfl⟩
            have HKA := Lib.hid (show KI A' L' by rw [hL']; exact HKP.out)
            have HLN := Lib.hid (show L'.length ≤ k + 1 by rw [hL']; omega)
            have HSZ := Lib.hid (show St w _ B A' u9 L' by rw [hL']; exact HS2.out)
            have HDZ := Lib.hid (show DB _ w.heap.size u10 L'.length (mixD A'.x A'.x L' 0) by rw [mixD_zero, hL', HXE.out]; exact HD2.out)
            clear hks hs2 hk2 HP HS2 HD2 HDB hL'
            go_wp2_with fail
            generalize w2.alloc (.cells #[.int .i64 0, .string ⟨#[]⟩, .slice ao 0 c2] 36) = wz at *
            obtain ⟨aA, cA, rfl, -⟩ := HSZ.out.a.form
            obtain ⟨aD, cD, rfl⟩ := HDZ.out.slice
            have hN40 : L'.length ≤ 40 := by have := HLN.out; omega
            have hst1 : A'.st ≤ 50 * k + 1 := by have := HPF.out.st; omega
            go_loopw [17] (fun s17 wr => ∃ (j : Nat) (A2 : AS), j ≤ L'.length ∧ s17 = .int .i64 j ∧ A2.x = A'.x ∧ A2.it = A'.it ∧ A2.st ≤ A'.st + j ∧ St w wr B A2 (.slice aA L'.length cA) L' ∧ DB wr w.heap.size (.slice aD L'.length cD) L'.length (mixD A'.x A'.x L' j)) (fun s17 _ => L'.length - (intOf s17).toNat)
            case atStart => exact ⟨0, A', Nat.zero_le _, rfl, rfl, rfl, Nat.le_refl _, HSZ.out, HDZ.out⟩
            case round =>
              obtain ⟨j, A2, hjn, rfl, hx2, hi2, hst2, hst, hdb⟩ := hrel
              have HST2 := Lib.hid hst
              have HDB2 := Lib.hid hdb
              have HX2 := Lib.hid hx2
              have HI2 := Lib.hid hi2
              clear hst hdb hx2 hi2
              by_cases hjl : j < L'.length
              · have hj1 : (j : Int) < (L'.length : Int) := by omega
                obtain ⟨bA, rfl, hbA, ⟨p0, p1, p2, p3⟩, hkn⟩ := HST2.out.a.at hjl
                obtain ⟨bD, csD, rfl, hBD, hcD, pd, pf, hset⟩ := HDB2.out.at hjl
                rw [mixD_here, HL_at hjl] at pd
                have HLK0 := Lib.hid (HKA.out.lk _ (List.getElem_mem hjl))
                obtain ⟨th, hth⟩ : ∃ th, th = L'[j].h := ⟨_, rfl⟩
                obtain ⟨xx, hxx⟩ : ∃ xx, xx = L'[j].x := ⟨_, rfl⟩
                have HTH := Lib.hid hth.symm
                have HXX := Lib.hid hxx.symm
                have HTL := Lib.hid (show HL L' j = th from (HL_at hjl).trans hth.symm)
                have HTR := Lib.hid (show 0 ≤ th ∧ th ≤ 18446744073709551615 by rw [hth]; exact hkn.2.2)
                have HXL := Lib.hid (show xx.kids.length ≤ 9223372036854775807 by have := kids4 hkn.2.1; rw [hxx]; omega)
                rw [← hth] at p0 pd
                have HLKX := Lib.hid (show liveL A'.x th → lookI A2.it th = some xx by rw [hth, hxx, HI2.out]; exact HLK0.out)
                clear hth hxx p1 p2 p3 hkn HLK0
                by_cases hlv : liveL A'.x th
                · have HLV := Lib.hid (show liveL A2.x th by rw [HX2.out]; exact hlv)
                  have HLK := Lib.hid (HLKX.out hlv)
                  have HSTW := HST2
                  have HDW := Lib.hid (HDB2.out.congr (fun i _ => mixD_next (by rw [HTL.out]) i))
                  have HLQ := Lib.hid hlv
                  rw [dead_no hlv] at pd
                  clear hlv hset hcD
                  have HGT := Lib.hid (soloGet_yes w B A2 th xx wr HSTW.out.s (by omega) HLV.out HLK.out)
                  go_wp2_with fail
                  refine (HGT.out).mono ?_; rintro e w5 ⟨ay, cy, rfl, hks5, hs5, hk5⟩
                  have HS5 := Lib.hid (((HSTW.out.turn hk5 hs5)).alloc (.cells #[.int .i64 xx.h, .string xx.text, .slice ay xx.kids.length cy] 36))
                  have HD5 := Lib.hid ((HDW.out.turn HSTW.out.s.is hk5).alloc (.cells #[.int .i64 xx.h, .string xx.text, .slice ay xx.kids.length cy] 36))
                  have HK5 := Lib.hid (hks5.later ((Below.refl _ _).alloc (Nat.le_refl _) (.cells #[.int .i64 xx.h, .string xx.text, .slice ay xx.kids.length cy] 36)))
                  have hy5 := block_new w5 (.cells #[.int .i64 xx.h, .string xx.text, .slice ay xx.kids.length cy] 36)
                  have ham := HS5.out.a.at hjl
                  obtain ⟨bq, eb, hbw, ⟨q0, q1, q2, q3⟩, hkn⟩ := ham
                  cases eb
                  obtain ⟨bd', cs', eb, -, -, qd, -, -⟩ := HD5.out.at hjl
                  cases eb
                  rw [HTH.out] at q0
                  have HKN := Lib.hid hkn
                  rw [HXX.out] at q1 q2 q3
                  generalize HLA : L'[j].a = la at *
                  generalize HLC : L'[j].c = lc at *
                  have HKL := Lib.hid (show KsOK w.heap.size _ la xx.kids.length lc xx.kids by have := HKN.out.1; rw [HXX.out, HLA, HLC] at this; exact this)
                  clear HLA HLC hkn HKN
                  rw [mixD_end j (Nat.lt_succ_self j), HTL.out, dead_no HLQ.out] at qd
                  clear hks5 hs5 hk5 HGT HSTW HDW
                  have z0 := block_cell hy5 0
                  have z1 := block_cell hy5 1
                  have z2 := block_cell hy5 2
                  have hzz := block_lt hy5
                  simp only [List.getElem?_toArray, List.getElem?_cons_zero, List.getElem?_cons_succ] at z0 z1 z2
                  clear hy5
                  go_wp2_with fail
                  obtain ⟨Y, hY⟩ : ∃ Y, Y = w5.heap.size := ⟨_, rfl⟩
                  generalize hw6 : w5.alloc (.cells #[.int .i64 xx.h, .string xx.text, .slice ay xx.kids.length cy] 36) = w6 at *
                  clear hw6
                  rw [← hY] at z0 z1 z2 hzz
                  rw [← hY]
                  clear hY
                  have HCd := Lib.hid (fun (u : World) (hb : Below w6.heap.size w6 u) => (hb.cell (p := ⟨_, j, none⟩) (World.block_lt_of_cell? _ _ qd)).trans qd)
                  have HC0 := Lib.hid (fun (u : World) (hb : Below w6.heap.size w6 u) => (hb.cell (p := ⟨_, j * 4, none⟩) hbw).trans q0)
                  have HC1 := Lib.hid (fun (u : World) (hb : Below w6.heap.size w6 u) => (hb.cell (p := ⟨_, j * 4 + 1, none⟩) hbw).trans q1)
                  have HC2 := Lib.hid (fun (u : World) (hb : Below w6.heap.size w6 u) => (hb.cell (p := ⟨_, j * 4 + 2, none⟩) hbw).trans q2)
                  have HC3 := Lib.hid (fun (u : World) (hb : Below w6.heap.size w6 u) => (hb.cell (p := ⟨_, j * 4 + 3, none⟩) hbw).trans q3)
                  have HZ0 := Lib.hid (fun (u : World) (hb : Below w6.heap.size w6 u) => (hb.cell (p := ⟨Y, 0, none⟩) hzz).trans z0)
                  have HZ1 := Lib.hid (fun (u : World) (hb : Below w6.heap.size w6 u) => (hb.cell (p := ⟨Y, 1, none⟩) hzz).trans z1)
                  have HZ2 := Lib.hid (fun (u : World) (hb : Below w6.heap.size w6 u) => (hb.cell (p := ⟨Y, 2, none⟩) hzz).trans z2)
                  clear qd q0 q1 q2 q3 z0 z1 z2 hzz
                  refine wp_region_specs (by kernel_rfl) (by decide) (by kernel_rfl) ?_
                  simp only [fill, Act.put, List.setIfInBounds_toArray, List.set_cons_zero, List.set_cons_succ, Nat.zero_add, Nat.reduceAdd]
                  apply OpsOK.eq
                  · intro vs u hb hd
                    clear hd
                    go_wp2_with fail
                    exact ⟨rfl, _, rfl, Below.refl _ _, rfl⟩
                  apply OpsOK.eq
                  · intro vs u hb hd
                    clear hd
                    go_wp2_with fail
                    exact ⟨rfl, _, rfl, Below.refl _ _, rfl⟩
                  apply OpsOK.eq
                  · intro vs u hb hd
                    simp [Region.binds] at hd
                    obtain ⟨e0, e1⟩ := hd
                    simp only [e0, e1]
                    go_wp2_with fail
                    exact ⟨rfl, _, rfl, Below.refl _ _, rfl⟩
                  apply OpsOK.eq
                  · intro vs u hb hd
                    simp [Region.binds] at hd
                    have e2 := hd
                    clear hd
                    simp only [e2]
                    have rd := HCd.out u hb
                    go_wp2_with fail
                    exact ⟨rfl, _, rfl, Below.refl _ _, rfl⟩
                  apply OpsOK.eq
                  · intro vs u hb hd
                    simp [Region.binds] at hd
                    have e3 := hd
                    clear hd
                    simp only [e3]
                    go_wp2_with fail
                    exact ⟨rfl, _, rfl, Below.refl _ _, rfl⟩
                  apply OpsOK.eq
                  · intro vs u hb hd
                    simp [Region.binds] at hd
                    have e4 := hd
                    clear hd
                    simp only [e4]
                    go_wp2_with fail
                    exact ⟨rfl, _, rfl, Below.refl _ _, rfl⟩
                  apply OpsOK.eq
                  · intro vs u hb hd
                    simp [Region.binds] at hd
                    obtain ⟨e5, e4⟩ := hd
                    simp only [e5, e4]
                    go_wp2_with fail
                    exact ⟨rfl, _, rfl, Below.refl _ _, rfl⟩
                  apply OpsOK.eq
                  · intro vs u hb hd
                    simp [Region.binds] at hd
                    obtain ⟨e6, e4⟩ := hd
                    simp only [e6, e4]
                    go_wp2_with fail
                    exact ⟨rfl, _, rfl, Below.refl _ _, rfl⟩
                  apply OpsOK.eq
                  · intro vs u hb hd
                    simp [Region.binds] at hd
                    have e7 := hd
                    clear hd
                    simp only [e7]
                    go_wp2_with fail
                    exact ⟨rfl, _, rfl, Below.refl _ _, rfl⟩
                  apply OpsOK.eq
                  · intro vs u hb hd
                    simp [Region.binds] at hd
                    have e7 := hd
                    clear hd
                    simp only [e7]
                    go_wp2_with fail
                    exact ⟨rfl, _, rfl, Below.refl _ _, rfl⟩
                  apply OpsOK.eq
                  · intro vs u hb hd
                    simp [Region.binds] at hd
                    have e7 := hd
                    clear hd
                    simp only [e7]
                    go_wp2_with fail
                    exact ⟨rfl, _, rfl, Below.refl _ _, rfl⟩
                  apply OpsOK.eq
                  · intro vs u hb hd
                    simp [Region.binds] at hd
                    obtain ⟨e9, e10, e7⟩ := hd
                    simp only [e9, e10, e7]
                    go_wp2_with fail
                    exact ⟨rfl, _, rfl, Below.refl _ _, rfl⟩
                  apply OpsOK.eq
                  · intro vs u hb hd
                    simp [Region.binds] at hd
                    obtain ⟨e11, e7⟩ := hd
                    simp only [e11, e7]
                    go_wp2_with fail
                    exact ⟨rfl, _, rfl, Below.refl _ _, rfl⟩
                  apply OpsOK.eq
                  · intro vs u hb hd
                    simp [Region.binds] at hd
                    obtain ⟨e12, e7⟩ := hd
                    simp only [e12, e7]
                    go_wp2_with fail
                    exact ⟨rfl, _, rfl, Below.refl _ _, rfl⟩
                  apply OpsOK.eq
                  · intro vs u hb hd
                    simp [Region.binds] at hd
                    obtain ⟨e8, e13, e7⟩ := hd
                    simp only [e8, e13, e7]
                    go_wp2_with fail
                    exact ⟨rfl, _, rfl, Below.refl _ _, rfl⟩
                  apply OpsOK.eq
                  · intro vs u hb hd
                    simp [Region.binds] at hd
                    obtain ⟨e7, e14, e4⟩ := hd
                    simp only [e7, e14, e4]
                    go_wp2_with fail
                    exact ⟨rfl, _, rfl, Below.refl _ _, rfl⟩
                  apply OpsOK.eq
                  · intro vs u hb hd
                    simp [Region.binds] at hd
                    obtain ⟨e4, e15⟩ := hd
                    simp only [e4, e15]
                    go_wp2_with fail
                    exact ⟨rfl, _, rfl, Below.refl _ _, rfl⟩
                  apply OpsOK.eq
                  · intro vs u hb hd
                    simp [Region.binds] at hd
                    obtain ⟨e16, e14⟩ := hd
                    simp only [e16, e14]
                    go_wp2_with fail
                    exact ⟨rfl, _, rfl, Below.refl _ _, rfl⟩
                  apply OpsOK.eq
                  · intro vs u hb hd
                    simp [Region.binds] at hd
                    have e17 := hd
                    clear hd
                    simp only [e17]
                    go_wp2_with fail
                    exact ⟨rfl, _, rfl, Below.refl _ _, rfl⟩
                  apply OpsOK.eq
                  · intro vs u hb hd
                    simp [Region.binds] at hd
                    have e17 := hd
                    clear hd
                    simp only [e17]
                    go_wp2_with fail
                    exact ⟨rfl, _, rfl, Below.refl _ _, rfl⟩
                  apply OpsOK.eq
                  · intro vs u hb hd
                    simp [Region.binds] at hd
                    obtain ⟨e18, e19, e17⟩ := hd
                    simp only [e18, e19, e17]
                    go_wp2_with fail
                    exact ⟨rfl, _, rfl, Below.refl _ _, rfl⟩
                  apply OpsOK.eq
                  · intro vs u hb hd
                    simp [Region.binds] at hd
                    obtain ⟨e20, e17⟩ := hd
                    simp only [e20, e17]
                    have rd := HCd.out u hb
                    go_wp2_with fail
                    exact ⟨rfl, _, rfl, Below.refl _ _, rfl⟩
                  apply OpsOK.eq
                  · intro vs u hb hd
                    simp [Region.binds] at hd
                    obtain ⟨e21, e17⟩ := hd
                    simp only [e21, e17]
                    go_wp2_with fail
                    exact ⟨rfl, _, rfl, Below.refl _ _, rfl⟩
                  apply OpsOK.eq
                  · intro vs u hb hd
                    simp [Region.binds] at hd
                    obtain ⟨e22, e17⟩ := hd
                    simp only [e22, e17]
                    go_wp2_with fail
                    exact ⟨rfl, _, rfl, Below.refl _ _, rfl⟩
                  apply OpsOK.eq
                  · intro vs u hb hd
                    simp [Region.binds] at hd
                    have e23 := hd
                    clear hd
                    simp only [e23]
                    go_wp2_with fail
                    exact ⟨rfl, _, rfl, Below.refl _ _, rfl⟩
                  apply OpsOK.eq
                  · intro vs u hb hd
                    simp [Region.binds] at hd
                    obtain ⟨e24, e23⟩ := hd
                    simp only [e24, e23]
                    go_wp2_with fail
                    exact ⟨rfl, _, rfl, Below.refl _ _, rfl⟩
                  apply OpsOK.eq
                  · intro vs u hb hd
                    simp [Region.binds] at hd
                    obtain ⟨e25, e23⟩ := hd
                    simp only [e25, e23]
                    go_wp2_with fail
                    exact ⟨rfl, _, rfl, Below.refl _ _, rfl⟩
                  apply OpsOK.eq
                  · intro vs u hb hd
                    simp [Region.binds] at hd
                    have e26 := hd
                    clear hd
                    simp only [e26]
                    have r0 := HZ0.out u hb
                    have r1 := HZ1.out u hb
                    have r2 := HZ2.out u hb
                    go_wp2_with fail
                    exact ⟨rfl, _, rfl, Below.refl _ _, rfl⟩
                  apply OpsOK.eq
                  · intro vs u hb hd
                    simp [Region.binds] at hd
                    have e26 := hd
                    clear hd
                    simp only [e26]
                    go_wp2_with fail
                    exact ⟨rfl, _, rfl, Below.refl _ _, rfl⟩
                  apply OpsOK.eq
                  · intro vs u hb hd
                    simp [Region.binds] at hd
                    have e26 := hd
                    clear hd
                    simp only [e26]
                    go_wp2_with fail
                    exact ⟨rfl, _, rfl, Below.refl _ _, rfl⟩
                  apply OpsOK.eq
                  · intro vs u hb hd
                    simp [Region.binds] at hd
                    obtain ⟨e28, e29, e26⟩ := hd
                    simp only [e28, e29, e26]
                    go_wp2_with fail
                    exact ⟨rfl, _, rfl, Below.refl _ _, rfl⟩
                  apply OpsOK.eq
                  · intro vs u hb hd
                    simp [Region.binds] at hd
                    obtain ⟨e30, e26⟩ := hd
                    simp only [e30, e26]
                    go_wp2_with fail
                    exact ⟨rfl, _, rfl, Below.refl _ _, rfl⟩
                  apply OpsOK.eq
                  · intro vs u hb hd
                    simp [Region.binds] at hd
                    obtain ⟨e31, e26⟩ := hd
                    simp only [e31, e26]
                    have r0 := HC1.out u hb
                    have r1 := HC2.out u hb
                    have r2 := HC3.out u hb
                    go_wp2_with fail
                    exact ⟨rfl, _, rfl, Below.refl _ _, rfl⟩
                  apply OpsOK.eq
                  · intro vs u hb hd
                    simp [Region.binds] at hd
                    obtain ⟨e27, e32, e26⟩ := hd
                    simp only [e27, e32, e26]
                    go_wp2_with fail
                    refine (equalN_yes xx ay la 0 cy lc u (HK5.out.1.later hb) (HKL.out.1.later hb) HXL.out).mono ?_; rintro e w1 ⟨rfl, hbel⟩; go_wp2_with fail; exact ⟨rfl, _, rfl, hbel, rfl⟩
                  apply OpsOK.eq
                  · intro vs u hb hd
                    simp [Region.binds] at hd
                    obtain ⟨e33, e26⟩ := hd
                    simp only [e33, e26]
                    go_wp2_with fail
                    exact ⟨rfl, _, rfl, Below.refl _ _, rfl⟩
                  apply OpsOK.eq
                  · intro vs u hb hd
                    simp [Region.binds] at hd
                    obtain ⟨e26, e34, e23⟩ := hd
                    simp only [e26, e34, e23]
                    go_wp2_with fail
                    exact ⟨rfl, _, rfl, Below.refl _ _, rfl⟩
                  apply OpsOK.eq
                  · intro vs u hb hd
                    simp [Region.binds] at hd
                    obtain ⟨e35, e33, e23⟩ := hd
                    simp only [e35, e33, e23]
                    go_wp2_with fail
                    exact ⟨rfl, _, rfl, Below.refl _ _, rfl⟩
                  apply OpsOK.eq
                  · intro vs u hb hd
                    simp [Region.binds] at hd
                    have e36 := hd
                    clear hd
                    simp only [e36]
                    go_wp2_with fail
                    exact ⟨rfl, _, rfl, Below.refl _ _, rfl⟩
                  apply OpsOK.eq
                  · intro vs u hb hd
                    simp [Region.binds] at hd
                    have e36 := hd
                    clear hd
                    simp only [e36]
                    go_wp2_with fail
                    exact ⟨rfl, _, rfl, Below.refl _ _, rfl⟩
                  apply OpsOK.eq
                  · intro vs u hb hd
                    simp [Region.binds] at hd
                    have e36 := hd
                    clear hd
                    simp only [e36]
                    go_wp2_with fail
                    exact ⟨rfl, _, rfl, Below.refl _ _, rfl⟩
                  apply OpsOK.eq
                  · intro vs u hb hd
                    simp [Region.binds] at hd
                    obtain ⟨e38, e39, e36⟩ := hd
                    simp only [e38, e39, e36]
                    go_wp2_with fail
                    exact ⟨rfl, _, rfl, Below.refl _ _, rfl⟩
                  apply OpsOK.eq
                  · intro vs u hb hd
                    simp [Region.binds] at hd
                    obtain ⟨e40, e36⟩ := hd
                    simp only [e40, e36]
                    go_wp2_with fail
                    exact ⟨rfl, _, rfl, Below.refl _ _, rfl⟩
                  apply OpsOK.eq
                  · intro vs u hb hd
                    simp [Region.binds] at hd
                    obtain ⟨e41, e36⟩ := hd
                    simp only [e41, e36]
                    have r0 := HC0.out u hb
                    go_wp2_with fail
                    exact ⟨rfl, _, rfl, Below.refl _ _, rfl⟩
                  apply OpsOK.eq
                  · intro vs u hb hd
                    simp [Region.binds] at hd
                    obtain ⟨e37, e42, e36⟩ := hd
                    simp only [e37, e42, e36]
                    go_wp2_with fail
                    refine (liveA_yes B A2 th u HTR.out (HS5.out.s.is.below hb) HLV.out).mono ?_; rintro e w1 ⟨rfl, n1, rfl⟩; go_wp2_with fail; exact ⟨rfl, _, rfl, below_drewN (Below.refl _ _) n1, rfl⟩
                  apply OpsOK.eq
                  · intro vs u hb hd
                    simp [Region.binds] at hd
                    obtain ⟨e43, e36⟩ := hd
                    simp only [e43, e36]
                    go_wp2_with fail
                    exact ⟨rfl, _, rfl, Below.refl _ _, rfl⟩
                  apply OpsOK.eq
                  · intro vs u hb hd
                    simp [Region.binds] at hd
                    obtain ⟨e36, e44, e23⟩ := hd
                    simp only [e36, e44, e23]
                    go_wp2_with fail
                    exact ⟨rfl, _, rfl, Below.refl _ _, rfl⟩
                  apply OpsOK.eq
                  · intro vs u hb hd
                    simp [Region.binds] at hd
                    obtain ⟨e23, e45, e17⟩ := hd
                    simp only [e23, e45, e17]
                    go_wp2_with fail
                    exact ⟨rfl, _, rfl, Below.refl _ _, rfl⟩
                  apply OpsOK.eq
                  · intro vs u hb hd
                    simp [Region.binds] at hd
                    obtain ⟨e17, e46⟩ := hd
                    simp only [e17, e46]
                    go_wp2_with fail
                    exact ⟨rfl, _, rfl, Below.refl _ _, rfl⟩
                  refine OpsOK.done ?_
                  intro vs u hbu hS
                  have h47 := hS 47 (by decide)
                  simp at h47
                  simp only [h47]
                  clear h47
                  clear hS
                  have HBU := Lib.hid hbu
                  clear hbu
                  go_wp2_with fail
                  go_roundw
                  case rel => exact ⟨j + 1, A2, by omega, by go_num, HX2.out, HI2.out, by omega, HS5.out.below HBU.out, HD5.out.below HBU.out⟩
                  case measure => simp [intOf]; omega
                · have HLV := Lib.hid (show ¬ liveL A2.x th by rw [HX2.out]; exact hlv)
                  have HSTW := HST2
                  have HDW := Lib.hid (HDB2.out.congr (fun i _ => mixD_next (by rw [HTL.out]) i))
                  have HLQ := Lib.hid hlv
                  rw [dead_yes hlv] at pd
                  clear hlv hset hcD
                  have HGT := Lib.hid (soloGet_no w B A2 th wr HSTW.out.s (by omega) HLV.out)
                  go_wp2_with fail
                  refine (HGT.out).mono ?_; rintro e w5 ⟨ay, cy, rfl, hs5, hk5⟩
                  have HS5 := Lib.hid (((HSTW.out.turn hk5 hs5)).alloc (.cells #[.int .i64 0, .string ⟨#[]⟩, .slice ay 0 cy] 36))
                  have HD5 := Lib.hid ((HDW.out.turn HSTW.out.s.is hk5).alloc (.cells #[.int .i64 0, .string ⟨#[]⟩, .slice ay 0 cy] 36))
                  have ham := HS5.out.a.at hjl
                  obtain ⟨bq, eb, hbw, ⟨q0, q1, q2, q3⟩, -⟩ := ham
                  cases eb
                  obtain ⟨bd', cs', eb, -, -, qd, -, -⟩ := HD5.out.at hjl
                  cases eb
                  rw [HTH.out] at q0
                  rw [mixD_end j (Nat.lt_succ_self j), HTL.out, dead_yes HLQ.out] at qd
                  clear hs5 hk5 HGT HSTW HDW
                  go_wp2_with fail
                  generalize w5.alloc (.cells #[.int .i64 0, .string ⟨#[]⟩, .slice ay 0 cy] 36) = w6 at *
                  have HLI := Lib.hid (fun (n : Nat) => liveA_no B { A2 with st := A2.st + 1 } th (w6.drewN n) HTR.out (HS5.out.s.is.drewN n) HLV.out)
                  go_quiet ((go_at_call 33; exact Calls.quiet_of (HLI.out _)))
                  go_wp2_with fail
                  go_roundw
                  case rel => exact ⟨j + 1, { A2 with st := A2.st + 1 }, by omega, by go_num, HX2.out, HI2.out, (by show A2.st + 1 ≤ _; omega), HS5.out.drewN _, HD5.out⟩
                  case measure => simp [intOf]; omega
              · obtain rfl : j = L'.length := by omega
                have HFI := Lib.hid (HDB2.out.congr (fun i hi => (mixD_end i hi).trans (by rw [← HX2.out])))
                have hst3 : A2.st ≤ 50 * (k + 1) := by omega
                go_wp2_with fail
                go_roundw
                case rel => exact ⟨k + 1, A2, L', by omega, by omega, by go_num, HST2.out, HKA.out.same HX2.out HI2.out, HLN.out, hst3, HFI.out⟩
                case measure => simp [intOf]; omega
      · have hk2 : ¬ ((k : Int) < 40) := by omega
        go_wp2_with fail
        refine (awake13_any _).mono ?_; rintro e w6 ⟨rfl, hb⟩
        have HB := Lib.hid (below_two HST.out.s.low hb)
        clear hb
        go_wp2_with fail
        go_ret
        exact ⟨rfl, HB.out⟩
    · obtain rfl : k = len := by omega
      go_wp2_with fail
      refine (awake13_any _).mono ?_; rintro e w6 ⟨rfl, hb⟩
      have HB := Lib.hid (below_two HST.out.s.low hb)
      clear hb
      go_wp2_with fail
      go_ret
      exact ⟨rfl, HB.out⟩
end Go.Proofs.Ytfgkbnnojogjpaa
