/- Text: the law Back: its walk (printed by gen/genw_s.py). -/
import Derived.Test.YtdfkbahlngijcaaDoorWm
import Derived.Test.YtdfkbahlngijcaaDoorWr
import Derived.Test.YtdfkbahlngijcaaDoorWt
import Derived.Test.YtdfkbahlngijcaaDoorVo
import Derived.Test.YtdfkbahlngijcaaDoorVp
namespace Go.Proofs.YtdfkbahlngijcaaDoor
open Go.RowKit
set_option linter.unusedVariables false

theorem own_le {w : World} {B s n cap : Nat} {ao : Option Addr} {t : TypeId} {xs : List Value} (h : w.ownsRow B t s (.slice ao n cap) n xs) : n ≤ cap := by
  obtain ⟨-, h⟩ := h
  rcases h with ⟨e, h0⟩ | ⟨g', cap', cur, e, -, -, hc, -⟩
  · omega
  · injection e with _ _ e3
    subst e3
    exact hc
/-- a call of Parse, what it gives being known -/
theorem prs_call {S : ByteArray} {x : Rd} {k : Nat} {er : Int} (h : prsR S.data.toList = (x, k, er)) {m n : Nat} (hm : x.ss.length = m) (hn : x.ps.length = n) (u : World) :
    Calls Tryd.prog 18 #[.string S] u fun e w' => Below u.heap.size u w' ∧ ∃ po pc qo qc ss1, IsPg w' po m ss1 ∧ IsR fI w' qo n x.ps ∧ ss1.map (·.l) = x.ss ∧ (∀ p ∈ ss1, p.l.length = p.n) ∧ n ≤ qc ∧ e = .returned (.tuple #[.agg (scrC x.c (.slice po m pc) (.slice qo n qc)), .int .i64 k, .int .i64 er]) := by
  refine (parse_any S u).mono ?_
  rintro e w' ⟨hb, B, vP, vQ, ss1, hV, hss, rfl⟩
  rw [h] at hV hss ⊢
  subst hn
  obtain ⟨po, pc, rfl, hp, -, -⟩ := IsR.owned fPg_len rfl hV.ownP
  obtain ⟨qo, qc, rfl, hq, -, -⟩ := IsR.owned (f := fI) (s := 1) (fun _ => rfl) rfl hV.ownQ
  have hl : ss1.length = m := by rw [← hm, ← hss, List.length_map]
  rw [hl] at hp ⊢
  refine ⟨hb, po, pc, qo, qc, ss1, ⟨hp, fun s hs => ?_⟩, hq, hss, fun p hp => (hV.rows p hp).2, own_le hV.ownQ, rfl⟩
  obtain ⟨ao, ac, e, h5, -, -⟩ := IsR.owned fO_len (hV.rows s hs).2 (hV.rows s hs).1
  injection e with e1 e2 e3
  rw [← e1] at h5
  exact h5
set_option maxRecDepth 100000 in
set_option maxHeartbeats 16000000 in
theorem back_F1 (ca cb cl cd ce cf cg : Int) (ct : ByteArray) (po : Option Addr) (pn pc : Nat) (qo : Option Addr) (qn qc : Nat) (ss : List Pg) (ps : List Int) (S : ByteArray) (w : World) (hp : IsPg w po pn ss) (hq : IsR fI w qo qn ps) (hqc : qn ≤ qc) (hov : ∀ s ∈ ss, ∀ x ∈ s.l, OvOk x) (htab : Tab w) (hsm : smallS ⟨ca, cb, cl, cd, ce, cf, cg, ct⟩ pn qn ss = false) :
    Calls Tryd.prog 9 #[.agg #[.int .i64 ca, .int .u64 cb, .int .i64 cl, .int .i64 cd, .int .i64 ce, .int .i64 cf, .int .i64 cg, .string ct, .slice po pn pc, .slice qo qn qc], .string S] w fun e w' => e = .returned (.bool true) ∧ Below w.heap.size w w' := by
  have HB0 := Lib.hid ((Below.refl w.heap.size w).alloc (Nat.le_refl _) (.cells #[.int .i64 ca, .int .u64 cb, .int .i64 cl, .int .i64 cd, .int .i64 ce, .int .i64 cf, .int .i64 cg, .string ct, .slice po pn pc, .slice qo qn qc] 42))
  have HNB := Lib.hid (block_new w (.cells #[.int .i64 ca, .int .u64 cb, .int .i64 cl, .int .i64 cd, .int .i64 ce, .int .i64 cf, .int .i64 cg, .string ct, .slice po pn pc, .slice qo qn qc] 42))
  have HP1 := Lib.hid (hp.later HB0.out)
  have HS := Lib.hid (small_any ⟨ca, cb, cl, cd, ce, cf, cg, ct⟩ po pn pc qo qn qc ss _ HP1.out)
  have HTB := Lib.hid htab
  obtain ⟨⟨⟨da, db, dl, dd, de, df, dg, dt⟩, xss, xps, xla⟩, kk, er, hpr⟩ : ∃ xx kk er, prsR S.data.toList = (xx, kk, er) := ⟨_, _, _, rfl⟩
  have HPR := Lib.hid hpr
  obtain ⟨m, hm⟩ : ∃ m, xss.length = m := ⟨_, rfl⟩
  obtain ⟨n, hn⟩ : ∃ n, xps.length = n := ⟨_, rfl⟩
  have HPS := Lib.hid (show ∀ u : World, Calls Tryd.prog 18 #[.string S] u fun e w' => Below u.heap.size u w' ∧ ∃ po1 pc1 qo1 qc1 ss1, IsPg w' po1 m ss1 ∧ IsR fI w' qo1 n xps ∧ ss1.map (·.l) = xss ∧ (∀ p ∈ ss1, p.l.length = p.n) ∧ n ≤ qc1 ∧ e = .returned (.tuple #[.agg #[.int .i64 da, .int .u64 db, .int .i64 dl, .int .i64 dd, .int .i64 de, .int .i64 df, .int .i64 dg, .string dt, .slice po1 m pc1, .slice qo1 n qc1], .int .i64 kk, .int .i64 er]) from fun u => prs_call hpr hm hn u)
  clear hpr hm hn
  rw [hsm] at HS
  clear hp hq htab hov hqc hsm
  have q0 := block_cell HNB.out 0
  have q1 := block_cell HNB.out 1
  have q2 := block_cell HNB.out 2
  have q3 := block_cell HNB.out 3
  have q4 := block_cell HNB.out 4
  have q5 := block_cell HNB.out 5
  have q6 := block_cell HNB.out 6
  have q7 := block_cell HNB.out 7
  have q8 := block_cell HNB.out 8
  have q9 := block_cell HNB.out 9
  simp at q0 q1 q2 q3 q4 q5 q6 q7 q8 q9
  go_enter Tryd.func9, Tryd.ntmps9
  go_wp2_with fail
  refine (HS.out).mono ?_; rintro e w2 ⟨rfl, hb2⟩
  have HB2 := Lib.hid (below_two HB0.out hb2)
  clear q0 q1 q2 q3 q4 q5 q6 q7 q8 q9 hb2 HS HP1 HNB HB0
  by_cases hS : 5000 < S.size
  · have hS1 : (5000 : Int) < (S.size : Int) := by omega
    have hd : decide ((5000 : Int) < (S.size : Int)) = true := decide_eq_true hS1
    clear hS
    go_wp2_with fail
    go_ret
    exact ⟨rfl, HB2.out⟩
  · have hd : decide ((5000 : Int) < (S.size : Int)) = false := decide_eq_false (by omega)
    clear hS
    by_cases h0 : er = 0
    · subst h0
      obtain ⟨hkk, -, -, -, -⟩ := prs_ok HPR.out
      subst hkk
      go_wp2_with fail
      refine (HPS.out w2).mono ?_; rintro e v1 ⟨hb1, po1, pc1, qo1, qc1, ss1, hp1, hq1, hss1, hln1, hqc1, rfl⟩
      have HC1 := Lib.hid (below_two HB2.out hb1)
      obtain ⟨-, hse, hfm, hop⟩ := fmt_prs HPR.out hln1 hss1
      have hsz := scE_zero hse
      have hcz := cfgZq_of hsz.cfg
      have hct : dt.size ≤ 65536 := (cfg_zero hsz.cfg).2.2
      have hm1 : ss1.length = m := hp1.1.1
      have hmn : ss1.length ≤ 8 := by have h5 := hsz.num; have h6 := hcz.clients; omega
      have hn1 : xps.length = n := hq1.1
      have hnn : xps.length ≤ 65535 := hsz.pn
      have HBX := Lib.hid ((Below.refl v1.heap.size v1).alloc (Nat.le_refl _) (.cells #[.int .i64 da, .int .u64 db, .int .i64 dl, .int .i64 dd, .int .i64 de, .int .i64 df, .int .i64 dg, .string dt, .slice po1 m pc1, .slice qo1 n qc1] 42))
      have HNX := Lib.hid (block_new v1 (.cells #[.int .i64 da, .int .u64 db, .int .i64 dl, .int .i64 dd, .int .i64 de, .int .i64 df, .int .i64 dg, .string dt, .slice po1 m pc1, .slice qo1 n qc1] 42))
      have HFM := Lib.hid (show ∀ u, Below v1.heap.size v1 u → Calls Tryd.prog 16 #[.agg #[.int .i64 da, .int .u64 db, .int .i64 dl, .int .i64 dd, .int .i64 de, .int .i64 df, .int .i64 dg, .string dt, .slice po1 m pc1, .slice qo1 n qc1]] u fun e w' => e = .returned (.tuple #[.string S, .int .i64 0]) ∧ Below u.heap.size u w' from fun u hu => by
        have h := formatT_any ⟨da, db, dl, dd, de, df, dg, dt⟩ po1 m pc1 qo1 n qc1 ss1 xps u (hp1.later hu) (hq1.later hu) (by show dt.size ≤ _; omega) (fun s hs x hx => by have := plain_text (hop s hs x hx).2; omega) (by omega) (by omega) (fun s hs x hx => (hop s hs x hx).1) (Tab.below HTB.out (below_two HC1.out hu)) hqc1
        rw [hfm, show (⟨S.data.toList.toArray⟩ : ByteArray) = S by rw [Array.toArray_toList]] at h
        exact h)
      have HCK := Lib.hid (show ∀ u, Below v1.heap.size v1 u → Calls Tryd.prog 25 #[.agg #[.int .i64 da, .int .u64 db, .int .i64 dl, .int .i64 dd, .int .i64 de, .int .i64 df, .int .i64 dg, .string dt, .slice po1 m pc1, .slice qo1 n qc1]] u fun e w' => e = .returned (.int .i64 0) ∧ Below u.heap.size u w' from fun u hu => by
        have h := check_sc ⟨da, db, dl, dd, de, df, dg, dt⟩ po1 m pc1 qo1 n qc1 ss1 xps u (hp1.later hu) (hq1.later hu) (by show dt.size ≤ _; omega) (fun s hs x hx => by have := plain_text (hop s hs x hx).2; omega) (by omega) (by omega)
        rw [hse] at h
        exact h)
      clear hb1 hp1 hq1 hss1 hln1 hqc1 hse hfm hop hsz hcz hct hm1 hmn hn1 hnn
      go_wp2_with fail
      refine (HFM.out _ HBX.out).mono ?_; rintro e v2 ⟨rfl, hb2⟩
      have HC2 := Lib.hid (below_two HBX.out hb2)
      have HX2 := Lib.hid (block_below hb2 HNX.out (by simp))
      clear hb2
      have r0 := block_cell HX2.out 0
      have r1 := block_cell HX2.out 1
      have r2 := block_cell HX2.out 2
      have r3 := block_cell HX2.out 3
      have r4 := block_cell HX2.out 4
      have r5 := block_cell HX2.out 5
      have r6 := block_cell HX2.out 6
      have r7 := block_cell HX2.out 7
      have r8 := block_cell HX2.out 8
      have r9 := block_cell HX2.out 9
      simp at r0 r1 r2 r3 r4 r5 r6 r7 r8 r9
      go_wp2_with fail
      refine (HCK.out _ HC2.out).mono ?_; rintro e v3 ⟨rfl, hb3⟩
      have HC3 := Lib.hid (below_two HC1.out (below_two HC2.out hb3))
      clear hb3
      go_wp2_with fail
      go_ret
      exact ⟨rfl, HC3.out⟩
    · have hb0 : (er == 0) = false := by rw [beq_eq_false_iff_ne]; exact h0
      have hb1 : (er != 0) = true := by rw [bne_iff_ne]; exact h0
      have hke := prs_err HPR.out h0
      clear h0
      by_cases h4 : er = 4
      · have hk := hke.2 h4
        subst h4
        have HKK := Lib.hid (decide_eq_true hk)
        clear hke hk
        go_wp2_with fail
        refine (HPS.out w2).mono ?_; rintro e v1 ⟨hb1, po1, pc1, qo1, qc1, ss1, hp1, hq1, hss1, hln1, hqc1, rfl⟩
        have HC1 := Lib.hid (below_two HB2.out hb1)
        have HC2 := Lib.hid (HC1.out.alloc HC1.out.size (.cells #[.int .i64 da, .int .u64 db, .int .i64 dl, .int .i64 dd, .int .i64 de, .int .i64 df, .int .i64 dg, .string dt, .slice po1 m pc1, .slice qo1 n qc1] 42))
        clear hb1 hp1 hq1 hss1 hln1 hqc1
        go_wp2_with fail
        go_ret
        refine ⟨?_, HC2.out⟩
        show Ending.returned (.bool (decide (0 < kk))) = _
        rw [HKK.out]
      · have hk : ¬ (0 < kk) := fun h => h4 (hke.1 h)
        have HKK := Lib.hid (decide_eq_false hk)
        have hb4 : (er == 4) = false := by rw [beq_eq_false_iff_ne]; exact h4
        clear hke hk h4
        go_wp2_with fail
        refine (HPS.out w2).mono ?_; rintro e v1 ⟨hb1, po1, pc1, qo1, qc1, ss1, hp1, hq1, hss1, hln1, hqc1, rfl⟩
        have HC1 := Lib.hid (below_two HB2.out hb1)
        have HC2 := Lib.hid (HC1.out.alloc HC1.out.size (.cells #[.int .i64 da, .int .u64 db, .int .i64 dl, .int .i64 dd, .int .i64 de, .int .i64 df, .int .i64 dg, .string dt, .slice po1 m pc1, .slice qo1 n qc1] 42))
        clear hb1 hp1 hq1 hss1 hln1 hqc1
        go_wp2_with fail
        go_ret
        refine ⟨?_, HC2.out⟩
        show Ending.returned (.bool (!decide (0 < kk))) = _
        rw [HKK.out]
        rfl
set_option maxRecDepth 100000 in
set_option maxHeartbeats 16000000 in
theorem back_F2 (ca cb cl cd ce cf cg : Int) (ct : ByteArray) (po : Option Addr) (pn pc : Nat) (qo : Option Addr) (qn qc : Nat) (ss : List Pg) (ps : List Int) (S : ByteArray) (w : World) (hp : IsPg w po pn ss) (hq : IsR fI w qo qn ps) (hqc : qn ≤ qc) (hov : ∀ s ∈ ss, ∀ x ∈ s.l, OvOk x) (htab : Tab w) (hsm : smallS ⟨ca, cb, cl, cd, ce, cf, cg, ct⟩ pn qn ss = true) (l1 : List UInt8) (hf1 : fmtR ⟨ca, cb, cl, cd, ce, cf, cg, ct⟩ ss ps = (l1, 0)) :
    Calls Tryd.prog 9 #[.agg #[.int .i64 ca, .int .u64 cb, .int .i64 cl, .int .i64 cd, .int .i64 ce, .int .i64 cf, .int .i64 cg, .string ct, .slice po pn pc, .slice qo qn qc], .string S] w fun e w' => e = .returned (.bool true) ∧ Below w.heap.size w w' := by
  have HB0 := Lib.hid ((Below.refl w.heap.size w).alloc (Nat.le_refl _) (.cells #[.int .i64 ca, .int .u64 cb, .int .i64 cl, .int .i64 cd, .int .i64 ce, .int .i64 cf, .int .i64 cg, .string ct, .slice po pn pc, .slice qo qn qc] 42))
  have HNB := Lib.hid (block_new w (.cells #[.int .i64 ca, .int .u64 cb, .int .i64 cl, .int .i64 cd, .int .i64 ce, .int .i64 cf, .int .i64 cg, .string ct, .slice po pn pc, .slice qo qn qc] 42))
  have HP1 := Lib.hid (hp.later HB0.out)
  have HS := Lib.hid (small_any ⟨ca, cb, cl, cd, ce, cf, cg, ct⟩ po pn pc qo qn qc ss _ HP1.out)
  have HTB := Lib.hid htab
  obtain ⟨⟨⟨da, db, dl, dd, de, df, dg, dt⟩, xss, xps, xla⟩, kk, er, hpr⟩ : ∃ xx kk er, prsR S.data.toList = (xx, kk, er) := ⟨_, _, _, rfl⟩
  have HPR := Lib.hid hpr
  obtain ⟨m, hm⟩ : ∃ m, xss.length = m := ⟨_, rfl⟩
  obtain ⟨n, hn⟩ : ∃ n, xps.length = n := ⟨_, rfl⟩
  have HPS := Lib.hid (show ∀ u : World, Calls Tryd.prog 18 #[.string S] u fun e w' => Below u.heap.size u w' ∧ ∃ po1 pc1 qo1 qc1 ss1, IsPg w' po1 m ss1 ∧ IsR fI w' qo1 n xps ∧ ss1.map (·.l) = xss ∧ (∀ p ∈ ss1, p.l.length = p.n) ∧ n ≤ qc1 ∧ e = .returned (.tuple #[.agg #[.int .i64 da, .int .u64 db, .int .i64 dl, .int .i64 dd, .int .i64 de, .int .i64 df, .int .i64 dg, .string dt, .slice po1 m pc1, .slice qo1 n qc1], .int .i64 kk, .int .i64 er]) from fun u => prs_call hpr hm hn u)
  clear hpr hm hn
  rw [hsm] at HS
  have hsz := small_of hsm
  have hlp : ∀ p ∈ ss, p.l.length = p.n := fun p h => (hp.2 p h).1
  obtain ⟨hl1, hse1, -, la, hpr1⟩ := prs_fmt hf1 hlp hov
  have HF := Lib.hid (show ∀ u, Below w.heap.size w u → Calls Tryd.prog 16 #[.agg #[.int .i64 ca, .int .u64 cb, .int .i64 cl, .int .i64 cd, .int .i64 ce, .int .i64 cf, .int .i64 cg, .string ct, .slice po pn pc, .slice qo qn qc]] u fun e w' => e = .returned (.tuple #[.string ⟨l1.toArray⟩, .int .i64 0]) ∧ Below u.heap.size u w' from fun u hu => by
    have h := formatT_any ⟨ca, cb, cl, cd, ce, cf, cg, ct⟩ po pn pc qo qn qc ss ps u (hp.later hu) (hq.later hu) (Nat.le_trans hsz.t (by decide)) (fun s hs x hx => by have := hsz.op s hs x hx; omega) (by have := hsz.pn; omega) (by have := hsz.qn; omega) hov (Tab.below htab hu) hqc
    rw [hf1] at h
    exact h)
  have hln : ss.length = pn := hp.1.1
  have hqn : ps.length = qn := hq.1
  have HPA := Lib.hid (show ∀ u : World, Calls Tryd.prog 18 #[.string ⟨l1.toArray⟩] u fun e w' => Below u.heap.size u w' ∧ ∃ po1 pc1 qo1 qc1 ss1, IsPg w' po1 pn ss1 ∧ IsR fI w' qo1 qn ps ∧ ss1.map (·.l) = ss.map (·.l) ∧ (∀ p ∈ ss1, p.l.length = p.n) ∧ qn ≤ qc1 ∧ e = .returned (.tuple #[.agg #[.int .i64 ca, .int .u64 cb, .int .i64 cl, .int .i64 cd, .int .i64 ce, .int .i64 cf, .int .i64 cg, .string ct, .slice po1 pn pc1, .slice qo1 qn qc1], .int .i64 0, .int .i64 0]) from fun u => prs_call (S := ⟨l1.toArray⟩) (x := ⟨⟨ca, cb, cl, cd, ce, cf, cg, ct⟩, ss.map (·.l), ps, la⟩) (k := 0) (er := 0) (by rw [show (⟨l1.toArray⟩ : ByteArray).data.toList = l1 from List.toList_toArray ..]; exact hpr1) (by show (ss.map (·.l)).length = pn; rw [List.length_map]; exact hln) hqn u)
  have HEQ := Lib.hid (fun (u : World) (hu : Below w.heap.size w u) (po1 : Option Addr) (pc1 : Nat) (qo1 : Option Addr) (qc1 : Nat) (ss1 : List Pg) (h1 : IsPg u po1 pn ss1) (h2 : IsR fI u qo1 qn ps) (h3 : ss1.map (·.l) = ss.map (·.l)) => eqScript_true ⟨ca, cb, cl, cd, ce, cf, cg, ct⟩ po po1 pn pc pc1 qo qo1 qn qc qc1 ss ss1 ps u (hp.later hu) h1 h3.symm (hq.later hu) h2 (by have := hsz.pn; omega) (fun s hs => by have h5 := hsz.prog s hs; have h6 := hlp s hs; omega) (by have := hsz.qn; omega))
  have HLL := Lib.hid hl1
  have hsl : (⟨l1.toArray⟩ : ByteArray).size = l1.length := by show l1.toArray.size = _; rw [List.size_toArray]
  have HSL := Lib.hid hsl
  clear hp hq htab hov hqc hsm hf1 hsz hlp hse1 hpr1 hln hqn hl1 hsl
  have q0 := block_cell HNB.out 0
  have q1 := block_cell HNB.out 1
  have q2 := block_cell HNB.out 2
  have q3 := block_cell HNB.out 3
  have q4 := block_cell HNB.out 4
  have q5 := block_cell HNB.out 5
  have q6 := block_cell HNB.out 6
  have q7 := block_cell HNB.out 7
  have q8 := block_cell HNB.out 8
  have q9 := block_cell HNB.out 9
  simp at q0 q1 q2 q3 q4 q5 q6 q7 q8 q9
  generalize (⟨l1.toArray⟩ : ByteArray) = L1 at *
  go_enter Tryd.func9, Tryd.ntmps9
  go_wp2_with fail
  refine (HS.out).mono ?_; rintro e w2 ⟨rfl, hb2⟩
  have HB2 := Lib.hid (below_two HB0.out hb2)
  have HO2 := Lib.hid (block_below hb2 HNB.out (by simp))
  clear q0 q1 q2 q3 q4 q5 q6 q7 q8 q9 hb2 HS HP1
  have q0 := block_cell HO2.out 0
  have q1 := block_cell HO2.out 1
  have q2 := block_cell HO2.out 2
  have q3 := block_cell HO2.out 3
  have q4 := block_cell HO2.out 4
  have q5 := block_cell HO2.out 5
  have q6 := block_cell HO2.out 6
  have q7 := block_cell HO2.out 7
  have q8 := block_cell HO2.out 8
  have q9 := block_cell HO2.out 9
  simp at q0 q1 q2 q3 q4 q5 q6 q7 q8 q9
  go_wp2_with fail
  refine (HF.out _ HB2.out).mono ?_; rintro e w3 ⟨rfl, hb3⟩
  have HB3 := Lib.hid (below_two HB2.out hb3)
  have HO3 := Lib.hid (block_below hb3 HO2.out (block_lt HO2.out))
  clear q0 q1 q2 q3 q4 q5 q6 q7 q8 q9 hb3
  go_wp2_with fail
  refine (HPA.out _).mono ?_; rintro e w4 ⟨hb4, po2, pc2, qo2, qc2, ss2, hp2, hq2, hss2, hln2, hqc2, rfl⟩
  have HB4 := Lib.hid (below_two HB3.out hb4)
  have HO4 := Lib.hid (block_below hb4 HO3.out (block_lt HO3.out))
  have HBX := Lib.hid ((Below.refl w4.heap.size w4).alloc (Nat.le_refl _) (.cells #[.int .i64 ca, .int .u64 cb, .int .i64 cl, .int .i64 cd, .int .i64 ce, .int .i64 cf, .int .i64 cg, .string ct, .slice po2 pn pc2, .slice qo2 qn qc2] 42))
  have HB5 := Lib.hid (below_two HB4.out HBX.out)
  have HO5 := Lib.hid (block_below HBX.out HO4.out (block_lt HO4.out))
  have HQ := Lib.hid (HEQ.out _ HB5.out po2 pc2 qo2 qc2 ss2 (hp2.later HBX.out) (hq2.later HBX.out) hss2)
  have hdl : decide ((65536 : Int) < (L1.size : Int)) = false := decide_eq_false (by have h5 := HLL.out; have h6 := HSL.out; omega)
  clear hb4 hp2 hq2 hss2 hln2 hqc2
  have hz4 := block_lt HO4.out
  have q0 := block_cell HO5.out 0
  have q1 := block_cell HO5.out 1
  have q2 := block_cell HO5.out 2
  have q3 := block_cell HO5.out 3
  have q4 := block_cell HO5.out 4
  have q5 := block_cell HO5.out 5
  have q6 := block_cell HO5.out 6
  have q7 := block_cell HO5.out 7
  have q8 := block_cell HO5.out 8
  have q9 := block_cell HO5.out 9
  simp at q0 q1 q2 q3 q4 q5 q6 q7 q8 q9
  go_wp2_with fail
  refine (HQ.out).mono ?_; rintro e w6 ⟨rfl, hb6⟩
  have HB6 := Lib.hid (below_two HB5.out hb6)
  clear q0 q1 q2 q3 q4 q5 q6 q7 q8 q9 hb6 HEQ HPA HF HO2 HO3 HO4 HO5
  by_cases hS : 5000 < S.size
  · have hS1 : (5000 : Int) < (S.size : Int) := by omega
    have hd : decide ((5000 : Int) < (S.size : Int)) = true := decide_eq_true hS1
    clear hS
    go_wp2_with fail
    go_ret
    exact ⟨rfl, HB6.out⟩
  · have hd : decide ((5000 : Int) < (S.size : Int)) = false := decide_eq_false (by omega)
    clear hS
    by_cases h0 : er = 0
    · subst h0
      obtain ⟨hkk, -, -, -, -⟩ := prs_ok HPR.out
      subst hkk
      go_wp2_with fail
      refine (HPS.out w6).mono ?_; rintro e v1 ⟨hb1, po1, pc1, qo1, qc1, ss1, hp1, hq1, hss1, hln1, hqc1, rfl⟩
      have HC1 := Lib.hid (below_two HB6.out hb1)
      obtain ⟨-, hse, hfm, hop⟩ := fmt_prs HPR.out hln1 hss1
      have hsz := scE_zero hse
      have hcz := cfgZq_of hsz.cfg
      have hct : dt.size ≤ 65536 := (cfg_zero hsz.cfg).2.2
      have hm1 : ss1.length = m := hp1.1.1
      have hmn : ss1.length ≤ 8 := by have h5 := hsz.num; have h6 := hcz.clients; omega
      have hn1 : xps.length = n := hq1.1
      have hnn : xps.length ≤ 65535 := hsz.pn
      have HBX := Lib.hid ((Below.refl v1.heap.size v1).alloc (Nat.le_refl _) (.cells #[.int .i64 da, .int .u64 db, .int .i64 dl, .int .i64 dd, .int .i64 de, .int .i64 df, .int .i64 dg, .string dt, .slice po1 m pc1, .slice qo1 n qc1] 42))
      have HNX := Lib.hid (block_new v1 (.cells #[.int .i64 da, .int .u64 db, .int .i64 dl, .int .i64 dd, .int .i64 de, .int .i64 df, .int .i64 dg, .string dt, .slice po1 m pc1, .slice qo1 n qc1] 42))
      have HFM := Lib.hid (show ∀ u, Below v1.heap.size v1 u → Calls Tryd.prog 16 #[.agg #[.int .i64 da, .int .u64 db, .int .i64 dl, .int .i64 dd, .int .i64 de, .int .i64 df, .int .i64 dg, .string dt, .slice po1 m pc1, .slice qo1 n qc1]] u fun e w' => e = .returned (.tuple #[.string S, .int .i64 0]) ∧ Below u.heap.size u w' from fun u hu => by
        have h := formatT_any ⟨da, db, dl, dd, de, df, dg, dt⟩ po1 m pc1 qo1 n qc1 ss1 xps u (hp1.later hu) (hq1.later hu) (by show dt.size ≤ _; omega) (fun s hs x hx => by have := plain_text (hop s hs x hx).2; omega) (by omega) (by omega) (fun s hs x hx => (hop s hs x hx).1) (Tab.below HTB.out (below_two HC1.out hu)) hqc1
        rw [hfm, show (⟨S.data.toList.toArray⟩ : ByteArray) = S by rw [Array.toArray_toList]] at h
        exact h)
      have HCK := Lib.hid (show ∀ u, Below v1.heap.size v1 u → Calls Tryd.prog 25 #[.agg #[.int .i64 da, .int .u64 db, .int .i64 dl, .int .i64 dd, .int .i64 de, .int .i64 df, .int .i64 dg, .string dt, .slice po1 m pc1, .slice qo1 n qc1]] u fun e w' => e = .returned (.int .i64 0) ∧ Below u.heap.size u w' from fun u hu => by
        have h := check_sc ⟨da, db, dl, dd, de, df, dg, dt⟩ po1 m pc1 qo1 n qc1 ss1 xps u (hp1.later hu) (hq1.later hu) (by show dt.size ≤ _; omega) (fun s hs x hx => by have := plain_text (hop s hs x hx).2; omega) (by omega) (by omega)
        rw [hse] at h
        exact h)
      clear hb1 hp1 hq1 hss1 hln1 hqc1 hse hfm hop hsz hcz hct hm1 hmn hn1 hnn
      go_wp2_with fail
      refine (HFM.out _ HBX.out).mono ?_; rintro e v2 ⟨rfl, hb2⟩
      have HC2 := Lib.hid (below_two HBX.out hb2)
      have HX2 := Lib.hid (block_below hb2 HNX.out (by simp))
      clear hb2
      have r0 := block_cell HX2.out 0
      have r1 := block_cell HX2.out 1
      have r2 := block_cell HX2.out 2
      have r3 := block_cell HX2.out 3
      have r4 := block_cell HX2.out 4
      have r5 := block_cell HX2.out 5
      have r6 := block_cell HX2.out 6
      have r7 := block_cell HX2.out 7
      have r8 := block_cell HX2.out 8
      have r9 := block_cell HX2.out 9
      simp at r0 r1 r2 r3 r4 r5 r6 r7 r8 r9
      go_wp2_with fail
      refine (HCK.out _ HC2.out).mono ?_; rintro e v3 ⟨rfl, hb3⟩
      have HC3 := Lib.hid (below_two HC1.out (below_two HC2.out hb3))
      clear hb3
      go_wp2_with fail
      go_ret
      exact ⟨rfl, HC3.out⟩
    · have hb0 : (er == 0) = false := by rw [beq_eq_false_iff_ne]; exact h0
      have hb1 : (er != 0) = true := by rw [bne_iff_ne]; exact h0
      have hke := prs_err HPR.out h0
      clear h0
      by_cases h4 : er = 4
      · have hk := hke.2 h4
        subst h4
        have HKK := Lib.hid (decide_eq_true hk)
        clear hke hk
        go_wp2_with fail
        refine (HPS.out w6).mono ?_; rintro e v1 ⟨hb1, po1, pc1, qo1, qc1, ss1, hp1, hq1, hss1, hln1, hqc1, rfl⟩
        have HC1 := Lib.hid (below_two HB6.out hb1)
        have HC2 := Lib.hid (HC1.out.alloc HC1.out.size (.cells #[.int .i64 da, .int .u64 db, .int .i64 dl, .int .i64 dd, .int .i64 de, .int .i64 df, .int .i64 dg, .string dt, .slice po1 m pc1, .slice qo1 n qc1] 42))
        clear hb1 hp1 hq1 hss1 hln1 hqc1
        go_wp2_with fail
        go_ret
        refine ⟨?_, HC2.out⟩
        show Ending.returned (.bool (decide (0 < kk))) = _
        rw [HKK.out]
      · have hk : ¬ (0 < kk) := fun h => h4 (hke.1 h)
        have HKK := Lib.hid (decide_eq_false hk)
        have hb4 : (er == 4) = false := by rw [beq_eq_false_iff_ne]; exact h4
        clear hke hk h4
        go_wp2_with fail
        refine (HPS.out w6).mono ?_; rintro e v1 ⟨hb1, po1, pc1, qo1, qc1, ss1, hp1, hq1, hss1, hln1, hqc1, rfl⟩
        have HC1 := Lib.hid (below_two HB6.out hb1)
        have HC2 := Lib.hid (HC1.out.alloc HC1.out.size (.cells #[.int .i64 da, .int .u64 db, .int .i64 dl, .int .i64 dd, .int .i64 de, .int .i64 df, .int .i64 dg, .string dt, .slice po1 m pc1, .slice qo1 n qc1] 42))
        clear hb1 hp1 hq1 hss1 hln1 hqc1
        go_wp2_with fail
        go_ret
        refine ⟨?_, HC2.out⟩
        show Ending.returned (.bool (!decide (0 < kk))) = _
        rw [HKK.out]
        rfl
set_option maxRecDepth 100000 in
set_option maxHeartbeats 16000000 in
theorem back_F3 (ca cb cl cd ce cf cg : Int) (ct : ByteArray) (po : Option Addr) (pn pc : Nat) (qo : Option Addr) (qn qc : Nat) (ss : List Pg) (ps : List Int) (S : ByteArray) (w : World) (hp : IsPg w po pn ss) (hq : IsR fI w qo qn ps) (hqc : qn ≤ qc) (hov : ∀ s ∈ ss, ∀ x ∈ s.l, OvOk x) (htab : Tab w) (hsm : smallS ⟨ca, cb, cl, cd, ce, cf, cg, ct⟩ pn qn ss = true) (l1 : List UInt8) (e1 : Int) (hf1 : fmtR ⟨ca, cb, cl, cd, ce, cf, cg, ct⟩ ss ps = (l1, e1)) (he1 : e1 ≠ 0) :
    Calls Tryd.prog 9 #[.agg #[.int .i64 ca, .int .u64 cb, .int .i64 cl, .int .i64 cd, .int .i64 ce, .int .i64 cf, .int .i64 cg, .string ct, .slice po pn pc, .slice qo qn qc], .string S] w fun e w' => e = .returned (.bool true) ∧ Below w.heap.size w w' := by
  have HB0 := Lib.hid ((Below.refl w.heap.size w).alloc (Nat.le_refl _) (.cells #[.int .i64 ca, .int .u64 cb, .int .i64 cl, .int .i64 cd, .int .i64 ce, .int .i64 cf, .int .i64 cg, .string ct, .slice po pn pc, .slice qo qn qc] 42))
  have HNB := Lib.hid (block_new w (.cells #[.int .i64 ca, .int .u64 cb, .int .i64 cl, .int .i64 cd, .int .i64 ce, .int .i64 cf, .int .i64 cg, .string ct, .slice po pn pc, .slice qo qn qc] 42))
  have HP1 := Lib.hid (hp.later HB0.out)
  have HS := Lib.hid (small_any ⟨ca, cb, cl, cd, ce, cf, cg, ct⟩ po pn pc qo qn qc ss _ HP1.out)
  have HTB := Lib.hid htab
  obtain ⟨⟨⟨da, db, dl, dd, de, df, dg, dt⟩, xss, xps, xla⟩, kk, er, hpr⟩ : ∃ xx kk er, prsR S.data.toList = (xx, kk, er) := ⟨_, _, _, rfl⟩
  have HPR := Lib.hid hpr
  obtain ⟨m, hm⟩ : ∃ m, xss.length = m := ⟨_, rfl⟩
  obtain ⟨n, hn⟩ : ∃ n, xps.length = n := ⟨_, rfl⟩
  have HPS := Lib.hid (show ∀ u : World, Calls Tryd.prog 18 #[.string S] u fun e w' => Below u.heap.size u w' ∧ ∃ po1 pc1 qo1 qc1 ss1, IsPg w' po1 m ss1 ∧ IsR fI w' qo1 n xps ∧ ss1.map (·.l) = xss ∧ (∀ p ∈ ss1, p.l.length = p.n) ∧ n ≤ qc1 ∧ e = .returned (.tuple #[.agg #[.int .i64 da, .int .u64 db, .int .i64 dl, .int .i64 dd, .int .i64 de, .int .i64 df, .int .i64 dg, .string dt, .slice po1 m pc1, .slice qo1 n qc1], .int .i64 kk, .int .i64 er]) from fun u => prs_call hpr hm hn u)
  clear hpr hm hn
  rw [hsm] at HS
  have hsz := small_of hsm
  have herr := fmt_err hf1 he1
  have HF := Lib.hid (show ∀ u, Below w.heap.size w u → Calls Tryd.prog 16 #[.agg #[.int .i64 ca, .int .u64 cb, .int .i64 cl, .int .i64 cd, .int .i64 ce, .int .i64 cf, .int .i64 cg, .string ct, .slice po pn pc, .slice qo qn qc]] u fun e w' => e = .returned (.tuple #[.string ⟨l1.toArray⟩, .int .i64 e1]) ∧ Below u.heap.size u w' from fun u hu => by
    have h := formatT_any ⟨ca, cb, cl, cd, ce, cf, cg, ct⟩ po pn pc qo qn qc ss ps u (hp.later hu) (hq.later hu) (Nat.le_trans hsz.t (by decide)) (fun s hs x hx => by have := hsz.op s hs x hx; omega) (by have := hsz.pn; omega) (by have := hsz.qn; omega) hov (Tab.below htab hu) hqc
    rw [hf1] at h
    exact h)
  have HCX := Lib.hid (fun (u : World) (hu : Below w.heap.size w u) => check_sc ⟨ca, cb, cl, cd, ce, cf, cg, ct⟩ po pn pc qo qn qc ss ps u (hp.later hu) (hq.later hu) (Nat.le_trans hsz.t (by decide)) (fun s hs x hx => by have := hsz.op s hs x hx; omega) (by have := hsz.pn; omega) (by have := hsz.qn; omega))
  obtain ⟨sc, hsc⟩ : ∃ sc, scE ⟨ca, cb, cl, cd, ce, cf, cg, ct⟩ ss ps = sc := ⟨_, rfl⟩
  rw [hsc] at herr
  simp only [hsc] at HCX
  have hb1 : (e1 == 0) = false := by rw [beq_eq_false_iff_ne]; exact he1
  have HE1 := Lib.hid he1
  have HER := Lib.hid herr
  clear hp hq htab hov hqc hsm hf1 hsz hsc he1 herr
  have q0 := block_cell HNB.out 0
  have q1 := block_cell HNB.out 1
  have q2 := block_cell HNB.out 2
  have q3 := block_cell HNB.out 3
  have q4 := block_cell HNB.out 4
  have q5 := block_cell HNB.out 5
  have q6 := block_cell HNB.out 6
  have q7 := block_cell HNB.out 7
  have q8 := block_cell HNB.out 8
  have q9 := block_cell HNB.out 9
  simp at q0 q1 q2 q3 q4 q5 q6 q7 q8 q9
  go_enter Tryd.func9, Tryd.ntmps9
  go_wp2_with fail
  refine (HS.out).mono ?_; rintro e w2 ⟨rfl, hb2⟩
  have HB2 := Lib.hid (below_two HB0.out hb2)
  have HO2 := Lib.hid (block_below hb2 HNB.out (by simp))
  clear q0 q1 q2 q3 q4 q5 q6 q7 q8 q9 hb2 HS HP1
  have q0 := block_cell HO2.out 0
  have q1 := block_cell HO2.out 1
  have q2 := block_cell HO2.out 2
  have q3 := block_cell HO2.out 3
  have q4 := block_cell HO2.out 4
  have q5 := block_cell HO2.out 5
  have q6 := block_cell HO2.out 6
  have q7 := block_cell HO2.out 7
  have q8 := block_cell HO2.out 8
  have q9 := block_cell HO2.out 9
  simp at q0 q1 q2 q3 q4 q5 q6 q7 q8 q9
  go_wp2_with fail
  refine (HF.out _ HB2.out).mono ?_; rintro e w3 ⟨rfl, hb3⟩
  have HB3 := Lib.hid (below_two HB2.out hb3)
  have HO3 := Lib.hid (block_below hb3 HO2.out (block_lt HO2.out))
  clear q0 q1 q2 q3 q4 q5 q6 q7 q8 q9 hb3
  have q0 := block_cell HO3.out 0
  have q1 := block_cell HO3.out 1
  have q2 := block_cell HO3.out 2
  have q3 := block_cell HO3.out 3
  have q4 := block_cell HO3.out 4
  have q5 := block_cell HO3.out 5
  have q6 := block_cell HO3.out 6
  have q7 := block_cell HO3.out 7
  have q8 := block_cell HO3.out 8
  have q9 := block_cell HO3.out 9
  simp at q0 q1 q2 q3 q4 q5 q6 q7 q8 q9
  go_wp2_with fail
  refine (HCX.out _ HB3.out).mono ?_; rintro e w4 ⟨rfl, hb4⟩
  have HB4 := Lib.hid (below_two HB3.out hb4)
  clear q0 q1 q2 q3 q4 q5 q6 q7 q8 q9 hb4 HCX HF HO2 HO3
  by_cases hsc : sc = 0
  · obtain rfl := HER.out hsc
    subst hsc
    clear hb1
    by_cases hS : 5000 < S.size
    · have hS1 : (5000 : Int) < (S.size : Int) := by omega
      have hd : decide ((5000 : Int) < (S.size : Int)) = true := decide_eq_true hS1
      clear hS
      go_wp2_with fail
      go_ret
      exact ⟨rfl, HB4.out⟩
    · have hd : decide ((5000 : Int) < (S.size : Int)) = false := decide_eq_false (by omega)
      clear hS
      by_cases h0 : er = 0
      · subst h0
        obtain ⟨hkk, -, -, -, -⟩ := prs_ok HPR.out
        subst hkk
        go_wp2_with fail
        refine (HPS.out w4).mono ?_; rintro e v1 ⟨hb1, po1, pc1, qo1, qc1, ss1, hp1, hq1, hss1, hln1, hqc1, rfl⟩
        have HC1 := Lib.hid (below_two HB4.out hb1)
        obtain ⟨-, hse, hfm, hop⟩ := fmt_prs HPR.out hln1 hss1
        have hsz := scE_zero hse
        have hcz := cfgZq_of hsz.cfg
        have hct : dt.size ≤ 65536 := (cfg_zero hsz.cfg).2.2
        have hm1 : ss1.length = m := hp1.1.1
        have hmn : ss1.length ≤ 8 := by have h5 := hsz.num; have h6 := hcz.clients; omega
        have hn1 : xps.length = n := hq1.1
        have hnn : xps.length ≤ 65535 := hsz.pn
        have HBX := Lib.hid ((Below.refl v1.heap.size v1).alloc (Nat.le_refl _) (.cells #[.int .i64 da, .int .u64 db, .int .i64 dl, .int .i64 dd, .int .i64 de, .int .i64 df, .int .i64 dg, .string dt, .slice po1 m pc1, .slice qo1 n qc1] 42))
        have HNX := Lib.hid (block_new v1 (.cells #[.int .i64 da, .int .u64 db, .int .i64 dl, .int .i64 dd, .int .i64 de, .int .i64 df, .int .i64 dg, .string dt, .slice po1 m pc1, .slice qo1 n qc1] 42))
        have HFM := Lib.hid (show ∀ u, Below v1.heap.size v1 u → Calls Tryd.prog 16 #[.agg #[.int .i64 da, .int .u64 db, .int .i64 dl, .int .i64 dd, .int .i64 de, .int .i64 df, .int .i64 dg, .string dt, .slice po1 m pc1, .slice qo1 n qc1]] u fun e w' => e = .returned (.tuple #[.string S, .int .i64 0]) ∧ Below u.heap.size u w' from fun u hu => by
          have h := formatT_any ⟨da, db, dl, dd, de, df, dg, dt⟩ po1 m pc1 qo1 n qc1 ss1 xps u (hp1.later hu) (hq1.later hu) (by show dt.size ≤ _; omega) (fun s hs x hx => by have := plain_text (hop s hs x hx).2; omega) (by omega) (by omega) (fun s hs x hx => (hop s hs x hx).1) (Tab.below HTB.out (below_two HC1.out hu)) hqc1
          rw [hfm, show (⟨S.data.toList.toArray⟩ : ByteArray) = S by rw [Array.toArray_toList]] at h
          exact h)
        have HCK := Lib.hid (show ∀ u, Below v1.heap.size v1 u → Calls Tryd.prog 25 #[.agg #[.int .i64 da, .int .u64 db, .int .i64 dl, .int .i64 dd, .int .i64 de, .int .i64 df, .int .i64 dg, .string dt, .slice po1 m pc1, .slice qo1 n qc1]] u fun e w' => e = .returned (.int .i64 0) ∧ Below u.heap.size u w' from fun u hu => by
          have h := check_sc ⟨da, db, dl, dd, de, df, dg, dt⟩ po1 m pc1 qo1 n qc1 ss1 xps u (hp1.later hu) (hq1.later hu) (by show dt.size ≤ _; omega) (fun s hs x hx => by have := plain_text (hop s hs x hx).2; omega) (by omega) (by omega)
          rw [hse] at h
          exact h)
        clear hb1 hp1 hq1 hss1 hln1 hqc1 hse hfm hop hsz hcz hct hm1 hmn hn1 hnn
        go_wp2_with fail
        refine (HFM.out _ HBX.out).mono ?_; rintro e v2 ⟨rfl, hb2⟩
        have HC2 := Lib.hid (below_two HBX.out hb2)
        have HX2 := Lib.hid (block_below hb2 HNX.out (by simp))
        clear hb2
        have r0 := block_cell HX2.out 0
        have r1 := block_cell HX2.out 1
        have r2 := block_cell HX2.out 2
        have r3 := block_cell HX2.out 3
        have r4 := block_cell HX2.out 4
        have r5 := block_cell HX2.out 5
        have r6 := block_cell HX2.out 6
        have r7 := block_cell HX2.out 7
        have r8 := block_cell HX2.out 8
        have r9 := block_cell HX2.out 9
        simp at r0 r1 r2 r3 r4 r5 r6 r7 r8 r9
        go_wp2_with fail
        refine (HCK.out _ HC2.out).mono ?_; rintro e v3 ⟨rfl, hb3⟩
        have HC3 := Lib.hid (below_two HC1.out (below_two HC2.out hb3))
        clear hb3
        go_wp2_with fail
        go_ret
        exact ⟨rfl, HC3.out⟩
      · have hb0 : (er == 0) = false := by rw [beq_eq_false_iff_ne]; exact h0
        have hb1 : (er != 0) = true := by rw [bne_iff_ne]; exact h0
        have hke := prs_err HPR.out h0
        clear h0
        by_cases h4 : er = 4
        · have hk := hke.2 h4
          subst h4
          have HKK := Lib.hid (decide_eq_true hk)
          clear hke hk
          go_wp2_with fail
          refine (HPS.out w4).mono ?_; rintro e v1 ⟨hb1, po1, pc1, qo1, qc1, ss1, hp1, hq1, hss1, hln1, hqc1, rfl⟩
          have HC1 := Lib.hid (below_two HB4.out hb1)
          have HC2 := Lib.hid (HC1.out.alloc HC1.out.size (.cells #[.int .i64 da, .int .u64 db, .int .i64 dl, .int .i64 dd, .int .i64 de, .int .i64 df, .int .i64 dg, .string dt, .slice po1 m pc1, .slice qo1 n qc1] 42))
          clear hb1 hp1 hq1 hss1 hln1 hqc1
          go_wp2_with fail
          go_ret
          refine ⟨?_, HC2.out⟩
          show Ending.returned (.bool (decide (0 < kk))) = _
          rw [HKK.out]
        · have hk : ¬ (0 < kk) := fun h => h4 (hke.1 h)
          have HKK := Lib.hid (decide_eq_false hk)
          have hb4 : (er == 4) = false := by rw [beq_eq_false_iff_ne]; exact h4
          clear hke hk h4
          go_wp2_with fail
          refine (HPS.out w4).mono ?_; rintro e v1 ⟨hb1, po1, pc1, qo1, qc1, ss1, hp1, hq1, hss1, hln1, hqc1, rfl⟩
          have HC1 := Lib.hid (below_two HB4.out hb1)
          have HC2 := Lib.hid (HC1.out.alloc HC1.out.size (.cells #[.int .i64 da, .int .u64 db, .int .i64 dl, .int .i64 dd, .int .i64 de, .int .i64 df, .int .i64 dg, .string dt, .slice po1 m pc1, .slice qo1 n qc1] 42))
          clear hb1 hp1 hq1 hss1 hln1 hqc1
          go_wp2_with fail
          go_ret
          refine ⟨?_, HC2.out⟩
          show Ending.returned (.bool (!decide (0 < kk))) = _
          rw [HKK.out]
          rfl
  · have hbs : (sc == 0) = false := by rw [beq_eq_false_iff_ne]; exact hsc
    clear hsc
    by_cases hS : 5000 < S.size
    · have hS1 : (5000 : Int) < (S.size : Int) := by omega
      have hd : decide ((5000 : Int) < (S.size : Int)) = true := decide_eq_true hS1
      clear hS
      go_wp2_with fail
      go_ret
      exact ⟨rfl, HB4.out⟩
    · have hd : decide ((5000 : Int) < (S.size : Int)) = false := decide_eq_false (by omega)
      clear hS
      by_cases h0 : er = 0
      · subst h0
        obtain ⟨hkk, -, -, -, -⟩ := prs_ok HPR.out
        subst hkk
        go_wp2_with fail
        refine (HPS.out w4).mono ?_; rintro e v1 ⟨hb1, po1, pc1, qo1, qc1, ss1, hp1, hq1, hss1, hln1, hqc1, rfl⟩
        have HC1 := Lib.hid (below_two HB4.out hb1)
        obtain ⟨-, hse, hfm, hop⟩ := fmt_prs HPR.out hln1 hss1
        have hsz := scE_zero hse
        have hcz := cfgZq_of hsz.cfg
        have hct : dt.size ≤ 65536 := (cfg_zero hsz.cfg).2.2
        have hm1 : ss1.length = m := hp1.1.1
        have hmn : ss1.length ≤ 8 := by have h5 := hsz.num; have h6 := hcz.clients; omega
        have hn1 : xps.length = n := hq1.1
        have hnn : xps.length ≤ 65535 := hsz.pn
        have HBX := Lib.hid ((Below.refl v1.heap.size v1).alloc (Nat.le_refl _) (.cells #[.int .i64 da, .int .u64 db, .int .i64 dl, .int .i64 dd, .int .i64 de, .int .i64 df, .int .i64 dg, .string dt, .slice po1 m pc1, .slice qo1 n qc1] 42))
        have HNX := Lib.hid (block_new v1 (.cells #[.int .i64 da, .int .u64 db, .int .i64 dl, .int .i64 dd, .int .i64 de, .int .i64 df, .int .i64 dg, .string dt, .slice po1 m pc1, .slice qo1 n qc1] 42))
        have HFM := Lib.hid (show ∀ u, Below v1.heap.size v1 u → Calls Tryd.prog 16 #[.agg #[.int .i64 da, .int .u64 db, .int .i64 dl, .int .i64 dd, .int .i64 de, .int .i64 df, .int .i64 dg, .string dt, .slice po1 m pc1, .slice qo1 n qc1]] u fun e w' => e = .returned (.tuple #[.string S, .int .i64 0]) ∧ Below u.heap.size u w' from fun u hu => by
          have h := formatT_any ⟨da, db, dl, dd, de, df, dg, dt⟩ po1 m pc1 qo1 n qc1 ss1 xps u (hp1.later hu) (hq1.later hu) (by show dt.size ≤ _; omega) (fun s hs x hx => by have := plain_text (hop s hs x hx).2; omega) (by omega) (by omega) (fun s hs x hx => (hop s hs x hx).1) (Tab.below HTB.out (below_two HC1.out hu)) hqc1
          rw [hfm, show (⟨S.data.toList.toArray⟩ : ByteArray) = S by rw [Array.toArray_toList]] at h
          exact h)
        have HCK := Lib.hid (show ∀ u, Below v1.heap.size v1 u → Calls Tryd.prog 25 #[.agg #[.int .i64 da, .int .u64 db, .int .i64 dl, .int .i64 dd, .int .i64 de, .int .i64 df, .int .i64 dg, .string dt, .slice po1 m pc1, .slice qo1 n qc1]] u fun e w' => e = .returned (.int .i64 0) ∧ Below u.heap.size u w' from fun u hu => by
          have h := check_sc ⟨da, db, dl, dd, de, df, dg, dt⟩ po1 m pc1 qo1 n qc1 ss1 xps u (hp1.later hu) (hq1.later hu) (by show dt.size ≤ _; omega) (fun s hs x hx => by have := plain_text (hop s hs x hx).2; omega) (by omega) (by omega)
          rw [hse] at h
          exact h)
        clear hb1 hp1 hq1 hss1 hln1 hqc1 hse hfm hop hsz hcz hct hm1 hmn hn1 hnn
        go_wp2_with fail
        refine (HFM.out _ HBX.out).mono ?_; rintro e v2 ⟨rfl, hb2⟩
        have HC2 := Lib.hid (below_two HBX.out hb2)
        have HX2 := Lib.hid (block_below hb2 HNX.out (by simp))
        clear hb2
        have r0 := block_cell HX2.out 0
        have r1 := block_cell HX2.out 1
        have r2 := block_cell HX2.out 2
        have r3 := block_cell HX2.out 3
        have r4 := block_cell HX2.out 4
        have r5 := block_cell HX2.out 5
        have r6 := block_cell HX2.out 6
        have r7 := block_cell HX2.out 7
        have r8 := block_cell HX2.out 8
        have r9 := block_cell HX2.out 9
        simp at r0 r1 r2 r3 r4 r5 r6 r7 r8 r9
        go_wp2_with fail
        refine (HCK.out _ HC2.out).mono ?_; rintro e v3 ⟨rfl, hb3⟩
        have HC3 := Lib.hid (below_two HC1.out (below_two HC2.out hb3))
        clear hb3
        go_wp2_with fail
        go_ret
        exact ⟨rfl, HC3.out⟩
      · have hb0 : (er == 0) = false := by rw [beq_eq_false_iff_ne]; exact h0
        have hb1 : (er != 0) = true := by rw [bne_iff_ne]; exact h0
        have hke := prs_err HPR.out h0
        clear h0
        by_cases h4 : er = 4
        · have hk := hke.2 h4
          subst h4
          have HKK := Lib.hid (decide_eq_true hk)
          clear hke hk
          go_wp2_with fail
          refine (HPS.out w4).mono ?_; rintro e v1 ⟨hb1, po1, pc1, qo1, qc1, ss1, hp1, hq1, hss1, hln1, hqc1, rfl⟩
          have HC1 := Lib.hid (below_two HB4.out hb1)
          have HC2 := Lib.hid (HC1.out.alloc HC1.out.size (.cells #[.int .i64 da, .int .u64 db, .int .i64 dl, .int .i64 dd, .int .i64 de, .int .i64 df, .int .i64 dg, .string dt, .slice po1 m pc1, .slice qo1 n qc1] 42))
          clear hb1 hp1 hq1 hss1 hln1 hqc1
          go_wp2_with fail
          go_ret
          refine ⟨?_, HC2.out⟩
          show Ending.returned (.bool (decide (0 < kk))) = _
          rw [HKK.out]
        · have hk : ¬ (0 < kk) := fun h => h4 (hke.1 h)
          have HKK := Lib.hid (decide_eq_false hk)
          have hb4 : (er == 4) = false := by rw [beq_eq_false_iff_ne]; exact h4
          clear hke hk h4
          go_wp2_with fail
          refine (HPS.out w4).mono ?_; rintro e v1 ⟨hb1, po1, pc1, qo1, qc1, ss1, hp1, hq1, hss1, hln1, hqc1, rfl⟩
          have HC1 := Lib.hid (below_two HB4.out hb1)
          have HC2 := Lib.hid (HC1.out.alloc HC1.out.size (.cells #[.int .i64 da, .int .u64 db, .int .i64 dl, .int .i64 dd, .int .i64 de, .int .i64 df, .int .i64 dg, .string dt, .slice po1 m pc1, .slice qo1 n qc1] 42))
          clear hb1 hp1 hq1 hss1 hln1 hqc1
          go_wp2_with fail
          go_ret
          refine ⟨?_, HC2.out⟩
          show Ending.returned (.bool (!decide (0 < kk))) = _
          rw [HKK.out]
          rfl
theorem back_law (c : Cf) (po : Option Addr) (pn pc : Nat) (qo : Option Addr) (qn qc : Nat) (ss : List Pg) (ps : List Int) (S : ByteArray) (w : World) (hp : IsPg w po pn ss) (hq : IsR fI w qo qn ps) (hqc : qn ≤ qc) (hov : ∀ s ∈ ss, ∀ x ∈ s.l, OvOk x) (htab : Tab w) :
    Calls Tryd.prog 9 #[.agg #[.int .i64 c.slots, .int .u64 c.gens, .int .i64 c.clients, .int .i64 c.readers, .int .i64 c.queue, .int .i64 c.batch, .int .i64 c.feed, .string c.t, .slice po pn pc, .slice qo qn qc], .string S] w fun e w' => e = .returned (.bool true) ∧ Below w.heap.size w w' := by
  obtain ⟨ca, cb, cl, cd, ce, cf, cg, ct⟩ := c
  rcases hsm : smallS ⟨ca, cb, cl, cd, ce, cf, cg, ct⟩ pn qn ss with _ | _
  · exact back_F1 ca cb cl cd ce cf cg ct po pn pc qo qn qc ss ps S w hp hq hqc hov htab hsm
  · obtain ⟨l1, e1, hf⟩ : ∃ l1 e1, fmtR ⟨ca, cb, cl, cd, ce, cf, cg, ct⟩ ss ps = (l1, e1) := ⟨_, _, rfl⟩
    by_cases h : e1 = 0
    · subst h
      exact back_F2 ca cb cl cd ce cf cg ct po pn pc qo qn qc ss ps S w hp hq hqc hov htab hsm l1 hf
    · exact back_F3 ca cb cl cd ce cf cg ct po pn pc qo qn qc ss ps S w hp hq hqc hov htab hsm l1 e1 hf h
end Go.Proofs.YtdfkbahlngijcaaDoor

