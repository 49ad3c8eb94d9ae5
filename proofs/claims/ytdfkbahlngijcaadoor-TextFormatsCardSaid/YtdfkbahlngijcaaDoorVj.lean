/- Text: Format of the reference: its walk, whole. -/
import Derived.Test.YtdfkbahlngijcaaDoorKe
namespace Go.Proofs.YtdfkbahlngijcaaDoor
open Go.RowKit
set_option linter.unusedVariables false

structure CfgZ (c : Cf) : Prop where
  slots : 1 ≤ c.slots ∧ c.slots ≤ 16384
  gens : 1 ≤ c.gens ∧ c.gens ≤ 4294967295
  clients : 0 ≤ c.clients ∧ c.clients ≤ 8
  readers : 0 ≤ c.readers ∧ c.readers ≤ 8
  queue : 1 ≤ c.queue ∧ c.queue ≤ 64
  batch : 1 ≤ c.batch ∧ c.batch ≤ 16
  feed : 1 ≤ c.feed ∧ c.feed ≤ 64
theorem cfgZ_of {c : Cf} (h : cfgE c = 0) : CfgZ c := by
  have hk : cfgOk c = true := by
    unfold cfgE at h
    by_cases hk : cfgOk c = true
    · exact hk
    · rw [if_neg hk] at h; exact absurd h (by decide)
  unfold cfgOk inR at hk
  simp only [Bool.and_eq_true, decide_eq_true_eq] at hk
  obtain ⟨h1, h2, h3, h4, h5, h6, h7⟩ := hk
  exact ⟨h1, h2, h3, h4, h5, h6, h7⟩
theorem fmt_cfg_end {S : ByteArray} {c : Cf} (h : S = ⟨(joinW ([[99, 111, 110, 102, 105, 103]] ++ (cfgV c).map numL)).toArray⟩) :
    S ++ (((⟨#[32]⟩ : ByteArray) ++ ⟨(quoteL c.t).toArray⟩) ++ ⟨#[10]⟩) = ⟨(lineL (cfgW c)).toArray⟩ := by
  subst h
  unfold lineL cfgW
  rw [joinW_snoc _ _ (by simp)]
  apply ByteArray.ext
  simp only [ByteArray.data_append]
  simp
theorem fmt_client {S : ByteArray} {A : List UInt8} (h : S = ⟨A.toArray⟩) (i : Nat) :
    S ++ (((⟨#[99, 108, 105, 101, 110, 116, 32]⟩ : ByteArray) ++ ⟨(numL i).toArray⟩) ++ ⟨#[10]⟩) = ⟨(A ++ lineL (clientW i)).toArray⟩ := by
  subst h
  have e : lineL (clientW i) = ([99, 108, 105, 101, 110, 116] ++ 32 :: numL i) ++ [10] := rfl
  rw [e]
  apply ByteArray.ext
  simp only [ByteArray.data_append]
  simp
theorem fmt_op {S : ByteArray} {A : List UInt8} (h : S = ⟨A.toArray⟩) (l : List UInt8) :
    S ++ ((⟨l.toArray⟩ : ByteArray) ++ ⟨#[10]⟩) = ⟨(A ++ lineL [l]).toArray⟩ := by
  subst h
  have e : lineL [l] = l ++ [10] := rfl
  rw [e]
  apply ByteArray.ext
  simp only [ByteArray.data_append]
  simp
theorem fmt_pick {S : ByteArray} {A : List UInt8} (h : S = ⟨A.toArray⟩) (q : Int) (n : Nat) :
    S ++ (((((⟨#[112, 105, 99, 107, 32]⟩ : ByteArray) ++ ⟨(numL q).toArray⟩) ++ ⟨#[32]⟩) ++ ⟨(numL n).toArray⟩) ++ ⟨#[10]⟩) = ⟨(A ++ lineL (pickW q n)).toArray⟩ := by
  subst h
  have e : lineL (pickW q n) = ([112, 105, 99, 107] ++ 32 :: (numL q ++ 32 :: numL n)) ++ [10] := rfl
  rw [e]
  apply ByteArray.ext
  simp only [ByteArray.data_append]
  simp
theorem cat_lt {a b f : List UInt8} (h : a ++ b = f) (hf : f.length ≤ 300000000) : a.length ≤ 300000000 := by
  have := congrArg List.length h
  rw [List.length_append] at this
  omega
theorem take_V {l : List Int} {i : Nat} (h : i < l.length) (A : List (List UInt8)) : A ++ (l.take (i + 1)).map numL = (A ++ (l.take i).map numL) ++ [numL l[i]] := by
  rw [List.take_succ_eq_append_getElem h, List.map_append, ← List.append_assoc]; rfl

set_option maxRecDepth 100000 in
set_option maxHeartbeats 16000000 in
theorem refFormat_any (c : Cf) (po : Option Addr) (pn pc : Nat) (qo : Option Addr) (qn qc : Nat) (ss : List Pg) (ps : List Int) (w : World) (hp : IsPg w po pn ss) (hq : IsR fI w qo qn ps)
    (hct : c.t.size ≤ 140737488355328) (hpt : ∀ s ∈ ss, ∀ x ∈ s.l, x.t.size ≤ 140737488355) (hpn : pn ≤ 140737488355328) (hqn : qn ≤ 140737488355328) (hov : ∀ s ∈ ss, ∀ x ∈ s.l, OvOk x) :
    Calls Tryd.prog 17 #[.agg #[.int .i64 c.slots, .int .u64 c.gens, .int .i64 c.clients, .int .i64 c.readers, .int .i64 c.queue, .int .i64 c.batch, .int .i64 c.feed, .string c.t, .slice po pn pc, .slice qo qn qc]] w fun e w' => e = .returned (.tuple #[.string ⟨(fmtR c ss ps).1.toArray⟩, .int .i64 (fmtR c ss ps).2]) ∧ Below w.heap.size w w' := by
  have HLN := Lib.hid (show ss.length = pn from hp.1.1)
  have HQN := Lib.hid (show ps.length = qn from hq.1)
  have HPT := Lib.hid hpt
  have HOV := Lib.hid hov
  have HFR := Lib.hid (show fmtR c ss ps = if scE c ss ps ≠ 0 then ([], scE c ss ps) else if 65536 < (fmtL c ss ps).length then ([], 5) else (fmtL c ss ps, 0) from rfl)
  have HB0 := Lib.hid ((Below.refl w.heap.size w).alloc (Nat.le_refl _) (.cells (scA c po pn pc qo qn qc) 42))
  have HNB := Lib.hid (block_new w (.cells (scA c po pn pc qo qn qc) 42))
  have HP := Lib.hid (hp.later HB0.out)
  have HQ := Lib.hid (hq.later HB0.out)
  have HCK := Lib.hid (refCheck_sc c po pn pc qo qn qc ss ps _ HP.out HQ.out hct hpt hpn hqn)
  have HSZ := Lib.hid (fun (h : scE c ss ps = 0) => scE_zero h)
  have HCZ := Lib.hid (fun (h : scE c ss ps = 0) => cfgZ_of (scE_zero h).cfg)
  have HCT := Lib.hid (fun (h : scE c ss ps = 0) => (cfg_zero (scE_zero h).cfg).2.2)
  have HFL := Lib.hid (fun (h : scE c ss ps = 0) => fmtL_len (scE_zero h) (fun s hs => (hp.2 s hs).1))
  have HFE := Lib.hid (show fmtL c ss ps = lineL (cfgW c) ++ (progT 0 ss ++ picksT ps) from rfl)
  have HV := Lib.hid (show cfgV c = [c.slots, c.gens, c.clients, c.readers, c.queue, c.batch, c.feed] from rfl)
  have HCE := Lib.hid (fun (S : ByteArray) h => fmt_cfg_end (S := S) (c := c) h)
  have HCL := Lib.hid (show cfgE c = 0 → (lineL (cfgW c)).length ≤ 1200000 from fun h => cfgW_len (cfg_zero h).2.2)
  have HX := Lib.hid (show ∀ (b k : Nat) (w : World), w.heap[b]? = some (.cells (scA c po pn pc qo qn qc) 42 (0, 0)) → w.heap[k]? = some (.cells (cC c) 38 (0, 0)) → BoxS c po pn pc qo qn qc b k w from fun b k w h1 h2 => ⟨h1, h2⟩)
  have HXB := Lib.hid (show ∀ (b k : Nat) (w : World), BoxS c po pn pc qo qn qc b k w → w.heap[b]? = some (.cells (scA c po pn pc qo qn qc) 42 (0, 0)) ∧ w.heap[k]? = some (.cells (cC c) 38 (0, 0)) from fun b k w h => ⟨h.box, h.cfg⟩)
  have HXL := Lib.hid (show ∀ (b k : Nat) (w w' : World), BoxS c po pn pc qo qn qc b k w → Below w.heap.size w w' → BoxS c po pn pc qo qn qc b k w' from fun b k w w' h hb => h.later hb)
  generalize BoxS c po pn pc qo qn qc = BX at *
  generalize hE : scE c ss ps = E at *
  generalize fmtR c ss ps = R at *
  generalize fmtL c ss ps = F at *
  generalize lineL (cfgW c) = L0 at *
  have HHE := Lib.hid hE
  have HCFE := Lib.hid (show E = 0 → cfgE c = 0 from fun h => (scE_zero (HHE.out.trans h)).cfg)
  generalize cfgE c = CE at *
  have HVL := Lib.hid (show (cfgV c).length = 7 from rfl)
  generalize hV : cfgV c = V at *
  obtain ⟨ca, cb, cl, cd, ce, cf, cg, t⟩ := c
  unfold scA at HNB HB0 HP HQ HCK HX HXB
  unfold cC at HX HXB
  simp only at HNB HB0 HP HQ HCK HCZ HCT HV HCE HX HXB ⊢
  clear hE hp hq hpt hov hV
  have q0 := block_cell HNB.out 0
  have q1 := block_cell HNB.out 1
  have q2 := block_cell HNB.out 2
  have q3 := block_cell HNB.out 3
  have q4 := block_cell HNB.out 4
  have q5 := block_cell HNB.out 5
  have q6 := block_cell HNB.out 6
  have q7 := block_cell HNB.out 7
  have q8 := block_cell HNB.out 8
  have q9 := block_cell HNB.out 9
  simp at q0 q1 q2 q3 q4 q5 q6 q7 q8 q9
  go_enter Tryd.func17, Tryd.ntmps17
  go_wp2_with fail
  refine (HCK.out).mono ?_; rintro e w2 ⟨rfl, hb2⟩
  have HO2 := Lib.hid (block_below hb2 HNB.out (by simp))
  have HB2 := Lib.hid (HB0.out.trans (hb2.mono (by have := HB0.out.size; exact this)))
  have HLT := Lib.hid (block_lt HO2.out)
  have HP2 := Lib.hid (HP.out.later hb2)
  have HQ2 := Lib.hid (HQ.out.later hb2)
  clear hb2 HCK HB0 HNB q0 q1 q2 q3 q4 q5 q6 q7 q8 q9 HP HQ
  by_cases h0 : E = 0
  · have HZ := HSZ.out h0
    have HCZ2 := HCZ.out h0
    have hct2 := HCT.out h0
    have hfl := HFL.out h0
    have hl0 := HCL.out (HCFE.out h0)
    obtain ⟨h1, h2, h3, h4, h5, h6, h7⟩ := HCZ2
    have HFR2 := Lib.hid (show R = if 65536 < F.length then ([], 5) else (F, 0) by rw [HFR.out, if_neg (fun k => k h0)])
    subst h0
    have q0 := block_cell HO2.out 0
    have q1 := block_cell HO2.out 1
    have q2 := block_cell HO2.out 2
    have q3 := block_cell HO2.out 3
    have q4 := block_cell HO2.out 4
    have q5 := block_cell HO2.out 5
    have q6 := block_cell HO2.out 6
    have q7 := block_cell HO2.out 7
    simp at q0 q1 q2 q3 q4 q5 q6 q7
    simp only at h1 h2 h3 h4 h5 h6 h7 hct2
    have hgw : IntKind.i64.wrap cb = cb := by rw [IntKind.wrap_i64]; omega
    have HIX := Lib.hid (fun (u : World) (i : Nat) (h : i < V.length) => idx7_any ca cb cl cd ce cf cg V HV.out u i h)
    have HRG := Lib.hid (And.intro h1 (And.intro h2 (And.intro h3 (And.intro h4 (And.intro h5 (And.intro h6 h7))))))
    clear h1 h2 h3 h4 h5 h6 h7 HSZ HCZ HCT HFL HCL HCFE HFR
    have hz2 := block_lt HO2.out
    have HW3 := Lib.hid (HX.out w.heap.size w2.heap.size (w2.alloc (.cells #[.int .i64 ca, .int .u64 cb, .int .i64 cl, .int .i64 cd, .int .i64 ce, .int .i64 cf, .int .i64 cg, .string t] 38)) (block_alloc HO2.out _) (block_new w2 _))
    have HB3 := Lib.hid (HB2.out.alloc HB2.out.size (.cells #[.int .i64 ca, .int .u64 cb, .int .i64 cl, .int .i64 cd, .int .i64 ce, .int .i64 cf, .int .i64 cg, .string t] 38))
    have HP3 := Lib.hid (HP2.out.later ((Below.refl _ w2).alloc (Nat.le_refl _) (.cells #[.int .i64 ca, .int .u64 cb, .int .i64 cl, .int .i64 cd, .int .i64 ce, .int .i64 cf, .int .i64 cg, .string t] 38)))
    have HQ3 := Lib.hid (HQ2.out.later ((Below.refl _ w2).alloc (Nat.le_refl _) (.cells #[.int .i64 ca, .int .u64 cb, .int .i64 cl, .int .i64 cd, .int .i64 ce, .int .i64 cf, .int .i64 cg, .string t] 38)))
    have n0 := block_cell (block_new w2 (.cells #[.int .i64 ca, .int .u64 cb, .int .i64 cl, .int .i64 cd, .int .i64 ce, .int .i64 cf, .int .i64 cg, .string t] 38)) 0
    have n1 := block_cell (block_new w2 (.cells #[.int .i64 ca, .int .u64 cb, .int .i64 cl, .int .i64 cd, .int .i64 ce, .int .i64 cf, .int .i64 cg, .string t] 38)) 1
    have n2 := block_cell (block_new w2 (.cells #[.int .i64 ca, .int .u64 cb, .int .i64 cl, .int .i64 cd, .int .i64 ce, .int .i64 cf, .int .i64 cg, .string t] 38)) 2
    have n3 := block_cell (block_new w2 (.cells #[.int .i64 ca, .int .u64 cb, .int .i64 cl, .int .i64 cd, .int .i64 ce, .int .i64 cf, .int .i64 cg, .string t] 38)) 3
    have n4 := block_cell (block_new w2 (.cells #[.int .i64 ca, .int .u64 cb, .int .i64 cl, .int .i64 cd, .int .i64 ce, .int .i64 cf, .int .i64 cg, .string t] 38)) 4
    have n5 := block_cell (block_new w2 (.cells #[.int .i64 ca, .int .u64 cb, .int .i64 cl, .int .i64 cd, .int .i64 ce, .int .i64 cf, .int .i64 cg, .string t] 38)) 5
    have n6 := block_cell (block_new w2 (.cells #[.int .i64 ca, .int .u64 cb, .int .i64 cl, .int .i64 cd, .int .i64 ce, .int .i64 cf, .int .i64 cg, .string t] 38)) 6
    simp at n0 n1 n2 n3 n4 n5 n6
    go_wp2_with fail
    clear q0 q1 q2 q3 q4 q5 q6 q7 n0 n1 n2 n3 n4 n5 n6 hgw
    generalize w2.alloc (.cells #[.int .i64 ca, .int .u64 cb, .int .i64 cl, .int .i64 cd, .int .i64 ce, .int .i64 cf, .int .i64 cg, .string t] 38) = w3 at *
    generalize hk3 : w2.heap.size = kz at *
    clear hk3 HO2 HB2 HP2 HQ2 HLT
    go_loopw [6, 46] (fun s6 s46 wr => ∃ (i : Nat) (S : ByteArray), i ≤ 7 ∧ s46 = .int .i64 i ∧ s6 = .string S ∧ S = ⟨(joinW ([[99, 111, 110, 102, 105, 103]] ++ (V.take i).map numL)).toArray⟩ ∧ S.size ≤ 6 + 11 * i ∧ Below w3.heap.size w3 wr) (fun _ s46 _ => 7 - (intOf s46).toNat)
    case atStart => exact ⟨0, _, by omega, rfl, rfl, rfl, by decide, Below.refl _ _⟩
    case round =>
      obtain ⟨i, S, hi, rfl, rfl, hS, hSL, hbr⟩ := hrel
      have HS := Lib.hid hS
      have HBR := Lib.hid hbr
      clear hS hbr
      by_cases hlt : i < 7
      · as_aux_lemma =>
          have hlt1 : (i : Int) < 7 := by omega
          have hi0 : (0 : Int) ≤ (i : Int) := by omega
          have hvl : i < V.length := by rw [HVL.out]; exact hlt
          have hix := HIX.out wr i hvl
          have HTV := Lib.hid (take_V hvl [[99, 111, 110, 102, 105, 103]])
          generalize V[i] = x at *
          have HNX := Lib.hid (refNumber_any x wr)
          have hlx := numL_len x
          have hcn1 : ¬ (9223372036854775807 < (⟨#[32]⟩ : ByteArray).size + (⟨(numL x).toArray⟩ : ByteArray).size) := by
            show ¬ (9223372036854775807 < 1 + (numL x).toArray.size)
            rw [List.size_toArray]
            omega
          have hcn2 : ¬ (9223372036854775807 < S.size + (1 + (numL x).length)) := by omega
          have HS3 := Lib.hid (word_snoc (B := numL x) HS.out (by simp))
          have HSL := Lib.hid (show (S ++ ((⟨#[32]⟩ : ByteArray) ++ ⟨(numL x).toArray⟩)).size ≤ 6 + 11 * (i + 1) by
            rw [ByteArray.size_append, ByteArray.size_append, lbytes]
            show S.size + (1 + (numL x).length) ≤ _
            omega)
          clear hvl
          go_wp2_with fail
          refine (HNX.out).mono ?_; rintro e3 w4 ⟨rfl, hb3⟩
          have HB4 := Lib.hid (below_two HBR.out hb3)
          clear hb3 HNX
          go_wp2_with fail
          go_roundw
          case rel => exact ⟨i + 1, _, by omega, by go_num, rfl, by rw [HS3.out, HTV.out], HSL.out, HB4.out⟩
          case measure => (simp [intOf] <;> omega)
      · obtain rfl : i = 7 := by omega
        have hlt1 : ¬ (((7 : Nat) : Int) < 7) := by omega
        have HSV := Lib.hid (HCE.out S (by rw [HS.out, List.take_of_length_le (by rw [HVL.out]; omega)]))
        have HQS := Lib.hid (refString_any t wr (by omega))
        have HXR := Lib.hid (HXL.out _ _ _ _ HW3.out HBR.out)
        have n7 := block_cell (HXB.out _ _ _ HXR.out).2 7
        simp at n7
        have HQL := Lib.hid (quote_len t)
        have hcn1 : ¬ (9223372036854775807 < (⟨#[32]⟩ : ByteArray).size + (⟨(quoteL t).toArray⟩ : ByteArray).size) := by
          show ¬ (9223372036854775807 < 1 + (quoteL t).toArray.size)
          rw [List.size_toArray, HQL.out]
          omega
        have hcn2 : ¬ (9223372036854775807 < 1 + (quoteL t).length + (⟨#[10]⟩ : ByteArray).size) := by
          show ¬ (9223372036854775807 < 1 + (quoteL t).length + 1)
          rw [HQL.out]
          omega
        have hcn3 : ¬ (9223372036854775807 < S.size + (1 + (quoteL t).length + 1)) := by
          rw [HQL.out]
          omega
        clear hlt HS
        go_wp2_with fail
        refine (HQS.out).mono ?_; rintro e3 w4 ⟨rfl, hb3⟩
        have HB4 := Lib.hid (below_two HBR.out hb3)
        clear hb3 HQS n7 HXR HBR
        go_wp2_with fail
        clear hcn1 hcn2 hcn3
        obtain ⟨hpc0, hpc8⟩ := HRG.out.2.2.1
        have hp8 : pn ≤ 8 := by have := HZ.num; simp only [HLN.out] at this; omega
        have hpq := HZ.pn
        rw [HQN.out] at hpq
        have HPK := Lib.hid HZ.pk
        have HPG := Lib.hid (progE_zero HZ.prog)
        clear HZ HRG HCE HIX HV
        go_loopw [6, 11] (fun s6 s11 wr => ∃ (i : Nat) (S : ByteArray) (A : List UInt8), i ≤ pn ∧ s11 = .int .i64 i ∧ s6 = .string S ∧ S = ⟨A.toArray⟩ ∧ A ++ (progT i (ss.drop i) ++ picksT ps) = F ∧ Below w3.heap.size w3 wr) (fun _ s11 _ => pn - (intOf s11).toNat)
        case atStart => exact ⟨0, _, _, Nat.zero_le _, rfl, rfl, HSV.out, HFE.out.symm, HB4.out⟩
        case round =>
          clear HSV HB4
          obtain ⟨i, S, A, hi, rfl, rfl, hS, hA, hbr⟩ := hrel
          have HS := Lib.hid hS
          have HA := Lib.hid hA
          have HBR := Lib.hid hbr
          have HXR := Lib.hid (HXL.out _ _ _ _ HW3.out hbr)
          have hSL : S.size ≤ 300000000 := by rw [hS, lbytes]; exact cat_lt hA hfl
          clear hS hA
          by_cases hlt : i < pn
          · as_aux_lemma =>
              have hlt' : (i : Int) < (pn : Int) := by omega
              have hi0 : (0 : Int) ≤ (i : Int) := by omega
              have HIL := Lib.hid (show i < ss.length by rw [HLN.out]; exact hlt)
              obtain ⟨bp, op, rfl, hbp, hcl⟩ := HP3.out.at hbr hlt
              have HCL := Lib.hid (fun (u : World) (hu : Below w3.heap.size w3 u) => by obtain ⟨b', o', e', _, k⟩ := HP3.out.at hu hlt; cases e'; exact k HIL.out)
              have HOPS := Lib.hid (HP3.out.2 (ss[i]'HIL.out) (List.getElem_mem _))
              have HPX := Lib.hid (HPT.out (ss[i]'HIL.out) (List.getElem_mem _))
              have HOX := Lib.hid (HOV.out (ss[i]'HIL.out) (List.getElem_mem _))
              have HPGX := Lib.hid (HPG.out (ss[i]'HIL.out) (List.getElem_mem _))
              have HA2 := Lib.hid (show A ++ (lineL (clientW i) ++ (opsT (ss[i]'HIL.out).l ++ progT (i + 1) (ss.drop (i + 1))) ++ picksT ps) = F by rw [← progT_at HIL.out]; exact HA.out)
              generalize ss[i]'HIL.out = p at *
              obtain ⟨sa, sn, sc, sl⟩ := p
              have HOPS2 := Lib.hid (show IsR fO w3 sa sn sl from HOPS.out)
              have HPX2 := Lib.hid (show ∀ x ∈ sl, x.t.size ≤ 140737488355 from HPX.out)
              have HOX2 := Lib.hid (show ∀ x ∈ sl, OvOk x from HOX.out)
              have HSN := Lib.hid (show sl.length = sn from HOPS.out.1)
              have hsn : sn ≤ 256 := HPGX.out.1
              have HPL := Lib.hid (show ∀ x ∈ sl, plainO x = true from fun x hx => List.all_eq_true.1 HPGX.out.2 x hx)
              replace HA2 := Lib.hid (show A ++ (lineL (clientW i) ++ (opsT sl ++ progT (i + 1) (ss.drop (i + 1))) ++ picksT ps) = F from HA2.out)
              replace HCL := Lib.hid (show ∀ u, Below w3.heap.size w3 u → u.cell? ⟨bp, op + i, none⟩ = some (.slice sa sn sc) from HCL.out)
              clear HOPS HPX HOX HPGX hcl hbr HA
              have r8 := block_cell (HXB.out _ _ _ HXR.out).1 8
              simp at r8
              have HNX := Lib.hid (refNumber_any (i : Int) wr)
              have hlx := numL_len (i : Int)
              have hcn1 : ¬ (9223372036854775807 < (⟨#[99, 108, 105, 101, 110, 116, 32]⟩ : ByteArray).size + (⟨(numL (i : Int)).toArray⟩ : ByteArray).size) := by
                show ¬ (9223372036854775807 < 7 + (numL (i : Int)).toArray.size)
                rw [List.size_toArray]
                omega
              have hcn2 : ¬ (9223372036854775807 < 7 + (numL (i : Int)).length + (⟨#[10]⟩ : ByteArray).size) := by
                show ¬ (9223372036854775807 < 7 + (numL (i : Int)).length + 1)
                omega
              have hcn3 : ¬ (9223372036854775807 < S.size + (7 + (numL (i : Int)).length + 1)) := by omega
              have HS3 := Lib.hid (fmt_client HS.out i)
              go_wp2_with fail
              refine (HNX.out).mono ?_; rintro e3 w4 ⟨rfl, hb3⟩
              have HB4 := Lib.hid (below_two HBR.out hb3)
              have HX4 := Lib.hid (HXL.out _ _ _ _ HXR.out hb3)
              clear hb3 HNX r8 HXR HBR
              have r8 := block_cell (HXB.out _ _ _ HX4.out).1 8
              simp at r8
              go_wp2_with fail
              clear r8 hcn1 hcn2 hcn3 hlx
              go_loopw [6, 14] (fun s6 s14 wr => ∃ (j : Nat) (S : ByteArray) (B : List UInt8), j ≤ sn ∧ s14 = .int .i64 j ∧ s6 = .string S ∧ S = ⟨B.toArray⟩ ∧ B ++ (opsT (sl.drop j) ++ (progT (i + 1) (ss.drop (i + 1)) ++ picksT ps)) = F ∧ Below w3.heap.size w3 wr) (fun _ s14 _ => sn - (intOf s14).toNat)
              case atStart => exact ⟨0, _, _, Nat.zero_le _, rfl, rfl, HS3.out, by have := HA2.out; simpa only [List.append_assoc, List.drop_zero] using this, HB4.out⟩
              case round =>
                clear HS3 HB4 HX4 HS HA2 hSL
                obtain ⟨j, S, B, hj, rfl, rfl, hS, hB, hbj⟩ := hrel
                have HS := Lib.hid hS
                have HB := Lib.hid hB
                have HBJ := Lib.hid hbj
                have HXJ := Lib.hid (HXL.out _ _ _ _ HW3.out hbj)
                have hSL : S.size ≤ 300000000 := by rw [hS, lbytes]; exact cat_lt hB hfl
                have r8 := block_cell (HXB.out _ _ _ HXJ.out).1 8
                simp at r8
                have c0 := HCL.out _ hbj
                clear hS hB
                by_cases hlj : j < sn
                · as_aux_lemma =>
                    have hlj' : (j : Int) < (sn : Int) := by omega
                    have hj0 : (0 : Int) ≤ (j : Int) := by omega
                    have HJL := Lib.hid (show j < sl.length by rw [HSN.out]; exact hlj)
                    obtain ⟨bo, oo, rfl, hbo, hcl⟩ := HOPS2.out.op hbj hlj
                    have hcl := hcl HJL.out
                    have HT := Lib.hid (HPX2.out (sl[j]'HJL.out) (List.getElem_mem _))
                    have HO := Lib.hid (HOX2.out (sl[j]'HJL.out) (List.getElem_mem _))
                    have HPO := Lib.hid (HPL.out (sl[j]'HJL.out) (List.getElem_mem _))
                    have HB2 := Lib.hid (show B ++ (lineL [opL (sl[j]'HJL.out)] ++ opsT (sl.drop (j + 1)) ++ (progT (i + 1) (ss.drop (i + 1)) ++ picksT ps)) = F by rw [← opsT_at HJL.out]; exact HB.out)
                    generalize sl[j]'HJL.out = x at *
                    have d0 := hcl 0 _ rfl
                    have d1 := hcl 1 _ rfl
                    have d2 := hcl 2 _ rfl
                    have d3 := hcl 3 _ rfl
                    have d4 := hcl 4 _ rfl
                    have d5 := hcl 5 _ rfl
                    have d6 := hcl 6 _ rfl
                    rw [Nat.add_zero] at d0
                    have HCP := Lib.hid (refOp_any x wr HO.out (by have := HT.out; omega))
                    rw [show opR x = (opL x, 0) from if_pos HPO.out] at HCP
                    have hll := (joinW_opW x HPO.out).1
                    replace hll : (opL x).length ≤ 100000 := hll
                    generalize opL x = ol at *
                    have HS3 := Lib.hid (fmt_op HS.out ol)
                    have hcn1 : ¬ (9223372036854775807 < (⟨ol.toArray⟩ : ByteArray).size + (⟨#[10]⟩ : ByteArray).size) := by
                      rw [lbytes]
                      show ¬ (9223372036854775807 < ol.length + 1)
                      omega
                    have hcn3 : ¬ (9223372036854775807 < S.size + (ol.length + 1)) := by omega
                    clear hcl hbj
                    go_wp2_with fail
                    refine (HCP.out).mono ?_; rintro e w5 ⟨rfl, hb5⟩
                    have HB5 := Lib.hid (below_two HBJ.out hb5)
                    clear hb5 d0 d1 d2 d3 d4 d5 d6 HCP r8 c0
                    go_wp2_with fail
                    go_roundw
                    case rel => exact ⟨j + 1, _, _, by omega, by go_num, rfl, HS3.out, by have := HB2.out; simpa only [List.append_assoc] using this, HB5.out⟩
                    case measure => (simp [intOf] <;> omega)
                · as_aux_lemma =>
                    obtain rfl : j = sn := by omega
                    have hlj' : ¬ ((j : Int) < (j : Int)) := by omega
                    have HBE := Lib.hid (show B ++ (progT (i + 1) (ss.drop (i + 1)) ++ picksT ps) = F by
                      have := HB.out
                      rw [List.drop_of_length_le (show sl.length ≤ j by rw [HSN.out]; omega)] at this
                      exact this)
                    clear hlj hbj
                    go_wp2_with fail
                    go_roundw
                    case rel => exact ⟨i + 1, _, _, by omega, by go_num, rfl, HS.out, HBE.out, HBJ.out⟩
                    case measure => (simp [intOf] <;> omega)
          · as_aux_lemma =>
              obtain rfl : i = pn := by omega
              have hlt' : ¬ ((i : Int) < (i : Int)) := by omega
              have HAE := Lib.hid (show A ++ picksT ps = F by
                have := HA.out
                rw [List.drop_of_length_le (show ss.length ≤ i by rw [HLN.out]; omega)] at this
                exact this)
              have r8 := block_cell (HXB.out _ _ _ HXR.out).1 8
              simp at r8
              clear hlt hbr HA
              go_wp2_with fail
              clear r8
              go_loopw [6, 17] (fun s6 s17 wr => ∃ (k : Nat) (S : ByteArray) (B : List UInt8), k ≤ qn ∧ s17 = .int .i64 k ∧ s6 = .string S ∧ S = ⟨B.toArray⟩ ∧ B ++ picksT (ps.drop k) = F ∧ Below w3.heap.size w3 wr) (fun _ s17 _ => qn - (intOf s17).toNat)
              case atStart => exact ⟨0, _, _, Nat.zero_le _, rfl, rfl, HS.out, HAE.out, HBR.out⟩
              case round =>
                clear HS HAE HBR HXR hSL
                obtain ⟨k, S, B, hk, rfl, rfl, hS, hB, hbk⟩ := hrel
                have HS := Lib.hid hS
                have HB := Lib.hid hB
                have HBK := Lib.hid hbk
                have HXK := Lib.hid (HXL.out _ _ _ _ HW3.out hbk)
                have hSL : S.size ≤ 300000000 := by rw [hS, lbytes]; exact cat_lt hB hfl
                have r9 := block_cell (HXB.out _ _ _ HXK.out).1 9
                simp at r9
                clear hS hB
                by_cases hlk : k < qn
                · as_aux_lemma =>
                    have hlk' : (k : Int) < (qn : Int) := by omega
                    have hk0 : (0 : Int) ≤ (k : Int) := by omega
                    have HKL := Lib.hid (show k < ps.length by rw [HQN.out]; exact hlk)
                    obtain ⟨bk, ok, rfl, hbk2, hcl⟩ := HQ3.out.pick hbk hlk
                    have HCK := Lib.hid (fun (u : World) (hu : Below w3.heap.size w3 u) (m : Nat) (hm : m < qn) => by obtain ⟨b', o', e', _, kk⟩ := HQ3.out.pick hu hm; cases e'; exact kk (by rw [HQN.out]; exact hm))
                    have c0 := hcl HKL.out
                    clear hcl hbk
                    go_wp2_with fail
                    clear r9 c0
                    generalize wr = w5 at *
                    go_loopw [18] (fun s18 wr => ∃ (m : Nat), k ≤ m ∧ m ≤ qn ∧ s18 = .int .i64 m ∧ (∀ i (h : i < ps.length), k ≤ i → i < m → ps[i] = ps[k]'HKL.out) ∧ Below w3.heap.size w3 wr) (fun s18 _ => qn - (intOf s18).toNat)
                    case atStart => exact ⟨k, Nat.le_refl _, by omega, rfl, fun i _ h1 h2 => absurd h2 (by omega), HBK.out⟩
                    case round =>
                      obtain ⟨m, hkm, hm, rfl, heq, hbm⟩ := hrel
                      have HEQ := Lib.hid heq
                      have HBM := Lib.hid hbm
                      have HXM := Lib.hid (HXL.out _ _ _ _ HW3.out hbm)
                      have r9 := block_cell (HXB.out _ _ _ HXM.out).1 9
                      simp at r9
                      have ck := HCK.out _ hbm k hlk
                      clear heq hbm
                      obtain ⟨v, hv⟩ : ∃ v, v = ps[k]'HKL.out := ⟨_, rfl⟩
                      have HVK := Lib.hid hv
                      rw [← hv] at ck
                      clear hv
                      by_cases hlm : m < qn
                      · have hlm' : (m : Int) < (qn : Int) := by omega
                        have hm0 : (0 : Int) ≤ (m : Int) := by omega
                        have HML := Lib.hid (show m < ps.length by rw [HQN.out]; exact hlm)
                        have cm := HCK.out _ HBM.out m hlm
                        obtain ⟨u, hu⟩ : ∃ u, u = ps[m]'HML.out := ⟨_, rfl⟩
                        have HUM := Lib.hid hu
                        rw [← hu] at cm
                        clear hu
                        by_cases huv : u = v
                        · as_aux_lemma =>
                            have HEQ2 := Lib.hid (show ∀ i (h : i < ps.length), k ≤ i → i < m + 1 → ps[i] = ps[k]'HKL.out from fun i h h1 h2 => by
                              rcases Nat.lt_or_ge i m with h3 | h3
                              · exact HEQ.out i h h1 h3
                              · obtain rfl : i = m := by omega
                                rw [← HUM.out, ← HVK.out]; exact huv)
                            have hb1 : (u == v) = true := by rw [beq_iff_eq]; exact huv
                            clear huv
                            go_wp2_with fail
                            go_quiet (fail)
                            go_wp2_with fail
                            go_roundw
                            case rel => exact ⟨m + 1, by omega, by omega, by go_num, HEQ2.out, below_drewN HBM.out _⟩
                            case measure => (simp [intOf] <;> omega)
                        · as_aux_lemma =>
                            have hb1 : (u == v) = false := by rw [beq_eq_false_iff_ne]; exact huv
                            have hkm2 : k < m := by
                              rcases Nat.lt_or_ge k m with h | h
                              · exact h
                              · obtain rfl : m = k := by omega
                                exact absurd (HUM.out.trans HVK.out.symm) huv
                            have HUV := Lib.hid huv
                            clear huv
                            have HRUN := Lib.hid (show picksT (ps.drop k) = lineL (pickW v (m - k : Nat)) ++ picksT (ps.drop m) by
                              have := picksT_run (l := ps.drop k) (q := ps[k]'HKL.out) (n := m - k) (by omega) (by rw [List.length_drop, HQN.out]; omega) (fun i h hi => by rw [List.getElem_drop]; exact HEQ.out (k + i) (by rw [List.length_drop] at h; omega) (by omega) (by omega)) (fun h => by rw [List.getElem_drop]; simp only [show k + (m - k) = m by omega]; rw [← HUM.out, ← HVK.out]; exact HUV.out)
                              rw [List.drop_drop, show k + (m - k) = m by omega, ← HVK.out] at this
                              exact this)
                            have HN1 := Lib.hid (fun u => refNumber_any v u)
                            have HN2 := Lib.hid (fun u => refNumber_any ((m : Int) - (k : Int)) u)
                            have hmk : (m : Int) - (k : Int) = ((m - k : Nat) : Int) := by omega
                            rw [hmk] at HN2
                            have HMK := Lib.hid hmk
                            have hl1 := numL_len v
                            have hl2 := numL_len ((m - k : Nat) : Int)
                            have HS3 := Lib.hid (fmt_pick HS.out v (m - k))
                            generalize hnn : numL ((m - k : Nat) : Int) = nb at *
                            generalize hna : numL v = na at *
                            have hc1 : ¬ (9223372036854775807 < (⟨#[112, 105, 99, 107, 32]⟩ : ByteArray).size + (⟨na.toArray⟩ : ByteArray).size) := by
                              rw [lbytes]
                              show ¬ (9223372036854775807 < 5 + na.length)
                              omega
                            have hc2 : ¬ (9223372036854775807 < 5 + na.length + (⟨#[32]⟩ : ByteArray).size) := by
                              show ¬ (9223372036854775807 < 5 + na.length + 1)
                              omega
                            have hc3 : ¬ (9223372036854775807 < 5 + na.length + 1 + (⟨nb.toArray⟩ : ByteArray).size) := by
                              rw [lbytes]
                              omega
                            have hc4 : ¬ (9223372036854775807 < 5 + na.length + 1 + nb.length + (⟨#[10]⟩ : ByteArray).size) := by
                              show ¬ (9223372036854775807 < 5 + na.length + 1 + nb.length + 1)
                              omega
                            have hc5 : ¬ (9223372036854775807 < S.size + (5 + na.length + 1 + nb.length + 1)) := by omega
                            clear hmk hnn hna
                            go_wp2_with fail
                            go_quiet (fail)
                            go_wp2_with fail
                            refine (HN1.out _).mono ?_; rintro e3 w6 ⟨rfl, hb3⟩
                            have HB6 := Lib.hid (below_two (below_drewN HBM.out _) hb3)
                            clear hb3 HN1 ck r9
                            go_wp2_with fail
                            rw [HMK.out]
                            refine (HN2.out _).mono ?_; rintro e3 w7 ⟨rfl, hb3⟩
                            have HB7 := Lib.hid (below_two HB6.out hb3)
                            clear hb3 HN2
                            go_wp2_with fail
                            go_roundw
                            case rel => exact ⟨m, _, _, hm, rfl, rfl, HS3.out, by have := HB.out; rw [HRUN.out, ← List.append_assoc] at this; exact this, HB7.out⟩
                            case measure => (simp [intOf] <;> omega)
                      · as_aux_lemma =>
                          obtain rfl : m = qn := by omega
                          have hlm' : ¬ ((m : Int) < (m : Int)) := by omega
                          have hlmd := decide_eq_false hlm'
                          clear hlm
                          have HRUN := Lib.hid (show picksT (ps.drop k) = lineL (pickW v (m - k : Nat)) ++ picksT (ps.drop m) by
                            have := picksT_run (l := ps.drop k) (q := ps[k]'HKL.out) (n := m - k) (by omega) (by rw [List.length_drop, HQN.out]; omega) (fun i h hi => by rw [List.getElem_drop]; exact HEQ.out (k + i) (by rw [List.length_drop] at h; omega) (by omega) (by omega)) (fun h => absurd h (by rw [List.length_drop, HQN.out]; omega))
                            rw [List.drop_drop, show k + (m - k) = m by omega, ← HVK.out] at this
                            exact this)
                          have HN1 := Lib.hid (fun u => refNumber_any v u)
                          have HN2 := Lib.hid (fun u => refNumber_any ((m : Int) - (k : Int)) u)
                          have hmk : (m : Int) - (k : Int) = ((m - k : Nat) : Int) := by omega
                          rw [hmk] at HN2
                          have HMK := Lib.hid hmk
                          have hl1 := numL_len v
                          have hl2 := numL_len ((m - k : Nat) : Int)
                          have HS3 := Lib.hid (fmt_pick HS.out v (m - k))
                          generalize hnn : numL ((m - k : Nat) : Int) = nb at *
                          generalize hna : numL v = na at *
                          have hc1 : ¬ (9223372036854775807 < (⟨#[112, 105, 99, 107, 32]⟩ : ByteArray).size + (⟨na.toArray⟩ : ByteArray).size) := by
                            rw [lbytes]
                            show ¬ (9223372036854775807 < 5 + na.length)
                            omega
                          have hc2 : ¬ (9223372036854775807 < 5 + na.length + (⟨#[32]⟩ : ByteArray).size) := by
                            show ¬ (9223372036854775807 < 5 + na.length + 1)
                            omega
                          have hc3 : ¬ (9223372036854775807 < 5 + na.length + 1 + (⟨nb.toArray⟩ : ByteArray).size) := by
                            rw [lbytes]
                            omega
                          have hc4 : ¬ (9223372036854775807 < 5 + na.length + 1 + nb.length + (⟨#[10]⟩ : ByteArray).size) := by
                            show ¬ (9223372036854775807 < 5 + na.length + 1 + nb.length + 1)
                            omega
                          have hc5 : ¬ (9223372036854775807 < S.size + (5 + na.length + 1 + nb.length + 1)) := by omega
                          clear hmk hnn hna
                          go_wp2_with fail
                          go_quiet (fail)
                          go_wp2_with fail
                          refine (HN1.out _).mono ?_; rintro e3 w6 ⟨rfl, hb3⟩
                          have HB6 := Lib.hid (below_two (below_drewN HBM.out _) hb3)
                          clear hb3 HN1 ck r9
                          go_wp2_with fail
                          rw [HMK.out]
                          refine (HN2.out _).mono ?_; rintro e3 w7 ⟨rfl, hb3⟩
                          have HB7 := Lib.hid (below_two HB6.out hb3)
                          clear hb3 HN2
                          go_wp2_with fail
                          go_roundw
                          case rel => exact ⟨m, _, _, hm, rfl, rfl, HS3.out, by have := HB.out; rw [HRUN.out, ← List.append_assoc] at this; exact this, HB7.out⟩
                          case measure => (simp [intOf] <;> omega)
                · as_aux_lemma =>
                    obtain rfl : k = qn := by omega
                    have hlk' : ¬ ((k : Int) < (k : Int)) := by omega
                    have HBF := Lib.hid (show B = F by
                      have := HB.out
                      rw [List.drop_of_length_le (show ps.length ≤ k by rw [HQN.out]; omega)] at this
                      exact (List.append_nil _).symm.trans this)
                    have HSF := Lib.hid (show S = ⟨F.toArray⟩ by rw [HS.out, HBF.out])
                    have HSZ2 := Lib.hid (show S.size = F.length by rw [HSF.out, lbytes])
                    clear hlk hbk
                    by_cases h65 : 65536 < S.size
                    · have h65' : (65536 : Int) < (S.size : Int) := by omega
                      have HRR := Lib.hid (show R = ([], 5) by rw [HFR2.out, if_pos (by rw [← HSZ2.out]; exact h65)])
                      go_wp2_with fail
                      go_ret2
                      exact ⟨by rw [HRR.out] <;> rfl, HB3.out.trans (HBK.out.mono HB3.out.size)⟩
                    · have h65' : ¬ ((65536 : Int) < (S.size : Int)) := by omega
                      have HRR := Lib.hid (show R = (F, 0) by rw [HFR2.out, if_neg (by rw [← HSZ2.out]; exact h65)])
                      go_wp2_with fail
                      go_ret2
                      exact ⟨by rw [HRR.out, ← HSF.out] <;> rfl, HB3.out.trans (HBK.out.mono HB3.out.size)⟩
  · have HRR := Lib.hid (show R = ([], E) by rw [HFR.out, if_pos h0])
    have hE1 : (E == 0) = false := by rw [beq_eq_false_iff_ne]; exact h0
    have hE2 : (E != 0) = true := by rw [bne_iff_ne]; exact h0
    clear h0
    go_wp2_with fail
    go_ret2
    exact ⟨by rw [HRR.out] <;> rfl, HB2.out⟩
end Go.Proofs.YtdfkbahlngijcaaDoor

