/- Text: script.length: its walk. -/
import Derived.Test.YtdfkbahlngijcaaDoorSe
namespace Go.Proofs.YtdfkbahlngijcaaDoor
open Go.RowKit
set_option linter.unusedVariables false

theorem sum_take {α : Type} (f : α → Nat) {l : List α} {j : Nat} (h : j < l.length) : ((l.take (j + 1)).map f).sum = ((l.take j).map f).sum + f l[j] := by
  rw [List.take_succ_eq_append_getElem h, List.map_append, List.sum_append]
  simp
theorem sum_le {α : Type} (f : α → Nat) (l : List α) (j : Nat) : ((l.take j).map f).sum ≤ (l.map f).sum := by
  have e : l.map f = (l.take j).map f ++ (l.drop j).map f := by rw [← List.map_append, List.take_append_drop]
  rw [e, List.sum_append]
  omega
theorem sum_all {α : Type} (f : α → Nat) (l : List α) : ((l.take l.length).map f).sum = (l.map f).sum := by rw [List.take_length]
theorem len_le_sum {α : Type} (f : α → Nat) (hf : ∀ x, 1 ≤ f x) (l : List α) : l.length ≤ (l.map f).sum := by
  induction l with
  | nil => simp
  | cons a l ih => have := hf a; simp only [List.length_cons, List.map_cons, List.sum_cons]; omega
theorem plain_kind {x : Ov} (h : plainO x = true) : 1 ≤ x.k ∧ x.k ≤ 16 := by
  unfold plainO at h
  by_cases k : x.k < 1 ∨ 16 < x.k
  · rw [if_pos k] at h; cases h
  · omega
theorem plain_text {x : Ov} (h : plainO x = true) : x.t.size ≤ 256 := by
  unfold plainO at h
  by_cases k : x.k < 1 ∨ 16 < x.k
  · rw [if_pos k] at h; cases h
  · rw [if_neg k] at h
    simp only [Bool.and_eq_true] at h
    have h5 := h.2.2.2.2.2
    unfold p5 hasB at h5
    split at h5
    · exact of_decide_eq_true h5
    · have := of_decide_eq_true h5
      omega
def scA (c : Cf) (po : Option Addr) (pn pc : Nat) (qo : Option Addr) (qn qc : Nat) : Array Value := #[.int .i64 c.slots, .int .u64 c.gens, .int .i64 c.clients, .int .i64 c.readers, .int .i64 c.queue, .int .i64 c.batch, .int .i64 c.feed, .string c.t, .slice po pn pc, .slice qo qn qc]
set_option maxRecDepth 100000 in
set_option maxHeartbeats 16000000 in
theorem length_sc (c : Cf) (po : Option Addr) (pn pc : Nat) (qo : Option Addr) (qn qc : Nat) (ss : List Pg) (w : World) (hp : IsPg w po pn ss)
    (hpl : ∀ s ∈ ss, ∀ x ∈ s.l, plainO x = true) (hsm : lenSc c ss qn ≤ 1000000000000) :
    Calls Tryd.prog 64 #[.agg #[.int .i64 c.slots, .int .u64 c.gens, .int .i64 c.clients, .int .i64 c.readers, .int .i64 c.queue, .int .i64 c.batch, .int .i64 c.feed, .string c.t, .slice po pn pc, .slice qo qn qc]] w fun e w' => e = .returned (.int .i64 (lenSc c ss qn : Nat)) ∧ Below w.heap.size w w' := by
  have HP := Lib.hid hp
  have HPL := Lib.hid hpl
  have hln := hp.1.1
  have HLN := Lib.hid hln
  have HB0 := Lib.hid ((Below.refl w.heap.size w).alloc (Nat.le_refl _) (.cells (scA c po pn pc qo qn qc) 42))
  have hnb := block_new w (.cells (scA c po pn pc qo qn qc) 42)
  have q7 := block_cell hnb 7
  have q8 := block_cell hnb 8
  have q9 := block_cell hnb 9
  obtain ⟨A, hA⟩ : ∃ A, A = 15 + c.t.size + qn := ⟨_, rfl⟩
  have HLS := Lib.hid (show lenSc c ss qn = A + (ss.map szP).sum by rw [hA]; rfl)
  have HT := Lib.hid (show A + (ss.map szP).sum ≤ 1000000000000 by rw [← HLS.out]; exact hsm)
  have htl : c.t.size + qn ≤ 1000000000000 := by have := HT.out; omega
  have hpnl : pn ≤ 1000000000000 := by have h1 := HT.out; have h2 := len_le_sum szP (fun x => by unfold szP; omega) ss; have h3 := HLN.out; omega
  generalize lenSc c ss qn = L at *
  obtain ⟨ca, cb, cc, cd, ce, cf, cg, t⟩ := c
  unfold scA at q7 q8 q9
  simp at q7 q8 q9
  replace htl : t.size + qn ≤ 1000000000000 := htl
  replace hA : A = 15 + t.size + qn := hA
  have hw1 : IntKind.i64.wrap (13 + (t.size : Int)) = 13 + (t.size : Int) := by rw [IntKind.wrap_i64]; omega
  have hw2 : IntKind.i64.wrap (13 + (t.size : Int) + 2) = 13 + (t.size : Int) + 2 := by rw [IntKind.wrap_i64]; omega
  have hw3 : IntKind.i64.wrap (13 + (t.size : Int) + 2 + (qn : Int)) = 13 + (t.size : Int) + 2 + (qn : Int) := by rw [IntKind.wrap_i64]; omega
  have HA := Lib.hid (show 13 + (t.size : Int) + 2 + (qn : Int) = (A : Int) by omega)
  clear hp hpl hln hnb hsm hA
  go_enter Tryd.func64, Tryd.ntmps64
  go_wp2_with fail
  rw [HA.out]
  clear hw1 hw2 hw3 q7 q8 q9
  go_loopw [3, 23] (fun s3 s23 wr => ∃ (i B : Nat), i ≤ pn ∧ s23 = .int .i64 i ∧ s3 = .int .i64 B ∧ B = A + ((ss.take i).map szP).sum ∧ Below w.heap.size w wr) (fun _ s23 _ => pn - (intOf s23).toNat)
  case atStart => exact ⟨0, A, Nat.zero_le _, rfl, rfl, rfl, HB0.out⟩
  case round =>
    obtain ⟨i, B, hi, rfl, rfl, hB, hbr⟩ := hrel
    have HBB := Lib.hid hB
    have HBR := Lib.hid hbr
    have hBl : B ≤ 1000000000000 := by have h1 := sum_le szP ss i; have h2 := HT.out; omega
    clear hB
    by_cases hlt : i < pn
    · as_aux_lemma =>
        have hlt' : (i : Int) < (pn : Int) := by omega
        have hi0 : (0 : Int) ≤ (i : Int) := by omega
        have HIL := Lib.hid (show i < ss.length by have := HLN.out; omega)
        obtain ⟨bp, op, rfl, hbp, hcl⟩ := HP.out.at hbr hlt
        have c0 := hcl HIL.out
        have HOPS := Lib.hid (HP.out.2 (ss[i]'HIL.out) (List.getElem_mem _))
        have HPS := Lib.hid (HPL.out (ss[i]'HIL.out) (List.getElem_mem _))
        have HST := Lib.hid (sum_take szP HIL.out)
        have HSL := Lib.hid (sum_le szP ss (i + 1))
        generalize ss[i]'HIL.out = p at *
        obtain ⟨sa, sn, sc, sl⟩ := p
        have HOPS2 := Lib.hid (show IsR fO w sa sn sl from HOPS.out)
        have HPS2 := Lib.hid (show ∀ x ∈ sl, plainO x = true from HPS.out)
        have HST2 := Lib.hid (show ((ss.take (i + 1)).map szP).sum = ((ss.take i).map szP).sum + (2 + (sl.map szO).sum) from HST.out)
        have HSN := Lib.hid (show sl.length = sn from HOPS.out.1)
        have HTB := Lib.hid (show B + 2 + (sl.map szO).sum ≤ 1000000000000 by have h1 := HST2.out; have h2 := HSL.out; have h3 := HT.out; have h4 := HBB.out; omega)
        have hsnl : sn ≤ 1000000000000 := by have h1 := HTB.out; have h2 := len_le_sum szO (fun x => by unfold szO; omega) sl; have h3 := HSN.out; omega
        replace c0 : wr.cell? ⟨bp, op + i, none⟩ = some (.slice sa sn sc) := c0
        clear HOPS HPS HST HSL hcl hbr
        go_wp2_with fail
        clear c0
        generalize wr = w3 at *
        go_loopw [3, 31] (fun s3 s31 wr => ∃ (j D : Nat), j ≤ sn ∧ s31 = .int .i64 j ∧ s3 = .int .i64 D ∧ D = B + 2 + ((sl.take j).map szO).sum ∧ Below w.heap.size w wr) (fun _ s31 _ => sn - (intOf s31).toNat)
        case atStart => exact ⟨0, B + 2, Nat.zero_le _, rfl, by go_num, rfl, HBR.out⟩
        case round =>
          obtain ⟨j, D, hj, rfl, rfl, hD, hbr⟩ := hrel
          have HDD := Lib.hid hD
          have HBR2 := Lib.hid hbr
          have hDl : D ≤ 1000000000000 := by have h1 := sum_le szO sl j; have h2 := HTB.out; omega
          have hszw := hbr.size
          clear hD
          by_cases hlj : j < sn
          · as_aux_lemma =>
              have hlj' : (j : Int) < (sn : Int) := by omega
              have hj0 : (0 : Int) ≤ (j : Int) := by omega
              have HJL := Lib.hid (show j < sl.length by rw [HSN.out]; exact hlj)
              obtain ⟨bo, oo, rfl, hbo, hcl⟩ := HOPS2.out.op hbr hlj
              have hcl := hcl HJL.out
              have HPX := Lib.hid (HPS2.out (sl[j]'HJL.out) (List.getElem_mem _))
              have HST := Lib.hid (sum_take szO HJL.out)
              have HSL := Lib.hid (sum_le szO sl (j + 1))
              generalize sl[j]'HJL.out = x at *
              have c0 := hcl 0 _ rfl
              have c1 := hcl 1 _ rfl
              have c2 := hcl 2 _ rfl
              have c3 := hcl 3 _ rfl
              have c4 := hcl 4 _ rfl
              have c5 := hcl 5 _ rfl
              have c6 := hcl 6 _ rfl
              rw [Nat.add_zero] at c0
              obtain ⟨k1, k2⟩ := plain_kind HPX.out
              obtain ⟨kn, hkn⟩ : ∃ kn : Nat, x.k = kn := ⟨x.k.toNat, by omega⟩
              have htx := plain_text HPX.out
              have hk1 : 1 ≤ kn := by omega
              have hk2 : kn ≤ 16 := by omega
              have HSZ := Lib.hid (show szO x = 1 + ((fldK kn).map (szF x)).sum by unfold szO; rw [hkn, Int.toNat_natCast])
              have HOB := Lib.hid (block_new wr (.cells #[.int .u8 kn, .int .i64 x.slot, .int .i64 x.at_, .int .i64 x.n, .int .u32 x.id, .int .u8 x.g, .string x.t] 51))
              have HBA := Lib.hid (hbr.alloc hszw (.cells #[.int .u8 kn, .int .i64 x.slot, .int .i64 x.at_, .int .i64 x.n, .int .u32 x.id, .int .u8 x.g, .string x.t] 51))
              have HFD := Lib.hid (fields_any kn hk1 hk2 (wr.alloc (.cells #[.int .u8 kn, .int .i64 x.slot, .int .i64 x.at_, .int .i64 x.n, .int .u32 x.id, .int .u8 x.g, .string x.t] 51)))
              have HSF := Lib.hid (fun (f : Nat) (u : World) (hf : f ≤ 5) => size_any x f u hf (by omega))
              rw [hkn] at c0 HSF
              have HL3 := Lib.hid (fldK_len kn)
              have HFL := Lib.hid (fldK_lt kn)
              have HTD := Lib.hid (show D + szO x ≤ 1000000000000 by have h1 := HST.out; have h2 := HSL.out; have h3 := HTB.out; have h4 := HDD.out; omega)
              have hkn' : (kn : Int) ≤ 16 := by omega
              generalize fldK kn = fl at *
              have hD1 : IntKind.i64.wrap ((D : Int) + 1) = (D : Int) + 1 := by rw [IntKind.wrap_i64]; omega
              clear hcl hbr hkn k1 k2
              go_wp2_with fail
              refine (HFD.out).mono ?_; rintro e w5 ⟨bf, rfl, hcf, hbf, hb5⟩
              have HO5 := Lib.hid (block_below hb5 HOB.out (by simp))
              have HB5 := Lib.hid (HBA.out.trans (hb5.mono (by have := HBA.out.size; exact this)))
              have HC5 := Lib.hid (show FldAt w5 bf fl from hcf)
              have HLT := Lib.hid (show wr.heap.size < w5.heap.size from block_lt HO5.out)
              have HBF := Lib.hid hbf
              have hs5 := HB5.out.size
              clear hcf hb5 hbf HFD HOB HBA c0 c1 c2 c3 c4 c5 c6
              obtain ⟨ln, hln⟩ : ∃ ln, ln = fl.length := ⟨_, rfl⟩
              rw [← hln]
              have HLF := Lib.hid hln
              have hl3 : ln ≤ 3 := by rw [hln]; exact HL3.out
              clear hln
              go_wp2_with fail
              generalize hwz : wr.heap.size = bz at *
              clear hwz
              go_loopw [3, 41] (fun s3 s41 wr => ∃ (q E : Nat), q ≤ ln ∧ s41 = .int .i64 q ∧ s3 = .int .i64 E ∧ E = D + 1 + ((fl.take q).map (szF x)).sum ∧ Below w5.heap.size w5 wr) (fun _ s41 _ => ln - (intOf s41).toNat)
              case atStart => exact ⟨0, D + 1, Nat.zero_le _, rfl, by go_num, rfl, Below.refl _ _⟩
              case round =>
                obtain ⟨q, E, hq, rfl, rfl, hE, hbq⟩ := hrel
                have HEE := Lib.hid hE
                have HBQ := Lib.hid hbq
                have hEl : E ≤ 1000000000000 := by have h1 := sum_le (szF x) fl q; have h2 := HTD.out; have h3 := HSZ.out; omega
                clear hE
                by_cases hlq : q < ln
                · as_aux_lemma =>
                    have hlq' : (q : Int) < (ln : Int) := by omega
                    have hq0 : (0 : Int) ≤ (q : Int) := by omega
                    have HQL := Lib.hid (show q < fl.length by rw [← HLF.out]; exact hlq)
                    have cf := (hbq.cell (p := ⟨bf, q, none⟩) HBF.out).trans (HC5.out q HQL.out)
                    have HOQ := Lib.hid (block_below hbq HO5.out HLT.out)
                    have d0 := block_cell HOQ.out 0
                    have d1 := block_cell HOQ.out 1
                    have d2 := block_cell HOQ.out 2
                    have d3 := block_cell HOQ.out 3
                    have d4 := block_cell HOQ.out 4
                    have d5 := block_cell HOQ.out 5
                    have d6 := block_cell HOQ.out 6
                    simp at d0 d1 d2 d3 d4 d5 d6
                    have HST3 := Lib.hid (sum_take (szF x) HQL.out)
                    have HSL3 := Lib.hid (sum_le (szF x) fl (q + 1))
                    have HF5 := Lib.hid (HFL.out (fl[q]'HQL.out) (List.getElem_mem _))
                    generalize fl[q]'HQL.out = fv at *
                    have HCS := Lib.hid (HSF.out fv wr HF5.out)
                    have hEs : E + szF x fv ≤ 1000000000000 := by have h1 := HST3.out; have h2 := HSL3.out; have h3 := HTD.out; have h4 := HSZ.out; have h5 := HEE.out; omega
                    have hwE : IntKind.i64.wrap ((E : Int) + (szF x fv : Nat)) = (E : Int) + (szF x fv : Nat) := by rw [IntKind.wrap_i64]; omega
                    have HNX := Lib.hid (show E + szF x fv = D + 1 + ((fl.take (q + 1)).map (szF x)).sum by have h1 := HST3.out; have h5 := HEE.out; omega)
                    clear hbq
                    go_wp2_with fail
                    refine (HCS.out).mono ?_; rintro e w6 ⟨rfl, hb6⟩
                    have HB6 := Lib.hid (HBQ.out.trans (hb6.mono HBQ.out.size))
                    clear hb6
                    generalize szF x fv = zz at *
                    go_wp2_with fail
                    go_roundw
                    case rel => exact ⟨q + 1, E + zz, by omega, by go_num, by go_num, HNX.out, HB6.out⟩
                    case measure => (simp [intOf] <;> omega)
                · as_aux_lemma =>
                    have hlq' : ¬ ((q : Int) < (ln : Int)) := by omega
                    have HNX := Lib.hid (show E = B + 2 + ((sl.take (j + 1)).map szO).sum by
                      have h1 := HEE.out
                      rw [show q = fl.length by rw [← HLF.out]; omega, sum_all] at h1
                      have h2 := HST.out
                      have h3 := HSZ.out
                      have h4 := HDD.out
                      omega)
                    have HBN := Lib.hid (HB5.out.trans (hbq.mono hs5))
                    clear hlq hbq
                    go_wp2_with fail
                    go_roundw
                    case rel => exact ⟨j + 1, E, by omega, by go_num, rfl, HNX.out, HBN.out⟩
                    case measure => (simp [intOf] <;> omega)
          · as_aux_lemma =>
              have hlj' : ¬ ((j : Int) < (sn : Int)) := by omega
              have HNX := Lib.hid (show D = A + ((ss.take (i + 1)).map szP).sum by
                have h1 := HDD.out
                rw [show j = sl.length by rw [HSN.out]; omega, sum_all] at h1
                have h2 := HST2.out
                have h3 := HBB.out
                omega)
              clear hlj hbr
              go_wp2_with fail
              go_roundw
              case rel => exact ⟨i + 1, D, by omega, by go_num, rfl, HNX.out, HBR2.out⟩
              case measure => (simp [intOf] <;> omega)
    · as_aux_lemma =>
        have hlt' : ¬ ((i : Int) < (pn : Int)) := by omega
        have HE := Lib.hid (show B = L by
          have h1 := HBB.out
          rw [show i = ss.length by have := HLN.out; omega, sum_all] at h1
          rw [HLS.out]; exact h1)
        clear hlt hbr
        go_wp2_with fail
        go_ret
        exact ⟨by rw [HE.out] <;> rfl, HBR.out⟩
end Go.Proofs.YtdfkbahlngijcaaDoor
