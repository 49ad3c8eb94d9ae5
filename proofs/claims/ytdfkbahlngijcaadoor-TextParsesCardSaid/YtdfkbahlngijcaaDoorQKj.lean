/- Text: length and Check of quartoref39: their walks. (printed by slim.py.) -/
import Derived.Test.YtdfkbahlngijcaaDoorQKd
import Derived.Test.YtdfkbahlngijcaaDoorQUb
import Derived.Test.YtdfkbahlngijcaaDoorQKh
namespace Go.Proofs.YtdfkbahlngijcaaDoor
open Go.RowKit
set_option linter.unusedVariables false

/-- the sizes of the fields below i that a kind uses -/
def szI (x : Ov) (i : Nat) : Nat := 1 + (((List.range i).filter (fun f => decide (f ∈ fldK x.k.toNat))).map (szF x)).sum
theorem szI_yes (x : Ov) {i : Nat} (h : decide (i ∈ fldK x.k.toNat) = true) : szI x (i + 1) = szI x i + szF x i := by
  unfold szI
  rw [List.range_succ, List.filter_append, List.map_append, List.sum_append]
  simp only [List.filter_cons, h, if_true, List.filter_nil, List.map_cons, List.map_nil, List.sum_cons, List.sum_nil]
  omega
theorem szI_no (x : Ov) {i : Nat} (h : decide (i ∈ fldK x.k.toNat) = false) : szI x (i + 1) = szI x i := by
  unfold szI
  rw [List.range_succ, List.filter_append, List.map_append, List.sum_append]
  simp [h]
theorem szI_six (x : Ov) : szI x 6 = szO x := by
  unfold szI szO
  rw [show List.range 6 = [0, 1, 2, 3, 4, 5] from rfl]
  generalize x.k.toNat = k
  unfold fldK
  split <;> simp [szF] <;> omega
theorem szI_le (x : Ov) : ∀ i, i ≤ 6 → szI x i ≤ 20 + i * (2 + x.t.size)
  | 0, _ => by unfold szI; simp
  | i + 1, h => by
    have ih := szI_le x i (by omega)
    have hf : szF x i ≤ 4 + x.t.size := by unfold szF; split <;> omega
    have hs : szI x (i + 1) ≤ szI x i + szF x i := by
      rcases hd : decide (i ∈ fldK x.k.toNat) with _ | _
      · rw [szI_no x hd]; omega
      · rw [szI_yes x hd]; omega
    have : (i + 1) * (2 + x.t.size) = i * (2 + x.t.size) + (2 + x.t.size) := by rw [Nat.add_mul, Nat.one_mul]
    have h2 : szI x (i + 1) ≤ szI x i + szF x i := hs
    rcases (by omega : i = 0 ∨ i = 1 ∨ i = 2 ∨ i = 3 ∨ i = 4 ∨ i = 5) with rfl | rfl | rfl | rfl | rfl | rfl
    · have : szI x 0 = 1 := by unfold szI; simp
      have : szF x 0 = 1 := rfl
      omega
    · have : szF x 1 = 2 := rfl
      omega
    · have : szF x 2 = 2 := rfl
      omega
    · have : szF x 3 = 4 := rfl
      have e0 : szI x 0 = 1 := by unfold szI; simp
      have a1 : szI x 1 ≤ 2 := by
        rcases hd : decide (0 ∈ fldK x.k.toNat) with _ | _
        · rw [szI_no x hd]; omega
        · rw [szI_yes x hd]; have : szF x 0 = 1 := rfl; omega
      have a2 : szI x 2 ≤ 4 := by
        rcases hd : decide (1 ∈ fldK x.k.toNat) with _ | _
        · rw [szI_no x hd]; omega
        · rw [szI_yes x hd]; have : szF x 1 = 2 := rfl; omega
      have a3 : szI x 3 ≤ 6 := by
        rcases hd : decide (2 ∈ fldK x.k.toNat) with _ | _
        · rw [szI_no x hd]; omega
        · rw [szI_yes x hd]; have : szF x 2 = 2 := rfl; omega
      omega
    · have : szF x 4 = 1 := rfl
      omega
    · have : szF x 5 = 2 + x.t.size := rfl
      omega
theorem cell_six {w : World} {b : Nat} {T : TypeId} {v0 v1 v2 v3 v4 v5 : Value} {f : Nat → Value} (h : w.heap[b]? = some (.cells #[v0, v1, v2, v3, v4, v5] T (0, 0))) (h0 : v0 = f 0) (h1 : v1 = f 1) (h2 : v2 = f 2) (h3 : v3 = f 3) (h4 : v4 = f 4) (h5 : v5 = f 5) {i : Nat} (hi : i < 6) : w.cell? ⟨b, i, none⟩ = some (f i) := by
  rcases (by omega : i = 0 ∨ i = 1 ∨ i = 2 ∨ i = 3 ∨ i = 4 ∨ i = 5) with rfl | rfl | rfl | rfl | rfl | rfl
  · rw [← h0]; exact block_cell h 0
  · rw [← h1]; exact block_cell h 1
  · rw [← h2]; exact block_cell h 2
  · rw [← h3]; exact block_cell h 3
  · rw [← h4]; exact block_cell h 4
  · rw [← h5]; exact block_cell h 5
set_option maxRecDepth 100000 in
set_option maxHeartbeats 8000000 in
theorem refLen_any (x : Ov) (kn : Nat) (hk : x.k = kn) (hk1 : 1 ≤ kn) (hk2 : kn ≤ 16) (w : World) (ht : x.t.size ≤ 140737488355) :
    Calls Tryd.prog 76 #[.agg #[.int .u8 x.k, .int .i64 x.slot, .int .i64 x.at_, .int .i64 x.n, .int .u32 x.id, .int .u8 x.g, .string x.t]] w fun e w' => e = .returned (.int .i64 (szO x : Nat)) ∧ Below w.heap.size w w' := by
  have HB := Lib.hid ((Below.refl w.heap.size w).alloc (Nat.le_refl _) (.cells (oC x) 51))
  have HNB := Lib.hid (block_new w (.cells (oC x) 51))
  have HU := Lib.hid (fun u => uses_any kn hk1 hk2 u)
  have HY := Lib.hid (fun (i : Nat) h => szI_yes x (i := i) h)
  have HN := Lib.hid (fun (i : Nat) h => szI_no x (i := i) h)
  have HSX := Lib.hid (szI_six x)
  have HLE := Lib.hid (szI_le x)
  have HZ := Lib.hid (show szI x 0 = 1 by unfold szI; simp)
  have HF := Lib.hid (show szF x 0 = 1 ∧ szF x 1 = 2 ∧ szF x 2 = 2 ∧ szF x 3 = 4 ∧ szF x 4 = 1 ∧ szF x 5 = 2 + x.t.size from ⟨rfl, rfl, rfl, rfl, rfl, rfl⟩)
  have HFM := Lib.hid (show ∀ i, i < 6 → szF x i ≤ 4 + x.t.size by intro i hi; unfold szF; split <;> omega)
  have hkn : x.k.toNat = kn := by rw [hk, Int.toNat_natCast]
  rw [hkn] at HY HN
  unfold usesA at HU
  obtain ⟨B, hB⟩ : ∃ B : Nat → Bool, B = fun i => decide (i ∈ fldK kn) := ⟨_, rfl⟩
  have hBi : ∀ i, decide (i ∈ fldK kn) = B i := fun i => by rw [hB]
  rw [hBi 0, hBi 1, hBi 2, hBi 3, hBi 4, hBi 5] at HU
  have HY := Lib.hid (fun (i : Nat) (h : B i = true) => HY.out i (by rw [hBi i]; exact h))
  have HN := Lib.hid (fun (i : Nat) (h : B i = false) => HN.out i (by rw [hBi i]; exact h))
  clear hB hBi hkn
  obtain ⟨b0, hb0⟩ : ∃ b, b = B 0 := ⟨_, rfl⟩
  obtain ⟨b1, hb1⟩ : ∃ b, b = B 1 := ⟨_, rfl⟩
  obtain ⟨b2, hb2⟩ : ∃ b, b = B 2 := ⟨_, rfl⟩
  obtain ⟨b3, hb3⟩ : ∃ b, b = B 3 := ⟨_, rfl⟩
  obtain ⟨b4, hb4⟩ : ∃ b, b = B 4 := ⟨_, rfl⟩
  obtain ⟨b5, hb5⟩ : ∃ b, b = B 5 := ⟨_, rfl⟩
  rw [← hb0, ← hb1, ← hb2, ← hb3, ← hb4, ← hb5] at HU
  have HBB := Lib.hid (And.intro hb0 (And.intro hb1 (And.intro hb2 (And.intro hb3 (And.intro hb4 hb5)))))
  clear hb0 hb1 hb2 hb3 hb4 hb5
  generalize szO x = Z at *
  generalize szI x = I at *
  generalize szF x = F at *
  obtain ⟨k, s, a, n, id, g, t⟩ := x
  simp only at hk ht HLE HF HFM
  subst hk
  unfold oC at HNB HB
  simp only at HNB HB
  have q0 := block_cell HNB.out 0
  have q6 := block_cell HNB.out 6
  simp at q0 q6
  simp only
  go_enter Tryd.func76, Tryd.ntmps76
  go_wp2_with fail
  refine (HU.out _).mono ?_; rintro e w1 ⟨rfl, hb1⟩
  have HB1 := Lib.hid (below_two HB.out hb1)
  have HO1 := Lib.hid (block_below hb1 HNB.out (by simp))
  clear hb1 q0 q6
  have q6 := block_cell HO1.out 6
  simp at q6
  have hs1 := HB1.out.size
  have hlo := block_lt HO1.out
  have HA5 := Lib.hid (block_alloc (block_new w1 (.cells #[.bool b0, .bool b1, .bool b2, .bool b3, .bool b4, .bool b5] 104)) (.cells #[.int .i64 1, .int .i64 2, .int .i64 2, .int .i64 4, .int .i64 1, .int .i64 (2 + (t.size : Int))] 112))
  have HA6 := Lib.hid (block_new' (w1.alloc (.cells #[.bool b0, .bool b1, .bool b2, .bool b3, .bool b4, .bool b5] 104)) (.cells #[.int .i64 1, .int .i64 2, .int .i64 2, .int .i64 4, .int .i64 1, .int .i64 (2 + (t.size : Int))] 112) (w1.heap.size + 1) (by simp))
  have HB3 := Lib.hid ((HB1.out.alloc hs1 (.cells #[.bool b0, .bool b1, .bool b2, .bool b3, .bool b4, .bool b5] 104)).alloc (by simp; omega) (.cells #[.int .i64 1, .int .i64 2, .int .i64 2, .int .i64 4, .int .i64 1, .int .i64 (2 + (t.size : Int))] 112))
  have q6b := block_cell (block_alloc HO1.out (.cells #[.bool b0, .bool b1, .bool b2, .bool b3, .bool b4, .bool b5] 104)) 6
  simp at q6b
  go_wp2_with fail
  go_loop [4, 6] (fun s4 s6 => ∃ i : Nat, i ≤ 6 ∧ s6 = .int .i64 i ∧ s4 = .int .i64 (I i : Nat)) (fun _ s6 => 6 - (intOf s6).toNat)
  case atStart => exact ⟨0, by omega, rfl, by rw [HZ.out] <;> rfl⟩
  case round =>
    obtain ⟨i, hi, rfl, rfl⟩ := hrel
    clear q6 q6b
    by_cases hlt : i < 6
    · have hlt' : (i : Int) < 6 := by omega
      have hi0 : (0 : Int) ≤ (i : Int) := by omega
      have hc1 := cell_six (f := fun i => .bool (B i)) HA5.out (by rw [HBB.out.1]) (by rw [HBB.out.2.1]) (by rw [HBB.out.2.2.1]) (by rw [HBB.out.2.2.2.1]) (by rw [HBB.out.2.2.2.2.1]) (by rw [HBB.out.2.2.2.2.2]) hlt
      have hc2 := cell_six (f := fun i => .int .i64 (F i : Nat)) HA6.out (by rw [HF.out.1]; rfl) (by rw [HF.out.2.1]; rfl) (by rw [HF.out.2.2.1]; rfl) (by rw [HF.out.2.2.2.1]; rfl) (by rw [HF.out.2.2.2.2.1]; rfl) (by rw [HF.out.2.2.2.2.2, Int.natCast_add]; rfl) hlt
      have hI := HLE.out i hi
      have hI1 := HLE.out (i + 1) (by omega)
      have hF := HFM.out i hlt
      have hIb : I i ≤ 20 + 6 * (2 + t.size) := Nat.le_trans hI (by have := Nat.mul_le_mul_right (2 + t.size) hi; omega)
      clear hI hI1
      rcases hb : B i with _ | _
      · have HI := Lib.hid (HN.out i hb)
        rw [hb] at hc1
        clear hb
        go_wp2_with fail
        go_round
        case rel => exact ⟨i + 1, by omega, by go_num, by rw [HI.out]⟩
        case measure => (simp [intOf] <;> omega)
      · have HI := Lib.hid (HY.out i hb)
        rw [hb] at hc1
        clear hb
        go_wp2_with fail
        go_round
        case rel => exact ⟨i + 1, by omega, by go_num, by rw [HI.out]; congr 1⟩
        case measure => (simp [intOf] <;> omega)
    · obtain rfl : i = 6 := by omega
      have hlt' : ¬ (((6 : Nat) : Int) < 6) := by omega
      clear hlt
      go_wp2_with fail
      go_ret
      exact ⟨by rw [HSX.out] <;> rfl, HB3.out⟩
end Go.Proofs.YtdfkbahlngijcaaDoor

namespace Go.Proofs.YtdfkbahlngijcaaDoor
open Go.RowKit
set_option linter.unusedVariables false

theorem szO_le2 {x : Ov} (h : plainO x = true) : szO x ≤ 775 := szO_le h
set_option maxRecDepth 100000 in
set_option maxHeartbeats 16000000 in
theorem refCheck_sc (c : Cf) (po : Option Addr) (pn pc : Nat) (qo : Option Addr) (qn qc : Nat) (ss : List Pg) (ps : List Int) (w : World) (hp : IsPg w po pn ss) (hq : IsR fI w qo qn ps)
    (hct : c.t.size ≤ 140737488355328) (hpt : ∀ s ∈ ss, ∀ x ∈ s.l, x.t.size ≤ 140737488355) (hpn : pn ≤ 140737488355328) (hqn : qn ≤ 140737488355328) :
    Calls Tryd.prog 41 #[.agg #[.int .i64 c.slots, .int .u64 c.gens, .int .i64 c.clients, .int .i64 c.readers, .int .i64 c.queue, .int .i64 c.batch, .int .i64 c.feed, .string c.t, .slice po pn pc, .slice qo qn qc]] w fun e w' => e = .returned (.int .i64 (scE c ss ps)) ∧ Below w.heap.size w w' := by
  have HP := Lib.hid hp
  have HQ := Lib.hid hq
  have HLN := Lib.hid (show ss.length = pn from hp.1.1)
  have HQN := Lib.hid (show ps.length = qn from hq.1)
  have HPT := Lib.hid hpt
  have HSC := Lib.hid (show scE c ss ps = if cfgE c ≠ 0 then cfgE c else if (ss.length : Int) ≠ c.clients then 2 else if progE ss ≠ 0 then progE ss else if 65535 < ps.length then 5 else
    if ps.all (fun q => inR q 0 c.clients) = true then (if 65536 < lenSc c ss ps.length then 5 else 0) else 2 from rfl)
  have HB0 := Lib.hid ((Below.refl w.heap.size w).alloc (Nat.le_refl _) (.cells (scA c po pn pc qo qn qc) 42))
  have HNB := Lib.hid (block_new w (.cells (scA c po pn pc qo qn qc) 42))
  have HCK := Lib.hid (refCfg_any c (w.alloc (.cells (scA c po pn pc qo qn qc) 42)) hct)
  rw [HLN.out, HQN.out] at HSC
  have HSM := Lib.hid (show IsPg w po pn ss from hp)
  have HCZ := Lib.hid (fun h => cfg_zero (c := c) h)
  generalize hE : cfgE c = E at *
  generalize scE c ss ps = P at *
  have HLL := Lib.hid (show lenSc c ss qn = 15 + c.t.size + qn + (ss.map szP).sum from rfl)
  generalize lenSc c ss qn = L at *
  obtain ⟨ca, cb, cl, cd, ce, cf, cg, t⟩ := c
  replace HSC := Lib.hid (show P = if E ≠ 0 then E else if (pn : Int) ≠ cl then 2 else if progE ss ≠ 0 then progE ss else if 65535 < qn then 5 else
    if ps.all (fun q => inR q 0 cl) = true then (if 65536 < L then 5 else 0) else 2 from HSC.out)
  replace HLL := Lib.hid (show L = 15 + t.size + qn + (ss.map szP).sum from HLL.out)
  replace HCZ := Lib.hid (show E = 0 → 0 ≤ cl ∧ cl ≤ 8 ∧ t.size ≤ 65536 from HCZ.out)
  clear hE hp hq hpt
  have q0 := block_cell HNB.out 0
  have q1 := block_cell HNB.out 1
  have q2 := block_cell HNB.out 2
  have q3 := block_cell HNB.out 3
  have q4 := block_cell HNB.out 4
  have q5 := block_cell HNB.out 5
  have q6 := block_cell HNB.out 6
  have q7 := block_cell HNB.out 7
  unfold scA at q0 q1 q2 q3 q4 q5 q6 q7 HNB HCK HB0
  simp at q0 q1 q2 q3 q4 q5 q6 q7
  go_enter Tryd.func41, Tryd.ntmps41
  go_wp2_with fail
  refine (HCK.out).mono ?_; rintro e w2 ⟨rfl, hb2⟩
  have HO2 := Lib.hid (block_below hb2 HNB.out (by simp))
  have HB2 := Lib.hid (HB0.out.trans (hb2.mono (by have := HB0.out.size; exact this)))
  have HLT := Lib.hid (block_lt HO2.out)
  have HP2 := Lib.hid (HP.out.later HB2.out)
  have HQ2 := Lib.hid (HQ.out.later HB2.out)
  clear hb2 HCK HB0 HNB q0 q1 q2 q3 q4 q5 q6 q7 HP HQ HSM
  generalize hbo : w.heap.size = bz0 at *
  have HBO := Lib.hid hbo
  have HSZ := Lib.hid (show bz0 ≤ w2.heap.size by have := HLT.out; omega)
  clear hbo
  have q0 := block_cell HO2.out 0
  have q1 := block_cell HO2.out 1
  have q2 := block_cell HO2.out 2
  have q3 := block_cell HO2.out 3
  have q4 := block_cell HO2.out 4
  have q5 := block_cell HO2.out 5
  have q6 := block_cell HO2.out 6
  have q7 := block_cell HO2.out 7
  have q8 := block_cell HO2.out 8
  have q9 := block_cell HO2.out 9
  simp at q0 q1 q2 q3 q4 q5 q6 q7 q8 q9
  by_cases h0 : E = 0
  · obtain ⟨hc0, hc8, ht6⟩ := HCZ.out h0
    subst h0
    by_cases h1 : (pn : Int) = cl
    · subst h1
      have hp8 : pn ≤ 8 := by omega
      clear hc0 hc8 HCZ
      have HTS := Lib.hid ht6
      go_wp2_with fail
      go_loopw [4, 5] (fun s4 s5 wr => ∃ (i N : Nat), i ≤ pn ∧ s5 = .int .i64 i ∧ s4 = .int .i64 N ∧ N = 15 + t.size + ((ss.take i).map szP).sum ∧ N ≤ 65551 + i * 198402 ∧ progE ss = progE (ss.drop i) ∧ Below w2.heap.size w2 wr) (fun _ s5 _ => pn - (intOf s5).toNat)
      case atStart => exact ⟨0, 15 + t.size, Nat.zero_le _, rfl, by go_num, by simp, by omega, rfl, Below.refl _ _⟩
      case round =>
        obtain ⟨i, N, hi, rfl, rfl, hN, hNm, hG, hbr⟩ := hrel
        have HG := Lib.hid hG
        have HN := Lib.hid hN
        have HBR := Lib.hid hbr
        have HOR := Lib.hid (block_below hbr HO2.out HLT.out)
        clear hG hN
        have hNb : N ≤ 1652767 := by have := Nat.mul_le_mul_right 198402 (Nat.le_trans hi hp8); omega
        by_cases hlt : i < pn
        · as_aux_lemma =>
            have hlt' : (i : Int) < (pn : Int) := by omega
            have hi0 : (0 : Int) ≤ (i : Int) := by omega
            have HIL := Lib.hid (show i < ss.length by rw [HLN.out]; exact hlt)
            obtain ⟨bp, op, rfl, hbp, hcl⟩ := HP2.out.at hbr hlt
            have c0 := hcl HIL.out
            have HCL := Lib.hid (fun (u : World) (hu : Below w2.heap.size w2 u) => by obtain ⟨b', o', e', _, k⟩ := HP2.out.at hu hlt; cases e'; exact k HIL.out)
            have HOPS := Lib.hid (HP2.out.2 (ss[i]'HIL.out) (List.getElem_mem _))
            have HPX := Lib.hid (HPT.out (ss[i]'HIL.out) (List.getElem_mem _))
            have HG2 := Lib.hid (show progE ss = if 256 < (ss[i]'HIL.out).n then 5 else if (ss[i]'HIL.out).l.all plainO = true then progE (ss.drop (i + 1)) else 2 by rw [HG.out, drop_at HIL.out]; rfl)
            have HST := Lib.hid (show ((ss.take (i + 1)).map szP).sum = ((ss.take i).map szP).sum + szP (ss[i]'HIL.out) from sum_take szP HIL.out)
            generalize ss[i]'HIL.out = p at *
            obtain ⟨sa, sn, sc, sl⟩ := p
            have HOPS2 := Lib.hid (show IsR fO w2 sa sn sl from HOPS.out)
            have HPX2 := Lib.hid (show ∀ x ∈ sl, x.t.size ≤ 140737488355 from HPX.out)
            have HSN := Lib.hid (show sl.length = sn from HOPS.out.1)
            replace HG2 := Lib.hid (show progE ss = if 256 < sn then 5 else if sl.all plainO = true then progE (ss.drop (i + 1)) else 2 from HG2.out)
            replace HST := Lib.hid (show ((ss.take (i + 1)).map szP).sum = ((ss.take i).map szP).sum + (2 + (sl.map szO).sum) from HST.out)
            replace c0 : wr.cell? ⟨bp, op + i, none⟩ = some (.slice sa sn sc) := c0
            replace HCL := Lib.hid (show ∀ u, Below w2.heap.size w2 u → u.cell? ⟨bp, op + i, none⟩ = some (.slice sa sn sc) from HCL.out)
            have r8 := block_cell HOR.out 8
            simp at r8
            clear HOPS HPX hcl
            by_cases h256 : 256 < sn
            · have h256' : (256 : Int) < (sn : Int) := by omega
              have HX := Lib.hid (show P = 5 by rw [HSC.out, if_neg (fun h => h rfl), if_neg (fun h => h rfl), HG2.out, if_pos h256, if_pos (by decide)])
              clear hbr
              go_wp2_with fail
              go_ret
              exact ⟨by rw [HX.out] <;> rfl, by rw [HBO.out]; exact HB2.out.trans (HBR.out.mono HSZ.out)⟩
            · have h256' : ¬ ((256 : Int) < (sn : Int)) := by omega
              have hsn : sn ≤ 256 := by omega
              clear hbr
              go_wp2_with fail
              clear c0 r8
              generalize wr = w3 at *
              go_loopw [4, 6] (fun s4 s6 wr => ∃ (j M : Nat), j ≤ sn ∧ s6 = .int .i64 j ∧ s4 = .int .i64 M ∧ M = N + 2 + ((sl.take j).map szO).sum ∧ M ≤ N + 2 + j * 775 ∧ sl.all plainO = (sl.drop j).all plainO ∧ Below w2.heap.size w2 wr) (fun _ s6 _ => sn - (intOf s6).toNat)
              case atStart => exact ⟨0, N + 2, Nat.zero_le _, rfl, by go_num, by simp, by omega, rfl, HBR.out⟩
              case round =>
                obtain ⟨j, M, hj, rfl, rfl, hM, hMm, hA, hbj⟩ := hrel
                have HA := Lib.hid hA
                have HM := Lib.hid hM
                have HBJ := Lib.hid hbj
                have HOJ := Lib.hid (block_below hbj HO2.out HLT.out)
                have hszj := hbj.size
                have hMb : M ≤ 1851170 := by have := Nat.mul_le_mul_right 775 (Nat.le_trans hj hsn); omega
                have r8 := block_cell HOJ.out 8
                simp at r8
                have c0 := HCL.out _ hbj
                clear hA hM
                by_cases hlj : j < sn
                · as_aux_lemma =>
                    have hlj' : (j : Int) < (sn : Int) := by omega
                    have hj0 : (0 : Int) ≤ (j : Int) := by omega
                    have HJL := Lib.hid (show j < sl.length by rw [HSN.out]; exact hlj)
                    obtain ⟨bo, oo, rfl, hbo, hcl⟩ := HOPS2.out.op hbj hlj
                    have HOPC := Lib.hid (fun (u : World) (hu : Below w2.heap.size w2 u) => by obtain ⟨b', o', e', _, k⟩ := HOPS2.out.op hu hlj; cases e'; exact k HJL.out)
                    have hcl := hcl HJL.out
                    have HT := Lib.hid (HPX2.out (sl[j]'HJL.out) (List.getElem_mem _))
                    have HA2 := Lib.hid (show sl.all plainO = (plainO (sl[j]'HJL.out) && (sl.drop (j + 1)).all plainO) by rw [HA.out, drop_at HJL.out]; rfl)
                    have HSJ := Lib.hid (show ((sl.take (j + 1)).map szO).sum = ((sl.take j).map szO).sum + szO (sl[j]'HJL.out) from sum_take szO HJL.out)
                    generalize sl[j]'HJL.out = x at *
                    have d0 := hcl 0 _ rfl
                    have d1 := hcl 1 _ rfl
                    have d2 := hcl 2 _ rfl
                    have d3 := hcl 3 _ rfl
                    have d4 := hcl 4 _ rfl
                    have d5 := hcl 5 _ rfl
                    have d6 := hcl 6 _ rfl
                    rw [Nat.add_zero] at d0
                    have HCP := Lib.hid (refPlain_any x wr (by have := HT.out; omega))
                    clear hcl hbj
                    by_cases hpl : plainO x = true
                    · have hsx := szO_le2 hpl
                      have HKL := Lib.hid (fun (u : World) => (show Calls _ _ _ u _ from refLen_any x x.k.toNat (by have := plain_kind hpl; omega) (by have := plain_kind hpl; omega) (by have := plain_kind hpl; omega) u HT.out))
                      rw [hpl] at HCP
                      have HA3 := Lib.hid (show sl.all plainO = (sl.drop (j + 1)).all plainO by rw [HA2.out, hpl, Bool.true_and])
                      generalize szO x = z at *
                      clear hpl
                      go_wp2_with fail
                      refine (HCP.out).mono ?_; rintro e w5 ⟨rfl, hb5⟩
                      have HB5 := Lib.hid (HBJ.out.trans (hb5.mono hszj))
                      clear hb5 d0 d1 d2 d3 d4 d5 d6 HCP r8 c0
                      have HO5 := Lib.hid (block_below HB5.out HO2.out HLT.out)
                      have r8 := block_cell HO5.out 8
                      simp at r8
                      have c0 := HCL.out _ HB5.out
                      have hcl := HOPC.out _ HB5.out
                      have d0 := hcl 0 _ rfl
                      have d1 := hcl 1 _ rfl
                      have d2 := hcl 2 _ rfl
                      have d3 := hcl 3 _ rfl
                      have d4 := hcl 4 _ rfl
                      have d5 := hcl 5 _ rfl
                      have d6 := hcl 6 _ rfl
                      rw [Nat.add_zero] at d0
                      have hs5 := HB5.out.size
                      clear hcl
                      go_wp2_with fail
                      refine (HKL.out _).mono ?_; rintro e w6 ⟨rfl, hb6⟩
                      have HB6 := Lib.hid (HB5.out.trans (hb6.mono hs5))
                      clear hb6 d0 d1 d2 d3 d4 d5 d6 HKL r8 c0
                      go_wp2_with fail
                      go_roundw
                      case rel => exact ⟨j + 1, M + z, by omega, by go_num, by go_num, by rw [HSJ.out, HM.out]; omega, by omega, HA3.out, HB6.out⟩
                      case measure => (simp [intOf] <;> omega)
                    · have hpf := Bool.eq_false_iff.2 hpl
                      rw [hpf] at HCP
                      have HX := Lib.hid (show P = 2 by
                        have e : progE ss = 2 := by rw [HG2.out, if_neg h256, HA2.out, hpf, Bool.false_and]; rfl
                        rw [HSC.out, if_neg (fun h => h rfl), if_neg (fun h => h rfl), e]; rfl)
                      clear hpl hpf
                      go_wp2_with fail
                      refine (HCP.out).mono ?_; rintro e w5 ⟨rfl, hb5⟩
                      have HB5 := Lib.hid (HBJ.out.trans (hb5.mono hszj))
                      clear hb5 d0 d1 d2 d3 d4 d5 d6 HCP r8 c0
                      go_wp2_with fail
                      go_ret
                      exact ⟨by rw [HX.out] <;> rfl, by rw [HBO.out]; exact HB2.out.trans (HB5.out.mono HSZ.out)⟩
                · as_aux_lemma =>
                    obtain rfl : j = sn := by omega
                    have hlj' : ¬ ((j : Int) < (j : Int)) := by omega
                    have HA3 := Lib.hid (show sl.all plainO = true by rw [HA.out, List.drop_of_length_le (by rw [HSN.out]; omega)]; rfl)
                    have HG3 := Lib.hid (show progE ss = progE (ss.drop (i + 1)) by rw [HG2.out, if_neg h256, if_pos HA3.out])
                    have HM2 := Lib.hid (show M = 15 + t.size + ((ss.take (i + 1)).map szP).sum by
                      rw [HST.out, HM.out, HN.out, List.take_of_length_le (show sl.length ≤ j by rw [HSN.out]; omega)]; omega)
                    clear hlj hbj
                    go_wp2_with fail
                    go_roundw
                    case rel => exact ⟨i + 1, M, by omega, by go_num, rfl, HM2.out, by omega, HG3.out, HBJ.out⟩
                    case measure => (simp [intOf] <;> omega)
        · as_aux_lemma =>
            obtain rfl : i = pn := by omega
            have hlt' : ¬ ((i : Int) < (i : Int)) := by omega
            have HG3 := Lib.hid (show progE ss = 0 by rw [HG.out, List.drop_of_length_le (by rw [HLN.out]; omega)]; rfl)
            have HNN := Lib.hid (show L = N + qn by rw [HLL.out, HN.out, List.take_of_length_le (by rw [HLN.out]; omega)]; omega)
            replace HSC := Lib.hid (show P = if 65535 < qn then 5 else if ps.all (fun q => inR q 0 i) = true then (if 65536 < L then 5 else 0) else 2 by
              rw [HSC.out, if_neg (fun h => h rfl), if_neg (fun h => h rfl), if_neg (fun h => h HG3.out)])
            have r8 := block_cell HOR.out 8
            have r9 := block_cell HOR.out 9
            simp at r8 r9
            have hszr := hbr.size
            by_cases hq5 : 65535 < qn
            · have hq5' : (65535 : Int) < (qn : Int) := by omega
              have HX := Lib.hid (show P = 5 by rw [HSC.out, if_pos hq5])
              clear hlt hbr
              go_wp2_with fail
              go_ret
              exact ⟨by rw [HX.out] <;> rfl, by rw [HBO.out]; exact HB2.out.trans (HBR.out.mono HSZ.out)⟩
            · have hq5' : ¬ ((65535 : Int) < (qn : Int)) := by omega
              have hqn2 : qn ≤ 65535 := by omega
              replace HSC := Lib.hid (show P = if ps.all (fun q => inR q 0 i) = true then (if 65536 < L then 5 else 0) else 2 by rw [HSC.out, if_neg hq5])
              clear hlt hbr hq5
              go_wp2_with fail
              clear r8 r9
              generalize wr = w3 at *
              go_loopw [7] (fun s7 wr => ∃ (k : Nat), k ≤ qn ∧ s7 = .int .i64 k ∧ ps.all (fun q => inR q 0 i) = (ps.drop k).all (fun q => inR q 0 i) ∧ Below w2.heap.size w2 wr) (fun s7 _ => qn - (intOf s7).toNat)
              case atStart => exact ⟨0, Nat.zero_le _, rfl, rfl, HBR.out⟩
              case round =>
                obtain ⟨k, hk, rfl, hA, hbk⟩ := hrel
                have HA := Lib.hid hA
                have HBK := Lib.hid hbk
                have HOK := Lib.hid (block_below hbk HO2.out HLT.out)
                have r9 := block_cell HOK.out 9
                have r2 := block_cell HOK.out 2
                simp at r9 r2
                clear hA
                by_cases hlk : k < qn
                · as_aux_lemma =>
                    have hlk' : (k : Int) < (qn : Int) := by omega
                    have hk0 : (0 : Int) ≤ (k : Int) := by omega
                    have HKL := Lib.hid (show k < ps.length by rw [HQN.out]; exact hlk)
                    obtain ⟨bk, ok, rfl, hbk2, hcl⟩ := HQ2.out.pick hbk hlk
                    have c0 := hcl HKL.out
                    have HA2 := Lib.hid (show ps.all (fun q => inR q 0 i) = (inR (ps[k]'HKL.out) 0 i && (ps.drop (k + 1)).all (fun q => inR q 0 i)) by rw [HA.out, drop_at HKL.out]; rfl)
                    generalize ps[k]'HKL.out = v at *
                    clear hcl hbk
                    by_cases hv0 : v < 0
                    · have HX := Lib.hid (show P = 2 by
                        have e : inR v 0 i = false := by unfold inR; rw [decide_eq_false (by omega)]; rfl
                        rw [HSC.out, HA2.out, e]; rfl)
                      go_wp2_with fail
                      go_quiet (fail)
                      go_wp2_with fail
                      go_ret
                      exact ⟨by rw [HX.out] <;> rfl, by rw [HBO.out]; exact HB2.out.trans ((below_drewN HBK.out _).mono HSZ.out)⟩
                    · have hv0d := decide_eq_false hv0
                      by_cases hv1 : (i : Int) < v
                      · have HX := Lib.hid (show P = 2 by
                          have e : inR v 0 i = false := by unfold inR; rw [decide_eq_false (show ¬ v ≤ (i : Int) by omega), Bool.and_false]
                          rw [HSC.out, HA2.out, e]; rfl)
                        have hv1d := decide_eq_true hv1
                        go_wp2_with fail
                        go_quiet (fail)
                        go_wp2_with fail
                        go_ret
                        exact ⟨by rw [HX.out] <;> rfl, by rw [HBO.out]; exact HB2.out.trans ((below_drewN HBK.out _).mono HSZ.out)⟩
                      · have hv1d := decide_eq_false hv1
                        have HA3 := Lib.hid (show ps.all (fun q => inR q 0 i) = (ps.drop (k + 1)).all (fun q => inR q 0 i) by
                          have e : inR v 0 i = true := by unfold inR; rw [decide_eq_true (by omega), decide_eq_true (by omega)]; rfl
                          rw [HA2.out, e, Bool.true_and])
                        go_wp2_with fail
                        go_quiet (fail)
                        go_wp2_with fail
                        go_roundw
                        case rel => exact ⟨k + 1, by omega, by go_num, HA3.out, below_drewN HBK.out _⟩
                        case measure => (simp [intOf] <;> omega)
                · as_aux_lemma =>
                    have hlk' : ¬ ((k : Int) < (qn : Int)) := by omega
                    have HA3 := Lib.hid (show ps.all (fun q => inR q 0 i) = true by rw [HA.out, List.drop_of_length_le (by rw [HQN.out]; omega)]; rfl)
                    replace HSC := Lib.hid (show P = if 65536 < L then 5 else 0 by rw [HSC.out, if_pos HA3.out])
                    clear hbk
                    by_cases h6 : 65536 < N + qn
                    · have h6' : (65536 : Int) < (N : Int) + (qn : Int) := by omega
                      have HX := Lib.hid (show P = 5 by rw [HSC.out, if_pos (by rw [HNN.out]; exact h6)])
                      go_wp2_with fail
                      go_ret
                      exact ⟨by rw [HX.out] <;> rfl, by rw [HBO.out]; exact HB2.out.trans (HBK.out.mono HSZ.out)⟩
                    · have h6' : ¬ ((65536 : Int) < (N : Int) + (qn : Int)) := by omega
                      have HX := Lib.hid (show P = 0 by rw [HSC.out, if_neg (by rw [HNN.out]; exact h6)])
                      go_wp2_with fail
                      go_ret
                      exact ⟨by rw [HX.out] <;> rfl, by rw [HBO.out]; exact HB2.out.trans (HBK.out.mono HSZ.out)⟩
    · as_aux_lemma =>
      have HX := Lib.hid (show P = 2 by rw [HSC.out, if_neg (fun h => h rfl), if_pos h1])
      go_wp2_with fail
      go_ret
      exact ⟨by rw [HX.out] <;> rfl, by rw [HBO.out]; exact HB2.out⟩
  · as_aux_lemma =>
    have HX := Lib.hid (show P = E by rw [HSC.out, if_pos h0])
    go_wp2_with fail
    go_ret
    exact ⟨by rw [HX.out] <;> rfl, by rw [HBO.out]; exact HB2.out⟩
end Go.Proofs.YtdfkbahlngijcaaDoor

