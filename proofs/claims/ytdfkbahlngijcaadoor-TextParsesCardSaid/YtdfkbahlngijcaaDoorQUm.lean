/- Text: ParseOp of the reference: its walk. (printed by slim.py.) -/
import Derived.Test.YtdfkbahlngijcaaDoorQUl
import Derived.Test.YtdfkbahlngijcaaDoorQKa
import Derived.Deep.CutBlock
import Derived.Deep.CutRange
import Derived.Deep.DeepCutAuto
namespace Go.Proofs.YtdfkbahlngijcaaDoor
open Go.RowKit
set_option linter.unusedVariables false

theorem oC_kind (k : Nat) : oC (kindO k) = #[.int .u8 k, .int .i64 0, .int .i64 0, .int .i64 0, .int .u32 0, .int .u8 0, .string ⟨#[]⟩] := rfl
def kdO (k : Nat) (t : ByteArray) : Ov := ⟨k, 0, 0, 0, 0, 0, t⟩
theorem map_set (V : List Int) (m : Nat) (x : Int) : (V.map (Value.int .i64)).toArray.setIfInBounds m (.int .i64 x) = ((V.set m x).map (Value.int .i64)).toArray := by
  rw [List.setIfInBounds_toArray, List.map_set]
theorem five_iff {k : Nat} (h1 : 1 ≤ k) (h2 : k ≤ 16) : 5 ∈ fldK k ↔ k = 1 := by
  rcases kind_cases h1 h2 with rfl | rfl | rfl | rfl | rfl | rfl | rfl | rfl | rfl | rfl | rfl | rfl | rfl | rfl | rfl | rfl <;> decide
set_option maxRecDepth 100000 in
set_option maxHeartbeats 16000000 in
theorem refParse_any (sl : List UInt8) (w : World) (hs : sl.length ≤ 1000000) :
    Calls Tryd.prog 24 #[.string ⟨sl.toArray⟩] w fun e w' => e = .returned (.tuple #[.agg (oC (parR sl).1), .int .i64 (parR sl).2]) ∧ Below w.heap.size w w' := by
  have HB0 := Lib.hid ((Below.refl w.heap.size w).alloc (Nat.le_refl _) (.cells zC 51))
  have HZ0 := Lib.hid (block_new w (.cells zC 51))
  have HSP := Lib.hid (cut_any ⟨sl.toArray⟩ (w.alloc (.cells zC 51)) (by show sl.toArray.size ≤ _; simpa using hs))
  unfold CutPost at HSP
  rw [show (⟨sl.toArray⟩ : ByteArray).data.toList = sl from List.toList_toArray ..] at HSP
  have hlen := splitW_len sl
  have hcl : sl.count 32 ≤ sl.length := List.count_le_length
  have HWL := Lib.hid (show ∀ wd ∈ splitW sl, wd.length ≤ 1000000 from fun wd hw => by
    have := splitW_word _ wd hw
    omega)
  have HLN := Lib.hid (show (splitW sl).length ≤ 1000001 by omega)
  rcases hws : splitW sl with _ | ⟨w0, wt⟩
  · exact absurd hws (splitW_ne _)
  rw [hws] at HSP HWL HLN
  have HWS := Lib.hid hws
  clear hws hlen hcl
  unfold zC at HB0 HZ0 HSP
  go_enter Tryd.func24, Tryd.ntmps24
  go_wp2_with fail
  refine (HSP.out).mono ?_; rintro e w1 ⟨v4, rfl, hown1, hb1⟩
  obtain ⟨g, cap, rfl, hcq, hg1, hcap⟩ := own_words hown1 (by simp)
  have HCQ := Lib.hid hcq
  have HZ1 := Lib.hid (block_below hb1 HZ0.out (by simp))
  have HB1 := Lib.hid (below_two HB0.out hb1)
  have hw1z : w.heap.size < w1.heap.size := block_lt HZ1.out
  clear hown1 hb1 HSP hcq hcap
  obtain ⟨n, hn⟩ : ∃ n, n = (w0 :: wt).length := ⟨_, rfl⟩
  rw [← hn]
  have HN := Lib.hid hn
  have hn0 : 0 < n := by rw [hn]; simp
  have hnl : n ≤ 1000001 := by rw [hn]; exact HLN.out
  clear hn
  have HOB := Lib.hid (block_new w1 (.cells #[.int .u8 0, .int .i64 0, .int .i64 0, .int .i64 0, .int .u32 0, .int .u8 0, .string ⟨#[]⟩] 51))
  have HBA := Lib.hid ((Below.refl w1.heap.size w1).alloc (Nat.le_refl _) (.cells #[.int .u8 0, .int .i64 0, .int .i64 0, .int .i64 0, .int .u32 0, .int .u8 0, .string ⟨#[]⟩] 51))
  go_upto_region 3 with (fail)
  generalize hw2 : World.alloc w1 _ = w2 at *
  clear hw2
  go_wp2_with fail
  go_loopw [6] (fun s6 wr => ∃ (k kd : Nat), 1 ≤ k ∧ k ≤ 17 ∧ s6 = .int .u8 k ∧ wr.heap[w1.heap.size]? = some (.cells (oC (kindO kd)) 51 (0, 0)) ∧ ((kd = 0 ∧ ∀ j, 1 ≤ j → j < k → nameL j ≠ w0) ∨ (1 ≤ kd ∧ kd ≤ 16 ∧ nameL kd = w0)) ∧ Below w1.heap.size w1 wr) (fun s6 _ => 17 - (intOf s6).toNat)
  case atStart => exact ⟨1, 0, Nat.le_refl _, by omega, rfl, HOB.out, .inl ⟨rfl, fun j h1 h2 => by omega⟩, HBA.out⟩
  case round =>
    obtain ⟨k, kd, hk1, hk17, rfl, hob, hkd, hbr⟩ := hrel
    have HOR := Lib.hid hob
    have HKD := Lib.hid hkd
    have HBR := Lib.hid hbr
    have hszr := hbr.size
    have hgr : g < wr.heap.size := by omega
    have CQ := Lib.hid ((hbr.cell (p := ⟨g, 0, none⟩) hg1).trans (HCQ.out 0 (by simp)))
    have hlo := block_lt hob
    clear hob hkd
    by_cases hk : k ≤ 16
    · have hki : (k : Int) ≤ 16 := by omega
      have HW := Lib.hid (fun u => word_any k hk1 hk u)
      have hwk : IntKind.u8.wrap ((k : Int) + 1) = (k : Int) + 1 := wrap8 _ (by omega) (by omega)
      have HBRr := Lib.hid hbr
      clear hbr
      go_upto_region 6 with (fail)
      refine wp_region_specs (by kernel_rfl) (by decide) (by kernel_rfl) ?_
      simp only [fill, Act.put, List.setIfInBounds_toArray, List.set_cons_zero, List.set_cons_succ, Nat.zero_add, Nat.reduceAdd]
      apply OpsOK.eq
      · intro vs u hb hd
        clear hd
        go_wp2_with fail
        exact ⟨rfl, _, rfl, Below.refl _ _, rfl⟩
      apply OpsOK.eq
      · intro vs u hb hd
        simp [Region.binds] at hd
        have e0 := hd
        clear hd
        simp only [e0]
        go_wp2_with fail
        (refine (HW.out u).mono ?_; rintro e w5 ⟨rfl, hb5⟩; go_wp2_with fail; exact ⟨rfl, _, rfl, hb5, rfl⟩)
      apply OpsOK.eq
      · intro vs u hb hd
        clear hd
        go_wp2_with fail
        exact ⟨rfl, _, rfl, Below.refl _ _, rfl⟩
      apply OpsOK.eq
      · intro vs u hb hd
        simp [Region.binds] at hd
        have e2 := hd
        clear hd
        simp only [e2]
        go_wp2_with fail
        exact ⟨rfl, _, rfl, Below.refl _ _, rfl⟩
      apply OpsOK.eq
      · intro vs u hb hd
        simp [Region.binds] at hd
        have e3 := hd
        clear hd
        simp only [e3]
        have cq : u.cell? ⟨g, 0, none⟩ = some (.string ⟨w0.toArray⟩) := (hb.cell (p := ⟨g, 0, none⟩) hgr).trans CQ.out
        go_wp2_with fail
        exact ⟨rfl, _, rfl, Below.refl _ _, rfl⟩
      apply OpsOK.eq
      · intro vs u hb hd
        simp [Region.binds] at hd
        obtain ⟨e1, e4⟩ := hd
        simp only [e1, e4]
        go_wp2_with fail
        exact ⟨rfl, _, rfl, Below.refl _ _, rfl⟩
      refine OpsOK.done ?_
      intro vs u hbu hS
      have h5 := hS 5 (by decide)
      simp at h5
      simp only [h5]
      clear h5
      clear hS
      have HO5 := Lib.hid (block_below hbu HOR.out hlo)
      have HB5 := Lib.hid (HBRr.out.trans (hbu.mono hszr))
      clear hbu
      by_cases he : nameL k = w0
      · have hself : (nameL k == w0) = true := by rw [he]; simp
        have f0 := block_free HO5.out 0
        have q0 := block_cell HO5.out 0
        simp [oC_kind] at q0
        have HST := Lib.hid (block_setCell HO5.out 0 (.int .u8 k))
        have HKE := Lib.hid (show (oC (kindO kd)).setIfInBounds 0 (.int .u8 k) = oC (kindO k) from rfl)
        have HSB := Lib.hid (HB5.out.setCell (p := ⟨w1.heap.size, 0, none⟩) (Nat.le_refl _) (.int .u8 k))
        have HNE := Lib.hid he
        clear he
        rw [hself]
        go_wp2_with fail
        go_roundw
        case rel => exact ⟨k + 1, k, by omega, by omega, by go_num, by rw [← HKE.out]; exact HST.out, .inr ⟨hk1, hk, HNE.out⟩, HSB.out⟩
        case measure => simp [intOf]; omega
      · have hself : (nameL k == w0) = false := by rw [beq_eq_false_iff_ne]; exact he
        have HKN := Lib.hid (show (kd = 0 ∧ ∀ j, 1 ≤ j → j < k + 1 → nameL j ≠ w0) ∨ (1 ≤ kd ∧ kd ≤ 16 ∧ nameL kd = w0) by
          rcases HKD.out with ⟨h1, h2⟩ | h
          · refine .inl ⟨h1, fun j j1 j2 => ?_⟩
            rcases Nat.lt_or_ge j k with h | h
            · exact h2 j j1 h
            · obtain rfl : j = k := by omega
              exact he
          · exact .inr h)
        clear he
        rw [hself]
        go_wp2_with fail
        go_roundw
        case rel => exact ⟨k + 1, kd, by omega, by omega, by go_num, HO5.out, HKN.out, HB5.out⟩
        case measure => simp [intOf]; omega
    · have hki : ¬ ((k : Int) ≤ 16) := by omega
      have HZR := Lib.hid (block_below hbr HZ1.out hw1z)
      have HBW := Lib.hid (HB1.out.trans (hbr.mono HB1.out.size))
      have q0 := block_cell HOR.out 0
      simp [oC_kind] at q0
      rcases HKD.out with ⟨hkd0, hno⟩ | ⟨hd1, hd2, hnm⟩
      · have HR := Lib.hid (show parR sl = (zeroO, 4) from parR_none (no_name HWS.out fun j h1 h2 => hno j h1 (by omega)))
        subst hkd0
        clear hno hbr HKD
        (have q0 := block_cell HZR.out 0; have q1 := block_cell HZR.out 1; have q2 := block_cell HZR.out 2; have q3 := block_cell HZR.out 3; have q4 := block_cell HZR.out 4; have q5 := block_cell HZR.out 5; have q6 := block_cell HZR.out 6; have f0 := block_free HZR.out 0; have f1 := block_free HZR.out 1; have f2 := block_free HZR.out 2; have f3 := block_free HZR.out 3; have f4 := block_free HZR.out 4; have f5 := block_free HZR.out 5; have f6 := block_free HZR.out 6; have hz := block_lt HZR.out; simp at q0 q1 q2 q3 q4 q5 q6)
        go_wp2_with fail
        exact bodyPost_ret (res7_tmp Tryd.results24 (Tryd.isAgg51 _) (Tryd.sizeOf51 _) rfl (set7 HZR.out _ _ _ _ _ _ _)) rfl ⟨by rw [HR.out] <;> rfl, set7_below HBW.out (Nat.le_refl _) _ _ _ _ _ _ _⟩
      · have hd0 : ((kd : Int) == 0) = false := by rw [beq_eq_false_iff_ne]; omega
        have hd0n : ¬ ((kd : Int) = 0) := by omega
        have HWS2 := Lib.hid (show splitW sl = nameL kd :: wt by rw [HWS.out, hnm])
        have HU := Lib.hid (fun u => uses_any kd hd1 hd2 u)
        clear hnm HKD hk hk1 hk17 hbr
        go_wp2_with fail
        refine (HU.out wr).mono ?_; rintro e w3 ⟨rfl, hb3⟩
        have HO3 := Lib.hid (block_below hb3 HOR.out hlo)
        have HB3 := Lib.hid (HBR.out.trans (hb3.mono hszr))
        have hsz3 := hb3.size
        clear hb3 q0
        obtain ⟨five, hfive⟩ : ∃ b : Bool, b = decide (5 ∈ fldK kd) := ⟨_, rfl⟩
        have HFI := Lib.hid (show five = true ↔ kd = 1 by rw [hfive, decide_eq_true_iff]; exact five_iff hd1 hd2)
        obtain ⟨u0, u1, u2, u3, u4, hua⟩ : ∃ u0 u1 u2 u3 u4 : Bool, usesA kd = #[.bool u0, .bool u1, .bool u2, .bool u3, .bool u4, .bool five] := ⟨_, _, _, _, _, by unfold usesA; rw [hfive]⟩
        rw [hua]
        clear hua hfive
        have HU4 := Lib.hid (block_new w3 (.cells #[.bool u0, .bool u1, .bool u2, .bool u3, .bool u4, .bool five] 104))
        have HO4 := Lib.hid (block_alloc HO3.out (.cells #[.bool u0, .bool u1, .bool u2, .bool u3, .bool u4, .bool five] 104))
        have HB4 := Lib.hid (HB3.out.alloc (by omega) (.cells #[.bool u0, .bool u1, .bool u2, .bool u3, .bool u4, .bool five] 104))
        have hsz4 : (w3.alloc (.cells #[.bool u0, .bool u1, .bool u2, .bool u3, .bool u4, .bool five] 104)).heap.size = w3.heap.size + 1 := World.size_alloc _ _
        go_upto_region 11 with (fail)
        generalize hw4 : World.alloc w3 _ = w4 at *
        clear hw4
        have HV5 := Lib.hid (block_new w4 (.cells #[.int .i64 0, .int .i64 0, .int .i64 0, .int .i64 0, .int .i64 0, .int .i64 0] 112))
        have HU5 := Lib.hid (block_alloc HU4.out (.cells #[.int .i64 0, .int .i64 0, .int .i64 0, .int .i64 0, .int .i64 0, .int .i64 0] 112))
        have HO5 := Lib.hid (block_alloc HO4.out (.cells #[.int .i64 0, .int .i64 0, .int .i64 0, .int .i64 0, .int .i64 0, .int .i64 0] 112))
        have HB5 := Lib.hid (HB4.out.alloc (by omega) (.cells #[.int .i64 0, .int .i64 0, .int .i64 0, .int .i64 0, .int .i64 0, .int .i64 0] 112))
        rw [hsz4] at HV5
        have HSZ4 := Lib.hid hsz4
        go_upto_region 12 with (fail)
        generalize hw5 : World.alloc w4 _ = w5 at *
        clear hw5 hsz4
        go_wp2_with fail
        have HV5 := Lib.hid (show w5.heap[w3.heap.size + 1]? = some (.cells (([0, 0, 0, 0, 0, 0] : List Int).map (Value.int .i64)).toArray 112 (0, 0)) from HV5.out)
        obtain ⟨b1, hb1e⟩ : ∃ b1, b1 = w1.heap.size := ⟨_, rfl⟩
        obtain ⟨b2, hb2e⟩ : ∃ b2, b2 = w3.heap.size := ⟨_, rfl⟩
        rw [← hb1e, ← hb2e]
        rw [← hb1e] at HB5 HO5
        rw [← hb2e] at HU5 HV5
        have hb12 : b1 < b2 := by omega
        have hwb1 : w.heap.size < b1 := by omega
        have hgb1 : g < b1 := by omega
        have HBE := Lib.hid hb1e
        clear hb1e hb2e
        generalize hwq : wr = wr0 at *
        clear hwq
        go_loopw [9, 10] (fun s9 s10 wq => ∃ (i m : Nat) (V : List Int) (t : ByteArray), s9 = .int .i64 m ∧ s10 = .int .i64 i ∧ RdInv kd wt i m V t ∧ wq.heap[b1]? = some (.cells (oC (kdO kd t)) 51 (0, 0)) ∧
          wq.heap[b2]? = some (.cells #[.bool u0, .bool u1, .bool u2, .bool u3, .bool u4, .bool five] 104 (0, 0)) ∧ wq.heap[b2 + 1]? = some (.cells (V.map (Value.int .i64)).toArray 112 (0, 0)) ∧ Below b1 w1 wq) (fun _ s10 _ => n + 1 - (intOf s10).toNat)
        case atStart => exact ⟨1, 0, _, _, rfl, rfl, RdInv.start kd wt, HO5.out, HU5.out, HV5.out, HB5.out⟩
        case round =>
          obtain ⟨i, m, V, t, rfl, rfl, hrd, hob, hub, hvb, hbq⟩ := hrel
          have HRD := Lib.hid hrd
          have HOB2 := Lib.hid hob
          have HUB := Lib.hid hub
          have HVB := Lib.hid hvb
          have HBQ := Lib.hid hbq
          have hi1 := hrd.i1
          have hm6 := hrd.n6
          have hszq := hbq.size
          have hlob := block_lt hob
          have hlub := block_lt hub
          have hlvb := block_lt hvb
          have HZQ := Lib.hid (block_below hbq HZ1.out hwb1)
          have HBWQ := Lib.hid (HB1.out.trans (hbq.mono (show w.heap.size ≤ b1 by omega)))
          have hNW : n = wt.length + 1 := by rw [HN.out]; rfl
          have HNW := Lib.hid hNW
          clear hNW
          obtain ⟨p, hp⟩ : ∃ b : Bool, b = decide ((i : Int) < (n : Int)) := ⟨_, rfl⟩
          obtain ⟨c, hc⟩ : ∃ b : Bool, b = (p && decide ((m : Int) < 6)) := ⟨_, rfl⟩
          have HP := Lib.hid hp
          have HC := Lib.hid hc
          have HCT := Lib.hid (show c = true → i < n ∧ m < 6 from fun h => by
            rw [h, hp] at hc
            simp at hc
            omega)
          have HCF := Lib.hid (show c = false → i = wt.length + 1 ∨ 6 ≤ m from fun h => by
            rw [h, hp] at hc
            simp at hc
            have := hrd.iw
            have := HNW.out
            rcases Nat.lt_or_ge i n with q | q
            · exact .inr (by have := hc q; omega)
            · exact .inl (by omega))
          clear hp hc
          go_upto_region 14 with (fail)
          refine wp_region_seq0 (by decide) (by kernel_rfl) ?_
          simp only [fill, Act.put, List.setIfInBounds_toArray, List.set_cons_zero, List.set_cons_succ, Nat.zero_add, Nat.reduceAdd]
          apply OpsOK0.eq
          · intro vs hd
            clear hd
            go_wp2_with fail
            exact ⟨rfl, _, rfl, rfl, rfl⟩
          apply OpsOK0.eq
          · intro vs hd
            clear hd
            go_wp2_with fail
            exact ⟨rfl, _, rfl, rfl, rfl⟩
          apply OpsOK0.eq
          · intro vs hd
            have e1 := hd ⟨1, .data⟩ (by simp) (by decide)
            clear hd
            (try simp at e1)
            (try simp only [e1])
            go_wp2_with fail
            exact ⟨rfl, _, rfl, rfl, rfl⟩
          apply OpsOK0.ceq (.bool p)
          · intro vs hd
            have e0 := hd ⟨0, .data⟩ (by simp) (by decide)
            have e2 := hd ⟨2, .data⟩ (by simp) (by decide)
            clear hd
            (try simp at e0)
            (try simp only [e0])
            (try simp at e2)
            (try simp only [e2])
            go_wp2_with fail
            exact ⟨rfl, _, rfl, rfl, by rw [HP.out] <;> first | rfl | simp⟩
          apply OpsOK0.eq
          · intro vs hd
            have e3 := hd ⟨3, .data⟩ (by simp) (by decide)
            clear hd
            (try simp at e3)
            (try simp only [e3])
            go_wp2_with fail
            exact ⟨rfl, _, rfl, rfl, rfl⟩
          apply OpsOK0.geq (p = true)
          · intro vs hd
            have e4 := hd ⟨4, .guard⟩ (by simp) (by decide)
            clear hd
            rcases p with _ | _
            all_goals
              (try simp at e4)
              (try simp only [e4])
              go_wp2_with fail
              first | exact ⟨rfl, undef, rfl, rfl, fun h => (by simp at h)⟩ | exact ⟨rfl, _, rfl, rfl, fun _ => rfl⟩
          apply OpsOK0.geq (p = true)
          · intro vs hd
            have e5 := hd ⟨5, .data⟩ (by simp) (by decide)
            have e4 := hd ⟨4, .guard⟩ (by simp) (by decide)
            clear hd
            rcases p with _ | _
            all_goals
              (try simp at e5)
              (try simp only [e5])
              (try simp at e4)
              (try simp only [e4])
              go_wp2_with fail
              first | exact ⟨rfl, undef, rfl, rfl, fun h => (by simp at h)⟩ | exact ⟨rfl, _, rfl, rfl, fun _ => rfl⟩
          apply OpsOK0.ceq (.bool c)
          · intro vs hd
            have e4 := hd ⟨4, .data⟩ (by simp) (by decide)
            have e6 := hd ⟨6, .data⟩ (by simp) (by decide)
            clear hd
            rcases p with _ | _
            all_goals
              (try simp at e4)
              (try simp only [e4])
              (try simp at e6)
              (try simp only [e6])
              go_wp2_with fail
              exact ⟨rfl, _, rfl, rfl, by rw [HC.out] <;> first | rfl | simp⟩
          refine OpsOK0.done ?_
          intro vs hS
          have h7 := hS 7 (by decide)
          simp at h7
          simp only [h7]
          clear h7
          clear hS
          rcases c with _ | _
          · have HEX := Lib.hid (HCF.out rfl)
            clear HC HCT HCF HP
            have hl0 : 0 < V.length := by rw [hrd.len]; decide
            have hl1 : 1 < V.length := by rw [hrd.len]; decide
            have hl2 : 2 < V.length := by rw [hrd.len]; decide
            have HMD := Lib.hid (fun y hy => hrd.made hd1 hd2 HWS2.out (y := y) hy HEX.out hl0 hl1 hl2)
            have cv0 := block_cell hvb 0
            have cv1 := block_cell hvb 1
            have cv2 := block_cell hvb 2
            rw [List.getElem?_toArray, List.getElem?_map, List.getElem?_eq_getElem hl0, Option.map_some] at cv0
            rw [List.getElem?_toArray, List.getElem?_map, List.getElem?_eq_getElem hl1, Option.map_some] at cv1
            rw [List.getElem?_toArray, List.getElem?_map, List.getElem?_eq_getElem hl2, Option.map_some] at cv2
            have HTL := Lib.hid hrd.tl
            generalize V[0] = v0 at *
            generalize V[1] = v1 at *
            generalize V[2] = v2 at *
            have CV0 := Lib.hid cv0
            have CV1 := Lib.hid cv1
            have CV2 := Lib.hid cv2
            have q0 := block_cell hob 0
            simp [oC, kdO] at q0
            clear hrd hob hub hvb hbq hl0 hl1 hl2 cv0 cv1 cv2
            go_upto_block 4 with (fail)
            go_cut [] from 85 to 160 (fun wq => wq.heap[b1]? = some (.cells (oC (finO kd v0 v1 v2 t)) 51 (0, 0)) ∧ Below b1 w1 wq)
            case first =>
              rcases kind_cases hd1 hd2 with hk | hk | hk | hk | hk | hk | hk | hk | hk | hk | hk | hk | hk | hk | hk | hk
              · have HT := Lib.hid (show ((kd : Int) == 1) = true by rw [beq_iff_eq]; omega)
                have HF := Lib.hid (show oC (finO kd v0 v1 v2 t) = (oC (kdO kd t)).setIfInBounds 2 (.int .i64 v0) by rw [hk]; rfl)
                clear hk
                have f2 := block_free HOB2.out 2
                have c2 := block_cell HOB2.out 2
                simp [oC, kdO] at c2
                have cv0 := CV0.out
                go_upto_if 85 with (fail)
                rw [HT.out]
                go_wp2_with fail
                go_meet
                case rel => exact ⟨by rw [HF.out]; exact (block_setCell HOB2.out 2 _), (HBQ.out.setCell (p := ⟨b1, 2, none⟩) (Nat.le_refl _) _)⟩
              · have HT := Lib.hid (show ((kd : Int) == 2) = true by rw [beq_iff_eq]; omega)
                have n1 : ((kd : Int) == 1) = false := by rw [beq_eq_false_iff_ne]; omega
                have m1 : ¬ ((kd : Int) = 1) := by omega
                have HF := Lib.hid (show oC (finO kd v0 v1 v2 t) = ((oC (kdO kd t)).setIfInBounds 2 (.int .i64 v0)).setIfInBounds 3 (.int .i64 v1) by rw [hk]; rfl)
                clear hk
                have f2 := block_free HOB2.out 2
                have c2 := block_cell HOB2.out 2
                simp [oC, kdO] at c2
                have f3 := block_free HOB2.out 3
                have c3 := block_cell HOB2.out 3
                simp [oC, kdO] at c3
                have cv0 := CV0.out
                have cv1 := CV1.out
                go_upto_if 90 with (fail)
                rw [HT.out]
                go_upto_region 30 with (fail)
                go_region
                go_wp2_with fail
                go_meet
                case rel => exact ⟨by rw [HF.out]; exact (block_setCell (block_setCell HOB2.out 2 _) 3 _), (((HBQ.out.setCell (p := ⟨b1, 2, none⟩) (Nat.le_refl _) _).setCell (p := ⟨b1, 3, none⟩) (Nat.le_refl _) _)).drew⟩
              · have HT := Lib.hid (show ((kd : Int) == 3) = true by rw [beq_iff_eq]; omega)
                have n1 : ((kd : Int) == 1) = false := by rw [beq_eq_false_iff_ne]; omega
                have m1 : ¬ ((kd : Int) = 1) := by omega
                have n2 : ((kd : Int) == 2) = false := by rw [beq_eq_false_iff_ne]; omega
                have m2 : ¬ ((kd : Int) = 2) := by omega
                have HF := Lib.hid (show oC (finO kd v0 v1 v2 t) = (((oC (kdO kd t)).setIfInBounds 4 (.int .u32 (v0 % 4294967296))).setIfInBounds 2 (.int .i64 v1)).setIfInBounds 5 (.int .u8 (v2 % 256)) by rw [hk]; rfl)
                clear hk
                have f4 := block_free HOB2.out 4
                have c4 := block_cell HOB2.out 4
                simp [oC, kdO] at c4
                have f2 := block_free HOB2.out 2
                have c2 := block_cell HOB2.out 2
                simp [oC, kdO] at c2
                have f5 := block_free HOB2.out 5
                have c5 := block_cell HOB2.out 5
                simp [oC, kdO] at c5
                have cv0 := CV0.out
                have cv1 := CV1.out
                have cv2 := CV2.out
                go_upto_if 98 with (fail)
                rw [HT.out]
                go_upto_region 32 with (fail)
                go_region
                go_wp2_with fail
                go_meet
                case rel => exact ⟨by rw [HF.out]; exact (block_setCell (block_setCell (block_setCell HOB2.out 4 _) 2 _) 5 _), ((((HBQ.out.setCell (p := ⟨b1, 4, none⟩) (Nat.le_refl _) _).setCell (p := ⟨b1, 2, none⟩) (Nat.le_refl _) _).setCell (p := ⟨b1, 5, none⟩) (Nat.le_refl _) _)).drew⟩
              · have HT := Lib.hid (show ((kd : Int) == 4) = true by rw [beq_iff_eq]; omega)
                have n1 : ((kd : Int) == 1) = false := by rw [beq_eq_false_iff_ne]; omega
                have m1 : ¬ ((kd : Int) = 1) := by omega
                have n2 : ((kd : Int) == 2) = false := by rw [beq_eq_false_iff_ne]; omega
                have m2 : ¬ ((kd : Int) = 2) := by omega
                have n3 : ((kd : Int) == 3) = false := by rw [beq_eq_false_iff_ne]; omega
                have m3 : ¬ ((kd : Int) = 3) := by omega
                have HF := Lib.hid (show oC (finO kd v0 v1 v2 t) = (oC (kdO kd t)).setIfInBounds 4 (.int .u32 (v0 % 4294967296)) by rw [hk]; rfl)
                clear hk
                have f4 := block_free HOB2.out 4
                have c4 := block_cell HOB2.out 4
                simp [oC, kdO] at c4
                have cv0 := CV0.out
                go_upto_if 111 with (fail)
                rw [HT.out]
                go_wp2_with fail
                go_meet
                case rel => exact ⟨by rw [HF.out]; exact (block_setCell HOB2.out 4 _), (HBQ.out.setCell (p := ⟨b1, 4, none⟩) (Nat.le_refl _) _)⟩
              · skip
                have n1 : ((kd : Int) == 1) = false := by rw [beq_eq_false_iff_ne]; omega
                have m1 : ¬ ((kd : Int) = 1) := by omega
                have n2 : ((kd : Int) == 2) = false := by rw [beq_eq_false_iff_ne]; omega
                have m2 : ¬ ((kd : Int) = 2) := by omega
                have n3 : ((kd : Int) == 3) = false := by rw [beq_eq_false_iff_ne]; omega
                have m3 : ¬ ((kd : Int) = 3) := by omega
                have n4 : ((kd : Int) == 4) = false := by rw [beq_eq_false_iff_ne]; omega
                have m4 : ¬ ((kd : Int) = 4) := by omega
                have n7 : ((kd : Int) == 7) = false := by rw [beq_eq_false_iff_ne]; omega
                have m7 : ¬ ((kd : Int) = 7) := by omega
                have n8 : ((kd : Int) == 8) = false := by rw [beq_eq_false_iff_ne]; omega
                have m8 : ¬ ((kd : Int) = 8) := by omega
                have n9 : ((kd : Int) == 9) = false := by rw [beq_eq_false_iff_ne]; omega
                have m9 : ¬ ((kd : Int) = 9) := by omega
                have n12 : ((kd : Int) == 12) = false := by rw [beq_eq_false_iff_ne]; omega
                have m12 : ¬ ((kd : Int) = 12) := by omega
                have n10 : ((kd : Int) == 10) = false := by rw [beq_eq_false_iff_ne]; omega
                have m10 : ¬ ((kd : Int) = 10) := by omega
                have n11 : ((kd : Int) == 11) = false := by rw [beq_eq_false_iff_ne]; omega
                have m11 : ¬ ((kd : Int) = 11) := by omega
                have n6 : ((kd : Int) == 6) = false := by rw [beq_eq_false_iff_ne]; omega
                have m6 : ¬ ((kd : Int) = 6) := by omega
                have n13 : ((kd : Int) == 13) = false := by rw [beq_eq_false_iff_ne]; omega
                have m13 : ¬ ((kd : Int) = 13) := by omega
                have HF := Lib.hid (show oC (finO kd v0 v1 v2 t) = oC (kdO kd t) by rw [hk]; rfl)
                clear hk
                go_wp2_with fail
                go_meet
                case rel => exact ⟨by rw [HF.out]; exact HOB2.out, HBQ.out⟩
              · have HT := Lib.hid (show ((kd : Int) == 6) = true by rw [beq_iff_eq]; omega)
                have n1 : ((kd : Int) == 1) = false := by rw [beq_eq_false_iff_ne]; omega
                have m1 : ¬ ((kd : Int) = 1) := by omega
                have n2 : ((kd : Int) == 2) = false := by rw [beq_eq_false_iff_ne]; omega
                have m2 : ¬ ((kd : Int) = 2) := by omega
                have n3 : ((kd : Int) == 3) = false := by rw [beq_eq_false_iff_ne]; omega
                have m3 : ¬ ((kd : Int) = 3) := by omega
                have n4 : ((kd : Int) == 4) = false := by rw [beq_eq_false_iff_ne]; omega
                have m4 : ¬ ((kd : Int) = 4) := by omega
                have n7 : ((kd : Int) == 7) = false := by rw [beq_eq_false_iff_ne]; omega
                have m7 : ¬ ((kd : Int) = 7) := by omega
                have n8 : ((kd : Int) == 8) = false := by rw [beq_eq_false_iff_ne]; omega
                have m8 : ¬ ((kd : Int) = 8) := by omega
                have n9 : ((kd : Int) == 9) = false := by rw [beq_eq_false_iff_ne]; omega
                have m9 : ¬ ((kd : Int) = 9) := by omega
                have n12 : ((kd : Int) == 12) = false := by rw [beq_eq_false_iff_ne]; omega
                have m12 : ¬ ((kd : Int) = 12) := by omega
                have n10 : ((kd : Int) == 10) = false := by rw [beq_eq_false_iff_ne]; omega
                have m10 : ¬ ((kd : Int) = 10) := by omega
                have n11 : ((kd : Int) == 11) = false := by rw [beq_eq_false_iff_ne]; omega
                have m11 : ¬ ((kd : Int) = 11) := by omega
                have HF := Lib.hid (show oC (finO kd v0 v1 v2 t) = (oC (kdO kd t)).setIfInBounds 1 (.int .i64 v0) by rw [hk]; rfl)
                clear hk
                have f1 := block_free HOB2.out 1
                have c1 := block_cell HOB2.out 1
                simp [oC, kdO] at c1
                have cv0 := CV0.out
                go_upto_if 155 with (fail)
                rw [HT.out]
                go_wp2_with fail
                go_meet
                case rel => exact ⟨by rw [HF.out]; exact (block_setCell HOB2.out 1 _), (HBQ.out.setCell (p := ⟨b1, 1, none⟩) (Nat.le_refl _) _)⟩
              · have HT := Lib.hid (show ((kd : Int) == 7) = true by rw [beq_iff_eq]; omega)
                have n1 : ((kd : Int) == 1) = false := by rw [beq_eq_false_iff_ne]; omega
                have m1 : ¬ ((kd : Int) = 1) := by omega
                have n2 : ((kd : Int) == 2) = false := by rw [beq_eq_false_iff_ne]; omega
                have m2 : ¬ ((kd : Int) = 2) := by omega
                have n3 : ((kd : Int) == 3) = false := by rw [beq_eq_false_iff_ne]; omega
                have m3 : ¬ ((kd : Int) = 3) := by omega
                have n4 : ((kd : Int) == 4) = false := by rw [beq_eq_false_iff_ne]; omega
                have m4 : ¬ ((kd : Int) = 4) := by omega
                have HF := Lib.hid (show oC (finO kd v0 v1 v2 t) = (((oC (kdO kd t)).setIfInBounds 1 (.int .i64 v0)).setIfInBounds 2 (.int .i64 v1)).setIfInBounds 3 (.int .i64 v2) by rw [hk]; rfl)
                clear hk
                have f1 := block_free HOB2.out 1
                have c1 := block_cell HOB2.out 1
                simp [oC, kdO] at c1
                have f2 := block_free HOB2.out 2
                have c2 := block_cell HOB2.out 2
                simp [oC, kdO] at c2
                have f3 := block_free HOB2.out 3
                have c3 := block_cell HOB2.out 3
                simp [oC, kdO] at c3
                have cv0 := CV0.out
                have cv1 := CV1.out
                have cv2 := CV2.out
                go_upto_if 117 with (fail)
                rw [HT.out]
                go_upto_region 36 with (fail)
                go_region
                go_wp2_with fail
                go_meet
                case rel => exact ⟨by rw [HF.out]; exact (block_setCell (block_setCell (block_setCell HOB2.out 1 _) 2 _) 3 _), ((((HBQ.out.setCell (p := ⟨b1, 1, none⟩) (Nat.le_refl _) _).setCell (p := ⟨b1, 2, none⟩) (Nat.le_refl _) _).setCell (p := ⟨b1, 3, none⟩) (Nat.le_refl _) _)).drew⟩
              · have HT := Lib.hid (show ((kd : Int) == 8) = true by rw [beq_iff_eq]; omega)
                have n1 : ((kd : Int) == 1) = false := by rw [beq_eq_false_iff_ne]; omega
                have m1 : ¬ ((kd : Int) = 1) := by omega
                have n2 : ((kd : Int) == 2) = false := by rw [beq_eq_false_iff_ne]; omega
                have m2 : ¬ ((kd : Int) = 2) := by omega
                have n3 : ((kd : Int) == 3) = false := by rw [beq_eq_false_iff_ne]; omega
                have m3 : ¬ ((kd : Int) = 3) := by omega
                have n4 : ((kd : Int) == 4) = false := by rw [beq_eq_false_iff_ne]; omega
                have m4 : ¬ ((kd : Int) = 4) := by omega
                have n7 : ((kd : Int) == 7) = false := by rw [beq_eq_false_iff_ne]; omega
                have m7 : ¬ ((kd : Int) = 7) := by omega
                have HF := Lib.hid (show oC (finO kd v0 v1 v2 t) = ((oC (kdO kd t)).setIfInBounds 1 (.int .i64 v0)).setIfInBounds 3 (.int .i64 v1) by rw [hk]; rfl)
                clear hk
                have f1 := block_free HOB2.out 1
                have c1 := block_cell HOB2.out 1
                simp [oC, kdO] at c1
                have f3 := block_free HOB2.out 3
                have c3 := block_cell HOB2.out 3
                simp [oC, kdO] at c3
                have cv0 := CV0.out
                have cv1 := CV1.out
                go_upto_if 128 with (fail)
                rw [HT.out]
                go_upto_region 40 with (fail)
                go_region
                go_wp2_with fail
                go_meet
                case rel => exact ⟨by rw [HF.out]; exact (block_setCell (block_setCell HOB2.out 1 _) 3 _), (((HBQ.out.setCell (p := ⟨b1, 1, none⟩) (Nat.le_refl _) _).setCell (p := ⟨b1, 3, none⟩) (Nat.le_refl _) _)).drew⟩
              · have HT := Lib.hid (show ((kd : Int) == 9) = true by rw [beq_iff_eq]; omega)
                have n1 : ((kd : Int) == 1) = false := by rw [beq_eq_false_iff_ne]; omega
                have m1 : ¬ ((kd : Int) = 1) := by omega
                have n2 : ((kd : Int) == 2) = false := by rw [beq_eq_false_iff_ne]; omega
                have m2 : ¬ ((kd : Int) = 2) := by omega
                have n3 : ((kd : Int) == 3) = false := by rw [beq_eq_false_iff_ne]; omega
                have m3 : ¬ ((kd : Int) = 3) := by omega
                have n4 : ((kd : Int) == 4) = false := by rw [beq_eq_false_iff_ne]; omega
                have m4 : ¬ ((kd : Int) = 4) := by omega
                have n7 : ((kd : Int) == 7) = false := by rw [beq_eq_false_iff_ne]; omega
                have m7 : ¬ ((kd : Int) = 7) := by omega
                have n8 : ((kd : Int) == 8) = false := by rw [beq_eq_false_iff_ne]; omega
                have m8 : ¬ ((kd : Int) = 8) := by omega
                have HF := Lib.hid (show oC (finO kd v0 v1 v2 t) = ((oC (kdO kd t)).setIfInBounds 1 (.int .i64 v0)).setIfInBounds 3 (.int .i64 v1) by rw [hk]; rfl)
                clear hk
                have f1 := block_free HOB2.out 1
                have c1 := block_cell HOB2.out 1
                simp [oC, kdO] at c1
                have f3 := block_free HOB2.out 3
                have c3 := block_cell HOB2.out 3
                simp [oC, kdO] at c3
                have cv0 := CV0.out
                have cv1 := CV1.out
                go_upto_region 38 with (fail)
                go_upto_if 128 with (fail)
                rw [HT.out]
                go_upto_region 40 with (fail)
                go_region
                go_wp2_with fail
                go_meet
                case rel => exact ⟨by rw [HF.out]; exact (block_setCell (block_setCell HOB2.out 1 _) 3 _), (((HBQ.out.setCell (p := ⟨b1, 1, none⟩) (Nat.le_refl _) _).setCell (p := ⟨b1, 3, none⟩) (Nat.le_refl _) _)).drew⟩
              · have HT := Lib.hid (show ((kd : Int) == 10) = true by rw [beq_iff_eq]; omega)
                have n1 : ((kd : Int) == 1) = false := by rw [beq_eq_false_iff_ne]; omega
                have m1 : ¬ ((kd : Int) = 1) := by omega
                have n2 : ((kd : Int) == 2) = false := by rw [beq_eq_false_iff_ne]; omega
                have m2 : ¬ ((kd : Int) = 2) := by omega
                have n3 : ((kd : Int) == 3) = false := by rw [beq_eq_false_iff_ne]; omega
                have m3 : ¬ ((kd : Int) = 3) := by omega
                have n4 : ((kd : Int) == 4) = false := by rw [beq_eq_false_iff_ne]; omega
                have m4 : ¬ ((kd : Int) = 4) := by omega
                have n7 : ((kd : Int) == 7) = false := by rw [beq_eq_false_iff_ne]; omega
                have m7 : ¬ ((kd : Int) = 7) := by omega
                have n8 : ((kd : Int) == 8) = false := by rw [beq_eq_false_iff_ne]; omega
                have m8 : ¬ ((kd : Int) = 8) := by omega
                have n9 : ((kd : Int) == 9) = false := by rw [beq_eq_false_iff_ne]; omega
                have m9 : ¬ ((kd : Int) = 9) := by omega
                have n12 : ((kd : Int) == 12) = false := by rw [beq_eq_false_iff_ne]; omega
                have m12 : ¬ ((kd : Int) = 12) := by omega
                have HF := Lib.hid (show oC (finO kd v0 v1 v2 t) = ((oC (kdO kd t)).setIfInBounds 1 (.int .i64 v0)).setIfInBounds 4 (.int .u32 (v1 % 4294967296)) by rw [hk]; rfl)
                clear hk
                have f1 := block_free HOB2.out 1
                have c1 := block_cell HOB2.out 1
                simp [oC, kdO] at c1
                have f4 := block_free HOB2.out 4
                have c4 := block_cell HOB2.out 4
                simp [oC, kdO] at c4
                have cv0 := CV0.out
                have cv1 := CV1.out
                go_upto_if 138 with (fail)
                rw [HT.out]
                go_upto_region 42 with (fail)
                go_region
                go_wp2_with fail
                go_meet
                case rel => exact ⟨by rw [HF.out]; exact (block_setCell (block_setCell HOB2.out 1 _) 4 _), (((HBQ.out.setCell (p := ⟨b1, 1, none⟩) (Nat.le_refl _) _).setCell (p := ⟨b1, 4, none⟩) (Nat.le_refl _) _)).drew⟩
              · have HT := Lib.hid (show ((kd : Int) == 11) = true by rw [beq_iff_eq]; omega)
                have n1 : ((kd : Int) == 1) = false := by rw [beq_eq_false_iff_ne]; omega
                have m1 : ¬ ((kd : Int) = 1) := by omega
                have n2 : ((kd : Int) == 2) = false := by rw [beq_eq_false_iff_ne]; omega
                have m2 : ¬ ((kd : Int) = 2) := by omega
                have n3 : ((kd : Int) == 3) = false := by rw [beq_eq_false_iff_ne]; omega
                have m3 : ¬ ((kd : Int) = 3) := by omega
                have n4 : ((kd : Int) == 4) = false := by rw [beq_eq_false_iff_ne]; omega
                have m4 : ¬ ((kd : Int) = 4) := by omega
                have n7 : ((kd : Int) == 7) = false := by rw [beq_eq_false_iff_ne]; omega
                have m7 : ¬ ((kd : Int) = 7) := by omega
                have n8 : ((kd : Int) == 8) = false := by rw [beq_eq_false_iff_ne]; omega
                have m8 : ¬ ((kd : Int) = 8) := by omega
                have n9 : ((kd : Int) == 9) = false := by rw [beq_eq_false_iff_ne]; omega
                have m9 : ¬ ((kd : Int) = 9) := by omega
                have n12 : ((kd : Int) == 12) = false := by rw [beq_eq_false_iff_ne]; omega
                have m12 : ¬ ((kd : Int) = 12) := by omega
                have n10 : ((kd : Int) == 10) = false := by rw [beq_eq_false_iff_ne]; omega
                have m10 : ¬ ((kd : Int) = 10) := by omega
                have HF := Lib.hid (show oC (finO kd v0 v1 v2 t) = ((oC (kdO kd t)).setIfInBounds 1 (.int .i64 v0)).setIfInBounds 2 (.int .i64 v1) by rw [hk]; rfl)
                clear hk
                have f1 := block_free HOB2.out 1
                have c1 := block_cell HOB2.out 1
                simp [oC, kdO] at c1
                have f2 := block_free HOB2.out 2
                have c2 := block_cell HOB2.out 2
                simp [oC, kdO] at c2
                have cv0 := CV0.out
                have cv1 := CV1.out
                go_upto_if 147 with (fail)
                rw [HT.out]
                go_upto_region 44 with (fail)
                go_region
                go_wp2_with fail
                go_meet
                case rel => exact ⟨by rw [HF.out]; exact (block_setCell (block_setCell HOB2.out 1 _) 2 _), (((HBQ.out.setCell (p := ⟨b1, 1, none⟩) (Nat.le_refl _) _).setCell (p := ⟨b1, 2, none⟩) (Nat.le_refl _) _)).drew⟩
              · have HT := Lib.hid (show ((kd : Int) == 12) = true by rw [beq_iff_eq]; omega)
                have n1 : ((kd : Int) == 1) = false := by rw [beq_eq_false_iff_ne]; omega
                have m1 : ¬ ((kd : Int) = 1) := by omega
                have n2 : ((kd : Int) == 2) = false := by rw [beq_eq_false_iff_ne]; omega
                have m2 : ¬ ((kd : Int) = 2) := by omega
                have n3 : ((kd : Int) == 3) = false := by rw [beq_eq_false_iff_ne]; omega
                have m3 : ¬ ((kd : Int) = 3) := by omega
                have n4 : ((kd : Int) == 4) = false := by rw [beq_eq_false_iff_ne]; omega
                have m4 : ¬ ((kd : Int) = 4) := by omega
                have n7 : ((kd : Int) == 7) = false := by rw [beq_eq_false_iff_ne]; omega
                have m7 : ¬ ((kd : Int) = 7) := by omega
                have n8 : ((kd : Int) == 8) = false := by rw [beq_eq_false_iff_ne]; omega
                have m8 : ¬ ((kd : Int) = 8) := by omega
                have n9 : ((kd : Int) == 9) = false := by rw [beq_eq_false_iff_ne]; omega
                have m9 : ¬ ((kd : Int) = 9) := by omega
                have HF := Lib.hid (show oC (finO kd v0 v1 v2 t) = ((oC (kdO kd t)).setIfInBounds 1 (.int .i64 v0)).setIfInBounds 3 (.int .i64 v1) by rw [hk]; rfl)
                clear hk
                have f1 := block_free HOB2.out 1
                have c1 := block_cell HOB2.out 1
                simp [oC, kdO] at c1
                have f3 := block_free HOB2.out 3
                have c3 := block_cell HOB2.out 3
                simp [oC, kdO] at c3
                have cv0 := CV0.out
                have cv1 := CV1.out
                go_upto_region 39 with (fail)
                go_upto_if 128 with (fail)
                rw [HT.out]
                go_upto_region 40 with (fail)
                go_region
                go_wp2_with fail
                go_meet
                case rel => exact ⟨by rw [HF.out]; exact (block_setCell (block_setCell HOB2.out 1 _) 3 _), (((HBQ.out.setCell (p := ⟨b1, 1, none⟩) (Nat.le_refl _) _).setCell (p := ⟨b1, 3, none⟩) (Nat.le_refl _) _)).drew⟩
              · have HT := Lib.hid (show ((kd : Int) == 13) = true by rw [beq_iff_eq]; omega)
                have n1 : ((kd : Int) == 1) = false := by rw [beq_eq_false_iff_ne]; omega
                have m1 : ¬ ((kd : Int) = 1) := by omega
                have n2 : ((kd : Int) == 2) = false := by rw [beq_eq_false_iff_ne]; omega
                have m2 : ¬ ((kd : Int) = 2) := by omega
                have n3 : ((kd : Int) == 3) = false := by rw [beq_eq_false_iff_ne]; omega
                have m3 : ¬ ((kd : Int) = 3) := by omega
                have n4 : ((kd : Int) == 4) = false := by rw [beq_eq_false_iff_ne]; omega
                have m4 : ¬ ((kd : Int) = 4) := by omega
                have n7 : ((kd : Int) == 7) = false := by rw [beq_eq_false_iff_ne]; omega
                have m7 : ¬ ((kd : Int) = 7) := by omega
                have n8 : ((kd : Int) == 8) = false := by rw [beq_eq_false_iff_ne]; omega
                have m8 : ¬ ((kd : Int) = 8) := by omega
                have n9 : ((kd : Int) == 9) = false := by rw [beq_eq_false_iff_ne]; omega
                have m9 : ¬ ((kd : Int) = 9) := by omega
                have n12 : ((kd : Int) == 12) = false := by rw [beq_eq_false_iff_ne]; omega
                have m12 : ¬ ((kd : Int) = 12) := by omega
                have n10 : ((kd : Int) == 10) = false := by rw [beq_eq_false_iff_ne]; omega
                have m10 : ¬ ((kd : Int) = 10) := by omega
                have n11 : ((kd : Int) == 11) = false := by rw [beq_eq_false_iff_ne]; omega
                have m11 : ¬ ((kd : Int) = 11) := by omega
                have n6 : ((kd : Int) == 6) = false := by rw [beq_eq_false_iff_ne]; omega
                have m6 : ¬ ((kd : Int) = 6) := by omega
                have HF := Lib.hid (show oC (finO kd v0 v1 v2 t) = (oC (kdO kd t)).setIfInBounds 1 (.int .i64 v0) by rw [hk]; rfl)
                clear hk
                have f1 := block_free HOB2.out 1
                have c1 := block_cell HOB2.out 1
                simp [oC, kdO] at c1
                have cv0 := CV0.out
                go_upto_region 46 with (fail)
                go_upto_if 155 with (fail)
                rw [HT.out]
                go_wp2_with fail
                go_meet
                case rel => exact ⟨by rw [HF.out]; exact (block_setCell HOB2.out 1 _), (HBQ.out.setCell (p := ⟨b1, 1, none⟩) (Nat.le_refl _) _)⟩
              · skip
                have n1 : ((kd : Int) == 1) = false := by rw [beq_eq_false_iff_ne]; omega
                have m1 : ¬ ((kd : Int) = 1) := by omega
                have n2 : ((kd : Int) == 2) = false := by rw [beq_eq_false_iff_ne]; omega
                have m2 : ¬ ((kd : Int) = 2) := by omega
                have n3 : ((kd : Int) == 3) = false := by rw [beq_eq_false_iff_ne]; omega
                have m3 : ¬ ((kd : Int) = 3) := by omega
                have n4 : ((kd : Int) == 4) = false := by rw [beq_eq_false_iff_ne]; omega
                have m4 : ¬ ((kd : Int) = 4) := by omega
                have n7 : ((kd : Int) == 7) = false := by rw [beq_eq_false_iff_ne]; omega
                have m7 : ¬ ((kd : Int) = 7) := by omega
                have n8 : ((kd : Int) == 8) = false := by rw [beq_eq_false_iff_ne]; omega
                have m8 : ¬ ((kd : Int) = 8) := by omega
                have n9 : ((kd : Int) == 9) = false := by rw [beq_eq_false_iff_ne]; omega
                have m9 : ¬ ((kd : Int) = 9) := by omega
                have n12 : ((kd : Int) == 12) = false := by rw [beq_eq_false_iff_ne]; omega
                have m12 : ¬ ((kd : Int) = 12) := by omega
                have n10 : ((kd : Int) == 10) = false := by rw [beq_eq_false_iff_ne]; omega
                have m10 : ¬ ((kd : Int) = 10) := by omega
                have n11 : ((kd : Int) == 11) = false := by rw [beq_eq_false_iff_ne]; omega
                have m11 : ¬ ((kd : Int) = 11) := by omega
                have n6 : ((kd : Int) == 6) = false := by rw [beq_eq_false_iff_ne]; omega
                have m6 : ¬ ((kd : Int) = 6) := by omega
                have n13 : ((kd : Int) == 13) = false := by rw [beq_eq_false_iff_ne]; omega
                have m13 : ¬ ((kd : Int) = 13) := by omega
                have HF := Lib.hid (show oC (finO kd v0 v1 v2 t) = oC (kdO kd t) by rw [hk]; rfl)
                clear hk
                go_wp2_with fail
                go_meet
                case rel => exact ⟨by rw [HF.out]; exact HOB2.out, HBQ.out⟩
              · skip
                have n1 : ((kd : Int) == 1) = false := by rw [beq_eq_false_iff_ne]; omega
                have m1 : ¬ ((kd : Int) = 1) := by omega
                have n2 : ((kd : Int) == 2) = false := by rw [beq_eq_false_iff_ne]; omega
                have m2 : ¬ ((kd : Int) = 2) := by omega
                have n3 : ((kd : Int) == 3) = false := by rw [beq_eq_false_iff_ne]; omega
                have m3 : ¬ ((kd : Int) = 3) := by omega
                have n4 : ((kd : Int) == 4) = false := by rw [beq_eq_false_iff_ne]; omega
                have m4 : ¬ ((kd : Int) = 4) := by omega
                have n7 : ((kd : Int) == 7) = false := by rw [beq_eq_false_iff_ne]; omega
                have m7 : ¬ ((kd : Int) = 7) := by omega
                have n8 : ((kd : Int) == 8) = false := by rw [beq_eq_false_iff_ne]; omega
                have m8 : ¬ ((kd : Int) = 8) := by omega
                have n9 : ((kd : Int) == 9) = false := by rw [beq_eq_false_iff_ne]; omega
                have m9 : ¬ ((kd : Int) = 9) := by omega
                have n12 : ((kd : Int) == 12) = false := by rw [beq_eq_false_iff_ne]; omega
                have m12 : ¬ ((kd : Int) = 12) := by omega
                have n10 : ((kd : Int) == 10) = false := by rw [beq_eq_false_iff_ne]; omega
                have m10 : ¬ ((kd : Int) = 10) := by omega
                have n11 : ((kd : Int) == 11) = false := by rw [beq_eq_false_iff_ne]; omega
                have m11 : ¬ ((kd : Int) = 11) := by omega
                have n6 : ((kd : Int) == 6) = false := by rw [beq_eq_false_iff_ne]; omega
                have m6 : ¬ ((kd : Int) = 6) := by omega
                have n13 : ((kd : Int) == 13) = false := by rw [beq_eq_false_iff_ne]; omega
                have m13 : ¬ ((kd : Int) = 13) := by omega
                have HF := Lib.hid (show oC (finO kd v0 v1 v2 t) = oC (kdO kd t) by rw [hk]; rfl)
                clear hk
                go_wp2_with fail
                go_meet
                case rel => exact ⟨by rw [HF.out]; exact HOB2.out, HBQ.out⟩
              · skip
                have n1 : ((kd : Int) == 1) = false := by rw [beq_eq_false_iff_ne]; omega
                have m1 : ¬ ((kd : Int) = 1) := by omega
                have n2 : ((kd : Int) == 2) = false := by rw [beq_eq_false_iff_ne]; omega
                have m2 : ¬ ((kd : Int) = 2) := by omega
                have n3 : ((kd : Int) == 3) = false := by rw [beq_eq_false_iff_ne]; omega
                have m3 : ¬ ((kd : Int) = 3) := by omega
                have n4 : ((kd : Int) == 4) = false := by rw [beq_eq_false_iff_ne]; omega
                have m4 : ¬ ((kd : Int) = 4) := by omega
                have n7 : ((kd : Int) == 7) = false := by rw [beq_eq_false_iff_ne]; omega
                have m7 : ¬ ((kd : Int) = 7) := by omega
                have n8 : ((kd : Int) == 8) = false := by rw [beq_eq_false_iff_ne]; omega
                have m8 : ¬ ((kd : Int) = 8) := by omega
                have n9 : ((kd : Int) == 9) = false := by rw [beq_eq_false_iff_ne]; omega
                have m9 : ¬ ((kd : Int) = 9) := by omega
                have n12 : ((kd : Int) == 12) = false := by rw [beq_eq_false_iff_ne]; omega
                have m12 : ¬ ((kd : Int) = 12) := by omega
                have n10 : ((kd : Int) == 10) = false := by rw [beq_eq_false_iff_ne]; omega
                have m10 : ¬ ((kd : Int) = 10) := by omega
                have n11 : ((kd : Int) == 11) = false := by rw [beq_eq_false_iff_ne]; omega
                have m11 : ¬ ((kd : Int) = 11) := by omega
                have n6 : ((kd : Int) == 6) = false := by rw [beq_eq_false_iff_ne]; omega
                have m6 : ¬ ((kd : Int) = 6) := by omega
                have n13 : ((kd : Int) == 13) = false := by rw [beq_eq_false_iff_ne]; omega
                have m13 : ¬ ((kd : Int) = 13) := by omega
                have HF := Lib.hid (show oC (finO kd v0 v1 v2 t) = oC (kdO kd t) by rw [hk]; rfl)
                clear hk
                go_wp2_with fail
                go_meet
                case rel => exact ⟨by rw [HF.out]; exact HOB2.out, HBQ.out⟩
            case rest =>
              obtain ⟨hob9, hb9⟩ := hcut
              obtain ⟨x, hx⟩ : ∃ x, x = finO kd v0 v1 v2 t := ⟨_, rfl⟩
              have HOK := Lib.hid (show OvOk x by rw [hx]; exact finO_ok kd (by omega) v0 v1 v2 t)
              have HXT := Lib.hid (show x.t.size ≤ 140737488355328 by rw [hx, finO_text]; have := HTL.out; omega)
              rw [← hx] at hob9 HMD
              have HO9 := Lib.hid hob9
              have HZ9 := Lib.hid (block_below hb9 HZ1.out hwb1)
              have HBW9 := Lib.hid (HB1.out.trans (hb9.mono (show w.heap.size ≤ b1 by omega)))
              have HOPX := Lib.hid (refOp_any x wc HOK.out HXT.out)
              have x0 := block_cell hob9 0
              have x1 := block_cell hob9 1
              have x2 := block_cell hob9 2
              have x3 := block_cell hob9 3
              have x4 := block_cell hob9 4
              have x5 := block_cell hob9 5
              have x6 := block_cell hob9 6
              simp [oC] at x0 x1 x2 x3 x4 x5 x6
              have hlo9 := block_lt hob9
              clear hob9 hb9 hx
              go_wp2_with fail
              refine (HOPX.out).mono ?_; rintro e w10 ⟨rfl, hb10⟩
              have HO10 := Lib.hid (block_below hb10 HO9.out hlo9)
              have HZ10 := Lib.hid (block_below hb10 HZ9.out (block_lt HZ9.out))
              have HBW10 := Lib.hid (below_two HBW9.out hb10)
              clear hb10 x0 x1 x2 x3 x4 x5 x6 HOPX
              rcases hpx : plainO x with _ | _
              · have HR := Lib.hid (show parR sl = (zeroO, 4) from parR_none fun y hy => by
                  have e := HMD.out y hy
                  rw [e, hy.plain] at hpx
                  cases hpx)
                have HOE := Lib.hid (show opR x = ([], 2) by unfold opR; rw [if_neg (by rw [hpx]; decide)])
                rw [HOE.out]
                clear hpx
                (have q0 := block_cell HZ10.out 0; have q1 := block_cell HZ10.out 1; have q2 := block_cell HZ10.out 2; have q3 := block_cell HZ10.out 3; have q4 := block_cell HZ10.out 4; have q5 := block_cell HZ10.out 5; have q6 := block_cell HZ10.out 6; have f0 := block_free HZ10.out 0; have f1 := block_free HZ10.out 1; have f2 := block_free HZ10.out 2; have f3 := block_free HZ10.out 3; have f4 := block_free HZ10.out 4; have f5 := block_free HZ10.out 5; have f6 := block_free HZ10.out 6; have hz := block_lt HZ10.out; simp at q0 q1 q2 q3 q4 q5 q6)
                go_wp2_with fail
                exact bodyPost_ret (res7_tmp Tryd.results24 (Tryd.isAgg51 _) (Tryd.sizeOf51 _) rfl (set7 HZ10.out _ _ _ _ _ _ _)) rfl ⟨by rw [HR.out] <;> rfl, set7_below HBW10.out (Nat.le_refl _) _ _ _ _ _ _ _⟩
              · have HOE := Lib.hid (show opR x = (opL x, 0) by unfold opR; rw [if_pos hpx])
                rw [HOE.out]
                by_cases hel : opL x = sl
                · have HR := Lib.hid (show parR sl = (x, 0) from parR_some ⟨HOK.out, hpx, hel⟩)
                  have hb : (opL x == sl) = true := by rw [hel]; simp
                  have x0 := block_cell HO10.out 0
                  have x1 := block_cell HO10.out 1
                  have x2 := block_cell HO10.out 2
                  have x3 := block_cell HO10.out 3
                  have x4 := block_cell HO10.out 4
                  have x5 := block_cell HO10.out 5
                  have x6 := block_cell HO10.out 6
                  simp [oC] at x0 x1 x2 x3 x4 x5 x6
                  rw [hel]
                  clear hpx hel hb
                  (have q0 := block_cell HZ10.out 0; have q1 := block_cell HZ10.out 1; have q2 := block_cell HZ10.out 2; have q3 := block_cell HZ10.out 3; have q4 := block_cell HZ10.out 4; have q5 := block_cell HZ10.out 5; have q6 := block_cell HZ10.out 6; have f0 := block_free HZ10.out 0; have f1 := block_free HZ10.out 1; have f2 := block_free HZ10.out 2; have f3 := block_free HZ10.out 3; have f4 := block_free HZ10.out 4; have f5 := block_free HZ10.out 5; have f6 := block_free HZ10.out 6; have hz := block_lt HZ10.out; simp at q0 q1 q2 q3 q4 q5 q6)
                  go_wp2_with fail
                  exact bodyPost_ret (res7_tmp Tryd.results24 (Tryd.isAgg51 _) (Tryd.sizeOf51 _) rfl (set7 HZ10.out _ _ _ _ _ _ _)) rfl ⟨by rw [HR.out] <;> rfl, set7_below HBW10.out (Nat.le_refl _) _ _ _ _ _ _ _⟩
                · have HR := Lib.hid (show parR sl = (zeroO, 4) from parR_none fun y hy => by
                    have e := HMD.out y hy
                    rw [e] at hel
                    exact hel hy.line)
                  have hb : (opL x == sl) = false := by rw [beq_eq_false_iff_ne]; exact hel
                  have hb2 : (opL x != sl) = true := by rw [bne, hb]; rfl
                  clear hpx hel
                  (have q0 := block_cell HZ10.out 0; have q1 := block_cell HZ10.out 1; have q2 := block_cell HZ10.out 2; have q3 := block_cell HZ10.out 3; have q4 := block_cell HZ10.out 4; have q5 := block_cell HZ10.out 5; have q6 := block_cell HZ10.out 6; have f0 := block_free HZ10.out 0; have f1 := block_free HZ10.out 1; have f2 := block_free HZ10.out 2; have f3 := block_free HZ10.out 3; have f4 := block_free HZ10.out 4; have f5 := block_free HZ10.out 5; have f6 := block_free HZ10.out 6; have hz := block_lt HZ10.out; simp at q0 q1 q2 q3 q4 q5 q6)
                  go_wp2_with fail
                  exact bodyPost_ret (res7_tmp Tryd.results24 (Tryd.isAgg51 _) (Tryd.sizeOf51 _) rfl (set7 HZ10.out _ _ _ _ _ _ _)) rfl ⟨by rw [HR.out] <;> rfl, set7_below HBW10.out (Nat.le_refl _) _ _ _ _ _ _ _⟩
          · obtain ⟨hin, hm⟩ := HCT.out rfl
            clear HC HCT HCF HP
            have hini : (i : Int) < (n : Int) := by omega
            all_goals
              have hmi : (m : Int) < 6 := by omega
              have hi0 : (0 : Int) ≤ (i : Int) := by omega
              have hm0 : (0 : Int) ≤ (m : Int) := by omega
              have hiw : i - 1 < wt.length := by have := HNW.out; omega
              have CQ := Lib.hid (show wr.cell? ⟨g, i, none⟩ = some (.string ⟨(wt[i - 1]'hiw).toArray⟩) by
                have h1 := (hbq.cell (p := ⟨g, i, none⟩) hgb1).trans (HCQ.out i (by rw [List.length_cons]; omega))
                rw [h1]
                congr 3
                obtain ⟨j, rfl⟩ : ∃ j, i = j + 1 := ⟨i - 1, by omega⟩
                rfl)
              have cu5 := block_cell hub 5
              simp at cu5
              have hwl : (wt[i - 1]'hiw).length ≤ 1000000 := HWL.out _ (List.mem_cons_of_mem _ (List.getElem_mem hiw))
              have HNUM := Lib.hid (fun (hk : kd ≠ 1 ∨ i ≠ 2) (hf : (numR (wt[i - 1]'hiw)).2 = true) => HRD.out.num (by have := HNW.out; omega) hm hk hiw hf)
              have HNON := Lib.hid (fun (hk : kd ≠ 1 ∨ i ≠ 2) (hf : (numR (wt[i - 1]'hiw)).2 = false) => no_number hd1 hd2 HWS2.out hiw (by rcases hk with h | h; exact .inl h; exact .inr (by omega)) hf)
              have HTXT := Lib.hid (show ∀ (hk : kd = 1) (hi2 : i = 2), (unqR (wt[i - 1]'hiw)).2 = true → RdInv kd wt 3 m V ⟨(unqR (wt[i - 1]'hiw)).1.toArray⟩ from fun hk hi2 hf => by
                subst hi2
                have h := HRD.out
                rw [hk] at h ⊢
                exact h.txt hiw hwl hf)
              have HNOT := Lib.hid (show ∀ (hk : kd = 1) (hi2 : i = 2), (unqR (wt[i - 1]'hiw)).2 = false → ∀ y, ¬ HasLine sl y from fun hk hi2 hf => by
                subst hi2
                have h := HWS2.out
                rw [hk] at h
                exact no_text h hiw hf)
              generalize (wt[i - 1]'hiw) = wd at *
              have HLV := Lib.hid (show m < V.length by rw [HRD.out.len]; exact hm)
              clear hrd hob hub hvb hbq hiw
              rcases five with _ | _
              · have hkd1 : kd ≠ 1 := fun e => by have := HFI.out.2 e; cases this
                have HNM := Lib.hid (refnumber_any ⟨wd.toArray⟩ wr (by show wd.toArray.size ≤ _; rw [List.size_toArray]; omega))
                rw [show (⟨wd.toArray⟩ : ByteArray).data.toList = wd from List.toList_toArray ..] at HNM
                have HNO2 := Lib.hid (HNON.out (.inl hkd1))
                have HNU2 := Lib.hid (HNUM.out (.inl hkd1))
                have cq := CQ.out
                clear HNON HNUM HTXT HNOT CQ
                rcases hf : (numR wd).2 with _ | _
                · have HR := Lib.hid (show parR sl = (zeroO, 4) from parR_none (HNO2.out hf))
                  rw [hf] at HNM
                  clear hf HNO2 HNU2
                  go_wp2_with fail
                  refine (HNM.out).mono ?_; rintro e w6 ⟨rfl, rfl⟩
                  (have q0 := block_cell HZQ.out 0; have q1 := block_cell HZQ.out 1; have q2 := block_cell HZQ.out 2; have q3 := block_cell HZQ.out 3; have q4 := block_cell HZQ.out 4; have q5 := block_cell HZQ.out 5; have q6 := block_cell HZQ.out 6; have f0 := block_free HZQ.out 0; have f1 := block_free HZQ.out 1; have f2 := block_free HZQ.out 2; have f3 := block_free HZQ.out 3; have f4 := block_free HZQ.out 4; have f5 := block_free HZQ.out 5; have f6 := block_free HZQ.out 6; have hz := block_lt HZQ.out; simp at q0 q1 q2 q3 q4 q5 q6)
                  go_wp2_with fail
                  exact bodyPost_ret (res7_tmp Tryd.results24 (Tryd.isAgg51 _) (Tryd.sizeOf51 _) rfl (set7 HZQ.out _ _ _ _ _ _ _)) rfl ⟨by rw [HR.out] <;> rfl, set7_below HBWQ.out (Nat.le_refl _) _ _ _ _ _ _ _⟩
                · have HRD2 := Lib.hid (HNU2.out hf)
                  rw [hf] at HNM
                  clear hf HNO2 HNU2
                  have HVS := Lib.hid (block_setCell HVB.out m (.int .i64 (numR wd).1))
                  rw [map_set] at HVS
                  have HOS := Lib.hid (block_setCell_other HOB2.out (p := ⟨b2 + 1, m, none⟩) (by show b2 + 1 ≠ b1; omega) (.int .i64 (numR wd).1))
                  have HUS := Lib.hid (block_setCell_other HUB.out (p := ⟨b2 + 1, m, none⟩) (by show b2 + 1 ≠ b2; omega) (.int .i64 (numR wd).1))
                  have HBS := Lib.hid (HBQ.out.setCell (p := ⟨b2 + 1, m, none⟩) (by show b1 ≤ b2 + 1; omega) (.int .i64 (numR wd).1))
                  have fv := block_free HVB.out m
                  have cv : wr.cell? ⟨b2 + 1, m, none⟩ = some (.int .i64 (V[m]'HLV.out)) := by rw [block_cell HVB.out]; simp [HLV.out]
                  go_wp2_with fail
                  refine (HNM.out).mono ?_; rintro e w6 ⟨rfl, rfl⟩
                  go_wp2_with fail
                  go_roundw
                  case rel => exact ⟨i + 1, m + 1, _, _, by go_num, by go_num, HRD2.out, HOS.out, HUS.out, HVS.out, HBS.out⟩
                  case measure => simp [intOf]; omega
              · have HKD1 := Lib.hid (HFI.out.1 rfl)
                by_cases hi2 : i = 2
                · have HB2 := Lib.hid (show ((i : Int) == 2) = true by rw [beq_iff_eq]; omega)
                  have HTX := Lib.hid (reftext_any ⟨wd.toArray⟩ wr (by show wd.toArray.size ≤ _; rw [List.size_toArray]; omega))
                  rw [show (⟨wd.toArray⟩ : ByteArray).data.toList = wd from List.toList_toArray ..] at HTX
                  have HNO2 := Lib.hid (HNOT.out HKD1.out hi2)
                  have HTX2 := Lib.hid (HTXT.out HKD1.out hi2)
                  have HI2 := Lib.hid hi2
                  have cq := CQ.out
                  clear HNON HNUM HTXT HNOT CQ hi2
                  go_upto_if 53 with (fail)
                  rw [HB2.out]
                  rcases hf : (unqR wd).2 with _ | _
                  · have HR := Lib.hid (show parR sl = (zeroO, 4) from parR_none (HNO2.out hf))
                    rw [hf] at HTX
                    clear hf HNO2 HTX2
                    go_wp2_with fail
                    refine (HTX.out).mono ?_; rintro e w6 ⟨rfl, hb6⟩
                    have HZ6 := Lib.hid (block_below hb6 HZQ.out (block_lt HZQ.out))
                    have HBW6 := Lib.hid (below_two HBWQ.out hb6)
                    clear hb6
                    (have q0 := block_cell HZ6.out 0; have q1 := block_cell HZ6.out 1; have q2 := block_cell HZ6.out 2; have q3 := block_cell HZ6.out 3; have q4 := block_cell HZ6.out 4; have q5 := block_cell HZ6.out 5; have q6 := block_cell HZ6.out 6; have f0 := block_free HZ6.out 0; have f1 := block_free HZ6.out 1; have f2 := block_free HZ6.out 2; have f3 := block_free HZ6.out 3; have f4 := block_free HZ6.out 4; have f5 := block_free HZ6.out 5; have f6 := block_free HZ6.out 6; have hz := block_lt HZ6.out; simp at q0 q1 q2 q3 q4 q5 q6)
                    go_wp2_with fail
                    exact bodyPost_ret (res7_tmp Tryd.results24 (Tryd.isAgg51 _) (Tryd.sizeOf51 _) rfl (set7 HZ6.out _ _ _ _ _ _ _)) rfl ⟨by rw [HR.out] <;> rfl, set7_below HBW6.out (Nat.le_refl _) _ _ _ _ _ _ _⟩
                  · have HRD2 := Lib.hid (HTX2.out hf)
                    rw [hf] at HTX
                    clear hf HNO2 HTX2
                    go_wp2_with fail
                    refine (HTX.out).mono ?_; rintro e w6 ⟨rfl, hb6⟩
                    have HO6 := Lib.hid (block_below hb6 HOB2.out hlob)
                    have HU6 := Lib.hid (block_below hb6 HUB.out hlub)
                    have HV6 := Lib.hid (block_below hb6 HVB.out hlvb)
                    have HB6 := Lib.hid (HBQ.out.trans (hb6.mono (show b1 ≤ wr.heap.size by omega)))
                    clear hb6
                    have HOS := Lib.hid (block_setCell HO6.out 6 (.string ⟨(unqR wd).1.toArray⟩))
                    have HOE := Lib.hid (show (oC (kdO kd t)).setIfInBounds 6 (.string ⟨(unqR wd).1.toArray⟩) = oC (kdO kd ⟨(unqR wd).1.toArray⟩) from rfl)
                    rw [HOE.out] at HOS
                    have HUS := Lib.hid (block_setCell_other HU6.out (p := ⟨b1, 6, none⟩) (by show b1 ≠ b2; omega) (.string ⟨(unqR wd).1.toArray⟩))
                    have HVS := Lib.hid (block_setCell_other HV6.out (p := ⟨b1, 6, none⟩) (by show b1 ≠ b2 + 1; omega) (.string ⟨(unqR wd).1.toArray⟩))
                    have HBS := Lib.hid (HB6.out.setCell (p := ⟨b1, 6, none⟩) (Nat.le_refl _) (.string ⟨(unqR wd).1.toArray⟩))
                    have f6 := block_free HO6.out 6
                    have c6 := block_cell HO6.out 6
                    simp [oC, kdO] at c6
                    go_wp2_with fail
                    go_roundw
                    case rel => exact ⟨i + 1, m, V, _, by go_num, by go_num, by rw [HI2.out]; exact HRD2.out, HOS.out, HUS.out, HVS.out, HBS.out⟩
                    case measure => simp [intOf]; omega
                · have hb2 : ((i : Int) == 2) = false := by rw [beq_eq_false_iff_ne]; omega
                  have hi2i : ¬ ((i : Int) = 2) := by omega
                  clear HFI
                  have HNM := Lib.hid (refnumber_any ⟨wd.toArray⟩ wr (by show wd.toArray.size ≤ _; rw [List.size_toArray]; omega))
                  rw [show (⟨wd.toArray⟩ : ByteArray).data.toList = wd from List.toList_toArray ..] at HNM
                  have HNO2 := Lib.hid (HNON.out (.inr hi2))
                  have HNU2 := Lib.hid (HNUM.out (.inr hi2))
                  have cq := CQ.out
                  clear HNON HNUM HTXT HNOT CQ
                  rcases hf : (numR wd).2 with _ | _
                  · have HR := Lib.hid (show parR sl = (zeroO, 4) from parR_none (HNO2.out hf))
                    rw [hf] at HNM
                    clear hf HNO2 HNU2
                    go_wp2_with fail
                    refine (HNM.out).mono ?_; rintro e w6 ⟨rfl, rfl⟩
                    (have q0 := block_cell HZQ.out 0; have q1 := block_cell HZQ.out 1; have q2 := block_cell HZQ.out 2; have q3 := block_cell HZQ.out 3; have q4 := block_cell HZQ.out 4; have q5 := block_cell HZQ.out 5; have q6 := block_cell HZQ.out 6; have f0 := block_free HZQ.out 0; have f1 := block_free HZQ.out 1; have f2 := block_free HZQ.out 2; have f3 := block_free HZQ.out 3; have f4 := block_free HZQ.out 4; have f5 := block_free HZQ.out 5; have f6 := block_free HZQ.out 6; have hz := block_lt HZQ.out; simp at q0 q1 q2 q3 q4 q5 q6)
                    go_wp2_with fail
                    exact bodyPost_ret (res7_tmp Tryd.results24 (Tryd.isAgg51 _) (Tryd.sizeOf51 _) rfl (set7 HZQ.out _ _ _ _ _ _ _)) rfl ⟨by rw [HR.out] <;> rfl, set7_below HBWQ.out (Nat.le_refl _) _ _ _ _ _ _ _⟩
                  · have HRD2 := Lib.hid (HNU2.out hf)
                    rw [hf] at HNM
                    clear hf HNO2 HNU2
                    have HVS := Lib.hid (block_setCell HVB.out m (.int .i64 (numR wd).1))
                    rw [map_set] at HVS
                    have HOS := Lib.hid (block_setCell_other HOB2.out (p := ⟨b2 + 1, m, none⟩) (by show b2 + 1 ≠ b1; omega) (.int .i64 (numR wd).1))
                    have HUS := Lib.hid (block_setCell_other HUB.out (p := ⟨b2 + 1, m, none⟩) (by show b2 + 1 ≠ b2; omega) (.int .i64 (numR wd).1))
                    have HBS := Lib.hid (HBQ.out.setCell (p := ⟨b2 + 1, m, none⟩) (by show b1 ≤ b2 + 1; omega) (.int .i64 (numR wd).1))
                    have fv := block_free HVB.out m
                    have cv : wr.cell? ⟨b2 + 1, m, none⟩ = some (.int .i64 (V[m]'HLV.out)) := by rw [block_cell HVB.out]; simp [HLV.out]
                    go_wp2_with fail
                    refine (HNM.out).mono ?_; rintro e w6 ⟨rfl, rfl⟩
                    go_wp2_with fail
                    go_roundw
                    case rel => exact ⟨i + 1, m + 1, _, _, by go_num, by go_num, HRD2.out, HOS.out, HUS.out, HVS.out, HBS.out⟩
                    case measure => simp [intOf]; omega
end Go.Proofs.YtdfkbahlngijcaaDoor

