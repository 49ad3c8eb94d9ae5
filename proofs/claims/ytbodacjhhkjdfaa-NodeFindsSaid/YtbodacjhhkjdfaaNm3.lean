/- The law NodeFinds: its walk. -/
import Derived.Test.YtbodacjhhkjdfaaNm3a
namespace Go.Proofs.Ytbodacjhhkjdfaa
open Go.RowKit

set_option maxRecDepth 100000 in
set_option maxHeartbeats 1000000 in
theorem finds_inner (x : Nd) (n0 : Int) (ao : Option Addr) (n c : Nat) (w : World) (hk : IsKs w ao n x.kids) (hr0 : -9223372036854775808 ≤ n0) (hr : n0 ≤ 9223372036854775807) (hc : checkN x = 0) (hh : x.h ≠ 0) :
    Calls Try.prog 8 #[aggN x.h x.text ao n c, .int .i64 n0] w fun e w' => e = .returned (.bool true) ∧ Below w.heap.size w w' := by
  have htame := formed_tame (checkN_zero hc).1
  have hh' : (x.h == 0) = false := by simpa using hh
  have hl := hk.1
  have hn4 : n ≤ 4 := by have := htame.1; omega
  have HK := Lib.hid hk
  have HC := Lib.hid hc
  have HH := Lib.hid hh
  have HTAME := Lib.hid htame
  have HL := Lib.hid hl
  clear hl htame hh hc hk
  unfold aggN
  go_enter Try.func8, Try.ntmps8
  go_wp2_with fail
  refine (check_any x ao n c _ (HK.out.box _)).mono ?_; rintro e w1 ⟨rfl, hb⟩
  rw [HC.out]
  obtain ⟨hbw, hbx⟩ := box_later hb
  (have q0 := block_cell hbx 0; have q1 := block_cell hbx 1; have q2 := block_cell hbx 2; have f0 := block_free hbx 0; have f1 := block_free hbx 1; have f2 := block_free hbx 2; have hz := block_lt hbx; simp at q0 q1 q2)
  have HKS := Lib.hid (HK.out.later hbw)
  have HBW := Lib.hid hbw
  have HBX := Lib.hid hbx
  clear hbx hbw
  clear hb
  go_wp2_with fail
  refine (measure_any x ao n c _ HKS.out).mono ?_; rintro e w2 ⟨rfl, hb⟩
  have HK2 := Lib.hid ((HKS.out.later hb).box (.cells #[.int .i64 (measN x).1, .int .i64 (measN x).2.1, .int .i64 (measN x).2.2] 27))
  have HBX2 := Lib.hid (block_alloc (block_below hb HBX.out (block_lt HBX.out)) (.cells #[.int .i64 (measN x).1, .int .i64 (measN x).2.1, .int .i64 (measN x).2.2] 27))
  have HBW2 := Lib.hid ((below_step HBW.out hb).alloc (below_step HBW.out hb).size (.cells #[.int .i64 (measN x).1, .int .i64 (measN x).2.1, .int .i64 (measN x).2.2] 27))
  have HBM2 := Lib.hid (block_new w2 (.cells #[.int .i64 (measN x).1, .int .i64 (measN x).2.1, .int .i64 (measN x).2.2] 27))
  clear hb HBX HBW HKS
  unfold aggM
  go_wp2_with fail
  go_loopw [11] (fun i wr => ∃ k : Nat, k ≤ 3 ∧ i = .int .i64 k ∧ Below w.heap.size w wr ∧ IsKs wr ao n x.kids ∧ wr.heap[w.heap.size]? = some (.cells #[.int .i64 x.h, .string x.text, .slice ao n c] 24 (0, 0)) ∧ wr.heap[w2.heap.size]? = some (.cells #[.int .i64 (measN x).1, .int .i64 (measN x).2.1, .int .i64 (measN x).2.2] 27 (0, 0))) (fun i _ => 3 - (intOf i).toNat)
  case atStart => exact ⟨0, by omega, rfl, HBW2.out, HK2.out, HBX2.out, HBM2.out⟩
  case round =>
    obtain ⟨k, hk3, rfl, hbr, hks, hbx, hbm⟩ := hrel
    (have q0 := block_cell hbx 0; have q1 := block_cell hbx 1; have q2 := block_cell hbx 2; have f0 := block_free hbx 0; have f1 := block_free hbx 1; have f2 := block_free hbx 2; have hz := block_lt hbx; simp at q0 q1 q2)
    (have q0 := block_cell hbm 0; have q1 := block_cell hbm 1; have q2 := block_cell hbm 2; have f0 := block_free hbm 0; have f1 := block_free hbm 1; have f2 := block_free hbm 2; have hz := block_lt hbm; simp at q0 q1 q2)
    have HBR := Lib.hid hbr
    have HKS := Lib.hid hks
    have HBX := Lib.hid hbx
    have HBM := Lib.hid hbm
    clear hbm hbx hks hbr
    by_cases hlt : k < 3
    · by_cases hk2 : k = 2
      · subst hk2
        have hfst : firstP 2 = 1 := rfl
        obtain ⟨TT, hTT⟩ : ∃ T, partP 2 (measN x) = T := ⟨_, rfl⟩
        have hTb := SP_le HTAME.out 2 x.kids.length (Nat.le_refl _)
        rw [show SP x.kids 2 x.kids.length = TT from by unfold SP; rw [← inner_meas HC.out HH.out]; exact hTT] at hTb
        have HTT := Lib.hid hTT
        by_cases c1 : n0 < 1
        · have HF := Lib.hid (find_no HC.out HH.out 2 (by omega) n0 (.inl (by rw [hfst]; exact c1)))
          clear hfst hTT hTb
          go_wp2_with fail
          refine (find_as x n0 2 (by omega) ao n c _ HKS.out hr0 hr 0 0 3 HF.out).mono ?_; rintro e w3 ⟨rfl, hb⟩
          have HKS3 := Lib.hid (HKS.out.later hb)
          have hbx := block_below hb HBX.out (block_lt HBX.out)
          have hbm := block_below hb HBM.out (block_lt HBM.out)
          have HBR3 := Lib.hid (below_step HBR.out hb)
          (have q0 := block_cell hbx 0; have q1 := block_cell hbx 1; have q2 := block_cell hbx 2; have f0 := block_free hbx 0; have f1 := block_free hbx 1; have f2 := block_free hbx 2; have hz := block_lt hbx; simp at q0 q1 q2)
          (have q0 := block_cell hbm 0; have q1 := block_cell hbm 1; have q2 := block_cell hbm 2; have f0 := block_free hbm 0; have f1 := block_free hbm 1; have f2 := block_free hbm 2; have hz := block_lt hbm; simp at q0 q1 q2)
          have HBX3 := Lib.hid hbx
          have HBM3 := Lib.hid hbm
          clear hb hbx hbm
          go_wp2_with fail
          go_roundw
          case rel => exact ⟨3, by omega, (by first | rfl | go_num), HBR3.out, HKS3.out, HBX3.out, HBM3.out⟩
          case measure => simp [intOf] <;> omega
        by_cases c2 : n0 < TT + 1
        · obtain ⟨i, hi, r, hf, hsr, hr1, hr2⟩ := find_yes HC.out HH.out 2 (by omega) n0 (by rw [hfst]; omega) (by rw [hfst, hTT]; exact c2)
          rw [hfst] at hr1 hr2
          have hSb := SP_le HTAME.out 2 i (by omega)
          obtain ⟨PP, hPP⟩ : ∃ P, partP 2 x.kids[i].2 = P := ⟨_, rfl⟩
          have hPb := SP_step HTAME.out 2 i hi
          have hPc := SP_le HTAME.out 2 (i + 1) (by omega)
          rw [hPb.1] at hPc
          have hP0 := hPb.2
          rw [hPP] at hPc hP0 hr2
          obtain ⟨SS, hSS⟩ : ∃ S, SP x.kids 2 i = S := ⟨_, rfl⟩
          rw [hSS] at hsr hSb hPc
          have hin : i < n := by rw [← HL.out]; exact hi
          have hd1 : decide (n ≤ i) = false := decide_eq_false (by omega)
          have hd2 : decide ((i : Int) < 0) = false := decide_eq_false (by omega)
          have HF := Lib.hid hf
          have HPP := Lib.hid hPP
          have HSS := Lib.hid hSS
          clear hSS hPP hf
          clear hfst hTT hPb
          go_wp2_with fail
          refine (find_as x n0 2 (by omega) ao n c _ HKS.out hr0 hr i r 0 HF.out).mono ?_; rintro e w3 ⟨rfl, hb⟩
          have HKS3 := Lib.hid (HKS.out.later hb)
          have hbx := block_below hb HBX.out (block_lt HBX.out)
          have hbm := block_below hb HBM.out (block_lt HBM.out)
          have HBR3 := Lib.hid (below_step HBR.out hb)
          (have q0 := block_cell hbx 0; have q1 := block_cell hbx 1; have q2 := block_cell hbx 2; have f0 := block_free hbx 0; have f1 := block_free hbx 1; have f2 := block_free hbx 2; have hz := block_lt hbx; simp at q0 q1 q2)
          (have q0 := block_cell hbm 0; have q1 := block_cell hbm 1; have q2 := block_cell hbm 2; have f0 := block_free hbm 0; have f1 := block_free hbm 1; have f2 := block_free hbm 2; have hz := block_lt hbm; simp at q0 q1 q2)
          have HBX3 := Lib.hid hbx
          have HBM3 := Lib.hid hbm
          clear hb hbx hbm
          go_wp2_with fail
          refine (part_at (measN x) 2 (by omega) TT HTT.out _).mono ?_; rintro e w4 ⟨rfl, hb⟩
          have HKS4 := Lib.hid (HKS3.out.later hb)
          have hbx := block_below hb HBX3.out (block_lt HBX3.out)
          have hbm := block_below hb HBM3.out (block_lt HBM3.out)
          have HBR4 := Lib.hid (below_step HBR3.out hb)
          (have q0 := block_cell hbx 0; have q1 := block_cell hbx 1; have q2 := block_cell hbx 2; have f0 := block_free hbx 0; have f1 := block_free hbx 1; have f2 := block_free hbx 2; have hz := block_lt hbx; simp at q0 q1 q2)
          (have q0 := block_cell hbm 0; have q1 := block_cell hbm 1; have q2 := block_cell hbm 2; have f0 := block_free hbm 0; have f1 := block_free hbm 1; have f2 := block_free hbm 2; have hz := block_lt hbm; simp at q0 q1 q2)
          have HBX4 := Lib.hid hbx
          have HBM4 := Lib.hid hbm
          clear hb hbx hbm
          go_wp2_with fail
          obtain ⟨w5, hw5⟩ : ∃ w5, w5 = w4 := ⟨_, rfl⟩
          rw [← hw5] at HKS4 HBX4 HBM4 HBR4
          rw [← hw5]
          clear hw5
          go_loopw [17, 18] (fun s j wq => ∃ m : Nat, m ≤ i ∧ j = .int .i64 m ∧ s = .int .i64 (SP x.kids 2 m) ∧ Below w.heap.size w wq ∧ IsKs wq ao n x.kids ∧ wq.heap[w.heap.size]? = some (.cells #[.int .i64 x.h, .string x.text, .slice ao n c] 24 (0, 0)) ∧ wq.heap[w2.heap.size]? = some (.cells #[.int .i64 (measN x).1, .int .i64 (measN x).2.1, .int .i64 (measN x).2.2] 27 (0, 0))) (fun _ j _ => i - (intOf j).toNat)
          case atStart => exact ⟨0, Nat.zero_le _, rfl, by rw [SP_zero], HBR4.out, HKS4.out, HBX4.out, HBM4.out⟩
          case round =>
            obtain ⟨m, hmi, rfl, rfl, hbr, hks, hbx, hbm⟩ := hrel
            (have q0 := block_cell hbx 0; have q1 := block_cell hbx 1; have q2 := block_cell hbx 2; have f0 := block_free hbx 0; have f1 := block_free hbx 1; have f2 := block_free hbx 2; have hz := block_lt hbx; simp at q0 q1 q2)
            (have q0 := block_cell hbm 0; have q1 := block_cell hbm 1; have q2 := block_cell hbm 2; have f0 := block_free hbm 0; have f1 := block_free hbm 1; have f2 := block_free hbm 2; have hz := block_lt hbm; simp at q0 q1 q2)
            have HBRa := Lib.hid hbr
            have HKSa := Lib.hid hks
            have HBXa := Lib.hid hbx
            have HBMa := Lib.hid hbm
            obtain ⟨hl1, hu, hcx⟩ := hks
            obtain ⟨b, off, rfl, hcell⟩ := hcx (by omega)
            clear hbr hbx hbm
            by_cases hmlt : m < i
            · have hml : m < x.kids.length := by have := hi; omega
              obtain ⟨m0, m1, m2, m3⟩ := hcell m hml
              have hst := SP_step HTAME.out 2 m hml
              have hsb := SP_le HTAME.out 2 m (by omega)
              have hsc := SP_le HTAME.out 2 (m + 1) (by omega)
              obtain ⟨QQ, hQQ⟩ : ∃ P, partP 2 x.kids[m].2 = P := ⟨_, rfl⟩
              have hst1 := hst.1
              have hst2 := hst.2
              rw [hQQ] at hst1 hst2
              rw [hst1] at hsc
              have HST := Lib.hid hst1
              have HQQ := Lib.hid hQQ
              clear hst hst1 hQQ hcell hl1 hu hcx
              go_wp2_with fail
              refine (part_at x.kids[m].2 2 (by omega) QQ HQQ.out _).mono ?_; rintro e w6 ⟨rfl, hb⟩
              have HKSb := Lib.hid (HKSa.out.later hb)
              have HBXb := Lib.hid (block_below hb HBXa.out (block_lt HBXa.out))
              have HBMb := Lib.hid (block_below hb HBMa.out (block_lt HBMa.out))
              have HBRb := Lib.hid (below_step HBRa.out hb)
              clear hb
              go_wp2_with fail
              go_roundw
              case rel => first | exact ⟨m + 1, by omega, by go_num, by rw [HST.out], HBRb.out, HKSb.out, HBXb.out, HBMb.out⟩ | ((repeat apply Exists.intro); exact ⟨⟨by omega, by go_num, by rw [HST.out], HBRb.out, HKSb.out, HBXb.out, HBMb.out⟩, rfl⟩)
              case measure => simp [intOf] <;> omega
            · obtain rfl : i = m := by omega
              rw [HSS.out]
              obtain ⟨m0, m1, m2, m3⟩ := hcell i hi
              clear hcell hl1 hu hcx
              go_wp2_with fail
              refine (part_at x.kids[i].2 2 (by omega) PP HPP.out _).mono ?_; rintro e w6 ⟨rfl, hb⟩
              have HKS6 := Lib.hid (HKSa.out.later hb)
              have HBX6 := Lib.hid (block_below hb HBXa.out (block_lt HBXa.out))
              have HBM6 := Lib.hid (block_below hb HBMa.out (block_lt HBMa.out))
              have HBR6 := Lib.hid (below_step HBRa.out hb)
              clear hb
              go_wp2_with fail
              go_roundw
              case rel => exact ⟨3, by omega, (by first | rfl | go_num), HBR6.out, HKS6.out, HBX6.out, HBM6.out⟩
              case measure => simp [intOf] <;> omega
        · have HF := Lib.hid (find_no HC.out HH.out 2 (by omega) n0 (.inr (by rw [hfst, hTT]; omega)))
          have hb2 : decide (n0 < TT + 1) = false := decide_eq_false (by omega)
          clear hfst hTT
          go_wp2_with fail
          refine (find_as x n0 2 (by omega) ao n c _ HKS.out hr0 hr 0 0 3 HF.out).mono ?_; rintro e w3 ⟨rfl, hb⟩
          have HKS3 := Lib.hid (HKS.out.later hb)
          have hbx := block_below hb HBX.out (block_lt HBX.out)
          have hbm := block_below hb HBM.out (block_lt HBM.out)
          have HBR3 := Lib.hid (below_step HBR.out hb)
          (have q0 := block_cell hbx 0; have q1 := block_cell hbx 1; have q2 := block_cell hbx 2; have f0 := block_free hbx 0; have f1 := block_free hbx 1; have f2 := block_free hbx 2; have hz := block_lt hbx; simp at q0 q1 q2)
          (have q0 := block_cell hbm 0; have q1 := block_cell hbm 1; have q2 := block_cell hbm 2; have f0 := block_free hbm 0; have f1 := block_free hbm 1; have f2 := block_free hbm 2; have hz := block_lt hbm; simp at q0 q1 q2)
          have HBX3 := Lib.hid hbx
          have HBM3 := Lib.hid hbm
          clear hb hbx hbm
          go_wp2_with fail
          refine (part_at (measN x) 2 (by omega) TT HTT.out _).mono ?_; rintro e w4 ⟨rfl, hb⟩
          have HKS4 := Lib.hid (HKS3.out.later hb)
          have hbx := block_below hb HBX3.out (block_lt HBX3.out)
          have hbm := block_below hb HBM3.out (block_lt HBM3.out)
          have HBR4 := Lib.hid (below_step HBR3.out hb)
          (have q0 := block_cell hbx 0; have q1 := block_cell hbx 1; have q2 := block_cell hbx 2; have f0 := block_free hbx 0; have f1 := block_free hbx 1; have f2 := block_free hbx 2; have hz := block_lt hbx; simp at q0 q1 q2)
          (have q0 := block_cell hbm 0; have q1 := block_cell hbm 1; have q2 := block_cell hbm 2; have f0 := block_free hbm 0; have f1 := block_free hbm 1; have f2 := block_free hbm 2; have hz := block_lt hbm; simp at q0 q1 q2)
          have HBX4 := Lib.hid hbx
          have HBM4 := Lib.hid hbm
          clear hb hbx hbm
          go_wp2_with fail
          go_roundw
          case rel => exact ⟨3, by omega, (by first | rfl | go_num), HBR4.out, HKS4.out, HBX4.out, HBM4.out⟩
          case measure => simp [intOf] <;> omega
      · have hk2' : ((k : Int) == 2) = false := by simp; omega
        have hk1 : k ≤ 1 := by omega
        clear hk2
        have hfst : firstP k = 0 := if_neg (by omega)
        obtain ⟨TT, hTT⟩ : ∃ T, partP k (measN x) = T := ⟨_, rfl⟩
        have hTb := SP_le HTAME.out k x.kids.length (Nat.le_refl _)
        rw [show SP x.kids k x.kids.length = TT from by unfold SP; rw [← inner_meas HC.out HH.out]; exact hTT] at hTb
        have HTT := Lib.hid hTT
        by_cases c1 : n0 < 0
        · have HF := Lib.hid (find_no HC.out HH.out k (by omega) n0 (.inl (by rw [hfst]; exact c1)))
          clear hfst hTT hTb
          go_wp2_with fail
          refine (find_as x n0 k (by omega) ao n c _ HKS.out hr0 hr 0 0 3 HF.out).mono ?_; rintro e w3 ⟨rfl, hb⟩
          have HKS3 := Lib.hid (HKS.out.later hb)
          have hbx := block_below hb HBX.out (block_lt HBX.out)
          have hbm := block_below hb HBM.out (block_lt HBM.out)
          have HBR3 := Lib.hid (below_step HBR.out hb)
          (have q0 := block_cell hbx 0; have q1 := block_cell hbx 1; have q2 := block_cell hbx 2; have f0 := block_free hbx 0; have f1 := block_free hbx 1; have f2 := block_free hbx 2; have hz := block_lt hbx; simp at q0 q1 q2)
          (have q0 := block_cell hbm 0; have q1 := block_cell hbm 1; have q2 := block_cell hbm 2; have f0 := block_free hbm 0; have f1 := block_free hbm 1; have f2 := block_free hbm 2; have hz := block_lt hbm; simp at q0 q1 q2)
          have HBX3 := Lib.hid hbx
          have HBM3 := Lib.hid hbm
          clear hb hbx hbm
          go_wp2_with fail
          go_roundw
          case rel => exact ⟨k + 1, by omega, (by first | rfl | go_num), HBR3.out, HKS3.out, HBX3.out, HBM3.out⟩
          case measure => simp [intOf] <;> omega
        by_cases c2 : n0 < TT + 0
        · obtain ⟨i, hi, r, hf, hsr, hr1, hr2⟩ := find_yes HC.out HH.out k (by omega) n0 (by rw [hfst]; omega) (by rw [hfst, hTT]; exact c2)
          rw [hfst] at hr1 hr2
          have hSb := SP_le HTAME.out k i (by omega)
          obtain ⟨PP, hPP⟩ : ∃ P, partP k x.kids[i].2 = P := ⟨_, rfl⟩
          have hPb := SP_step HTAME.out k i hi
          have hPc := SP_le HTAME.out k (i + 1) (by omega)
          rw [hPb.1] at hPc
          have hP0 := hPb.2
          rw [hPP] at hPc hP0 hr2
          obtain ⟨SS, hSS⟩ : ∃ S, SP x.kids k i = S := ⟨_, rfl⟩
          rw [hSS] at hsr hSb hPc
          have hin : i < n := by rw [← HL.out]; exact hi
          have hd1 : decide (n ≤ i) = false := decide_eq_false (by omega)
          have hd2 : decide ((i : Int) < 0) = false := decide_eq_false (by omega)
          have HF := Lib.hid hf
          have HPP := Lib.hid hPP
          have HSS := Lib.hid hSS
          clear hSS hPP hf
          clear hfst hTT hPb
          go_wp2_with fail
          refine (find_as x n0 k (by omega) ao n c _ HKS.out hr0 hr i r 0 HF.out).mono ?_; rintro e w3 ⟨rfl, hb⟩
          have HKS3 := Lib.hid (HKS.out.later hb)
          have hbx := block_below hb HBX.out (block_lt HBX.out)
          have hbm := block_below hb HBM.out (block_lt HBM.out)
          have HBR3 := Lib.hid (below_step HBR.out hb)
          (have q0 := block_cell hbx 0; have q1 := block_cell hbx 1; have q2 := block_cell hbx 2; have f0 := block_free hbx 0; have f1 := block_free hbx 1; have f2 := block_free hbx 2; have hz := block_lt hbx; simp at q0 q1 q2)
          (have q0 := block_cell hbm 0; have q1 := block_cell hbm 1; have q2 := block_cell hbm 2; have f0 := block_free hbm 0; have f1 := block_free hbm 1; have f2 := block_free hbm 2; have hz := block_lt hbm; simp at q0 q1 q2)
          have HBX3 := Lib.hid hbx
          have HBM3 := Lib.hid hbm
          clear hb hbx hbm
          go_wp2_with fail
          refine (part_at (measN x) k (by omega) TT HTT.out _).mono ?_; rintro e w4 ⟨rfl, hb⟩
          have HKS4 := Lib.hid (HKS3.out.later hb)
          have hbx := block_below hb HBX3.out (block_lt HBX3.out)
          have hbm := block_below hb HBM3.out (block_lt HBM3.out)
          have HBR4 := Lib.hid (below_step HBR3.out hb)
          (have q0 := block_cell hbx 0; have q1 := block_cell hbx 1; have q2 := block_cell hbx 2; have f0 := block_free hbx 0; have f1 := block_free hbx 1; have f2 := block_free hbx 2; have hz := block_lt hbx; simp at q0 q1 q2)
          (have q0 := block_cell hbm 0; have q1 := block_cell hbm 1; have q2 := block_cell hbm 2; have f0 := block_free hbm 0; have f1 := block_free hbm 1; have f2 := block_free hbm 2; have hz := block_lt hbm; simp at q0 q1 q2)
          have HBX4 := Lib.hid hbx
          have HBM4 := Lib.hid hbm
          clear hb hbx hbm
          go_wp2_with fail
          obtain ⟨w5, hw5⟩ : ∃ w5, w5 = w4 := ⟨_, rfl⟩
          rw [← hw5] at HKS4 HBX4 HBM4 HBR4
          rw [← hw5]
          clear hw5
          go_loopw [17, 18] (fun s j wq => ∃ m : Nat, m ≤ i ∧ j = .int .i64 m ∧ s = .int .i64 (SP x.kids k m) ∧ Below w.heap.size w wq ∧ IsKs wq ao n x.kids ∧ wq.heap[w.heap.size]? = some (.cells #[.int .i64 x.h, .string x.text, .slice ao n c] 24 (0, 0)) ∧ wq.heap[w2.heap.size]? = some (.cells #[.int .i64 (measN x).1, .int .i64 (measN x).2.1, .int .i64 (measN x).2.2] 27 (0, 0))) (fun _ j _ => i - (intOf j).toNat)
          case atStart => exact ⟨0, Nat.zero_le _, rfl, by rw [SP_zero], HBR4.out, HKS4.out, HBX4.out, HBM4.out⟩
          case round =>
            obtain ⟨m, hmi, rfl, rfl, hbr, hks, hbx, hbm⟩ := hrel
            (have q0 := block_cell hbx 0; have q1 := block_cell hbx 1; have q2 := block_cell hbx 2; have f0 := block_free hbx 0; have f1 := block_free hbx 1; have f2 := block_free hbx 2; have hz := block_lt hbx; simp at q0 q1 q2)
            (have q0 := block_cell hbm 0; have q1 := block_cell hbm 1; have q2 := block_cell hbm 2; have f0 := block_free hbm 0; have f1 := block_free hbm 1; have f2 := block_free hbm 2; have hz := block_lt hbm; simp at q0 q1 q2)
            have HBRa := Lib.hid hbr
            have HKSa := Lib.hid hks
            have HBXa := Lib.hid hbx
            have HBMa := Lib.hid hbm
            obtain ⟨hl1, hu, hcx⟩ := hks
            obtain ⟨b, off, rfl, hcell⟩ := hcx (by omega)
            clear hbr hbx hbm
            by_cases hmlt : m < i
            · have hml : m < x.kids.length := by have := hi; omega
              obtain ⟨m0, m1, m2, m3⟩ := hcell m hml
              have hst := SP_step HTAME.out k m hml
              have hsb := SP_le HTAME.out k m (by omega)
              have hsc := SP_le HTAME.out k (m + 1) (by omega)
              obtain ⟨QQ, hQQ⟩ : ∃ P, partP k x.kids[m].2 = P := ⟨_, rfl⟩
              have hst1 := hst.1
              have hst2 := hst.2
              rw [hQQ] at hst1 hst2
              rw [hst1] at hsc
              have HST := Lib.hid hst1
              have HQQ := Lib.hid hQQ
              clear hst hst1 hQQ hcell hl1 hu hcx
              go_wp2_with fail
              refine (part_at x.kids[m].2 k (by omega) QQ HQQ.out _).mono ?_; rintro e w6 ⟨rfl, hb⟩
              have HKSb := Lib.hid (HKSa.out.later hb)
              have HBXb := Lib.hid (block_below hb HBXa.out (block_lt HBXa.out))
              have HBMb := Lib.hid (block_below hb HBMa.out (block_lt HBMa.out))
              have HBRb := Lib.hid (below_step HBRa.out hb)
              clear hb
              go_wp2_with fail
              go_roundw
              case rel => first | exact ⟨m + 1, by omega, by go_num, by rw [HST.out], HBRb.out, HKSb.out, HBXb.out, HBMb.out⟩ | ((repeat apply Exists.intro); exact ⟨⟨by omega, by go_num, by rw [HST.out], HBRb.out, HKSb.out, HBXb.out, HBMb.out⟩, rfl⟩)
              case measure => simp [intOf] <;> omega
            · obtain rfl : i = m := by omega
              rw [HSS.out]
              obtain ⟨m0, m1, m2, m3⟩ := hcell i hi
              clear hcell hl1 hu hcx
              go_wp2_with fail
              refine (part_at x.kids[i].2 k (by omega) PP HPP.out _).mono ?_; rintro e w6 ⟨rfl, hb⟩
              have HKS6 := Lib.hid (HKSa.out.later hb)
              have HBX6 := Lib.hid (block_below hb HBXa.out (block_lt HBXa.out))
              have HBM6 := Lib.hid (block_below hb HBMa.out (block_lt HBMa.out))
              have HBR6 := Lib.hid (below_step HBRa.out hb)
              clear hb
              go_wp2_with fail
              go_roundw
              case rel => exact ⟨k + 1, by omega, (by first | rfl | go_num), HBR6.out, HKS6.out, HBX6.out, HBM6.out⟩
              case measure => simp [intOf] <;> omega
        · have HF := Lib.hid (find_no HC.out HH.out k (by omega) n0 (.inr (by rw [hfst, hTT]; omega)))
          have hb2 : decide (n0 < TT) = false := decide_eq_false (by omega)
          clear hfst hTT
          go_wp2_with fail
          refine (find_as x n0 k (by omega) ao n c _ HKS.out hr0 hr 0 0 3 HF.out).mono ?_; rintro e w3 ⟨rfl, hb⟩
          have HKS3 := Lib.hid (HKS.out.later hb)
          have hbx := block_below hb HBX.out (block_lt HBX.out)
          have hbm := block_below hb HBM.out (block_lt HBM.out)
          have HBR3 := Lib.hid (below_step HBR.out hb)
          (have q0 := block_cell hbx 0; have q1 := block_cell hbx 1; have q2 := block_cell hbx 2; have f0 := block_free hbx 0; have f1 := block_free hbx 1; have f2 := block_free hbx 2; have hz := block_lt hbx; simp at q0 q1 q2)
          (have q0 := block_cell hbm 0; have q1 := block_cell hbm 1; have q2 := block_cell hbm 2; have f0 := block_free hbm 0; have f1 := block_free hbm 1; have f2 := block_free hbm 2; have hz := block_lt hbm; simp at q0 q1 q2)
          have HBX3 := Lib.hid hbx
          have HBM3 := Lib.hid hbm
          clear hb hbx hbm
          go_wp2_with fail
          refine (part_at (measN x) k (by omega) TT HTT.out _).mono ?_; rintro e w4 ⟨rfl, hb⟩
          have HKS4 := Lib.hid (HKS3.out.later hb)
          have hbx := block_below hb HBX3.out (block_lt HBX3.out)
          have hbm := block_below hb HBM3.out (block_lt HBM3.out)
          have HBR4 := Lib.hid (below_step HBR3.out hb)
          (have q0 := block_cell hbx 0; have q1 := block_cell hbx 1; have q2 := block_cell hbx 2; have f0 := block_free hbx 0; have f1 := block_free hbx 1; have f2 := block_free hbx 2; have hz := block_lt hbx; simp at q0 q1 q2)
          (have q0 := block_cell hbm 0; have q1 := block_cell hbm 1; have q2 := block_cell hbm 2; have f0 := block_free hbm 0; have f1 := block_free hbm 1; have f2 := block_free hbm 2; have hz := block_lt hbm; simp at q0 q1 q2)
          have HBX4 := Lib.hid hbx
          have HBM4 := Lib.hid hbm
          clear hb hbx hbm
          go_wp2_with fail
          go_roundw
          case rel => exact ⟨k + 1, by omega, (by first | rfl | go_num), HBR4.out, HKS4.out, HBX4.out, HBM4.out⟩
          case measure => simp [intOf] <;> omega
    · go_wp2_with fail
      refine (awake_any _).mono ?_; rintro e w3 ⟨rfl, hb⟩
      have HB3 := Lib.hid (below_step HBR.out hb)
      clear hb
      go_wp2_with fail
      go_ret
      exact ⟨rfl, HB3.out⟩

theorem walk_finds (x : Nd) (n0 : Int) (ao : Option Addr) (n c : Nat) (w : World) (hk : IsKs w ao n x.kids) (hr0 : -9223372036854775808 ≤ n0) (hr : n0 ≤ 9223372036854775807) :
    Calls Try.prog 8 #[aggN x.h x.text ao n c, .int .i64 n0] w fun e w' => e = .returned (.bool true) ∧ Below w.heap.size w w' := by
  by_cases hc : checkN x = 0
  · by_cases hh : x.h = 0
    · exact finds_leaf x n0 ao n c w hk hr0 hr hc hh
    · exact finds_inner x n0 ao n c w hk hr0 hr hc hh
  · exact finds_err x n0 ao n c w hk hr0 hr hc
end Go.Proofs.Ytbodacjhhkjdfaa
