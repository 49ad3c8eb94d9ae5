/- The law NodeFinds: its plain law and its walk. -/
import Derived.Test.YtbodacjhhkjdfaaNy
import Derived.Test.YtbodacjhhkjdfaaNm2
namespace Go.Proofs.Ytbodacjhhkjdfaa
open Go.RowKit

/-! ### The plain law -/
def partP (k : Nat) (m : Trip) : Int := if k = 0 then pB m else if k = 1 then pR m else pL m
theorem partP_is (k : Nat) : isPart (partP k) := by
  unfold isPart
  by_cases h0 : k = 0
  · left; funext m; exact if_pos h0
  · by_cases h1 : k = 1
    · right; left; funext m; unfold partP; rw [if_neg h0, if_pos h1]
    · right; right; funext m; unfold partP; rw [if_neg h0, if_neg h1]
def firstP (k : Nat) : Int := if k = 2 then 1 else 0
/-- the sum of the parts of the first children -/
def SP (l : List Kid) (k j : Nat) : Int := partP k (sumM (msTo l j))
theorem SP_zero (l : List Kid) (k : Nat) : SP l k 0 = 0 := part_zero (partP_is k) l
theorem SP_step {l : List Kid} (h : tame l) (k j : Nat) (hj : j < l.length) : SP l k (j + 1) = SP l k j + partP k l[j].2 ∧ 0 ≤ partP k l[j].2 := part_step (partP_is k) h j hj
theorem SP_le {l : List Kid} (h : tame l) (k j : Nat) (hj : j ≤ l.length) : 0 ≤ SP l k j ∧ SP l k j ≤ 262144 := part_le (partP_is k) h j hj

theorem find_bad {x : Nd} (h : checkN x ≠ 0 ∨ x.h = 0) (k : Nat) (n : Int) : ∃ e, findN x k n = (0, 0, e) ∧ e ≠ 0 := by
  have he : (innerN x).2 ≠ 0 := fun e => by
    obtain ⟨a, b, _⟩ := innerN_ok e
    rcases h with h | h
    · exact h a
    · exact b h
  refine ⟨(innerN x).2, ?_, he⟩
  unfold findN lineN
  rw [chooseN_err he, chooseN_err he, if_neg he]
  split
  · rfl
  · split <;> rfl
theorem inner_ok {x : Nd} (hc : checkN x = 0) (hh : x.h ≠ 0) : (innerN x).2 = 0 := by
  unfold innerN
  rw [if_neg (fun h => hh h.2)]
  exact hc
theorem inner_meas {x : Nd} (hc : checkN x = 0) (hh : x.h ≠ 0) : measN x = sumM (msTo x.kids x.kids.length) := by
  unfold measN
  rw [if_pos hc, sumN_inner hh, msTo_end]
theorem find_yes {x : Nd} (hc : checkN x = 0) (hh : x.h ≠ 0) (k : Nat) (hk : k ≤ 2) (n : Int) (h1 : firstP k ≤ n) (h2 : n < partP k (measN x) + firstP k) :
    ∃ (i : Nat) (hi : i < x.kids.length) (r : Int), findN x k n = ((i : Int), r, 0) ∧ SP x.kids k i + r = n ∧ firstP k ≤ r ∧ r < partP k (x.kids[i]).2 + firstP k := by
  have hio := inner_ok hc hh
  have ht := formed_tame (checkN_zero hc).1
  rw [inner_meas hc hh] at h2
  obtain ⟨i, hi, g1, g2⟩ := find_ex (partP_is k) ht (n := n - firstP k) (by omega) x.kids.length (Nat.le_refl _) (by omega)
  have hs := (SP_step ht k i hi).1
  have hf := find_at (partP_is k) ht hi g1 g2
  unfold SP at hs
  refine ⟨i, hi, n - SP x.kids k i, ?_, by omega, by unfold SP; omega, by unfold SP; omega⟩
  have hcN : ∀ p : Trip → Int, p = partP k → chooseN p x (n - firstP k) = ((i : Int), n - firstP k - SP x.kids k i, 0) := by
    intro p hp
    rw [chooseN_ok hio, if_neg (by omega), hp, hf]
    rfl
  unfold findN
  rcases (show k = 0 ∨ k = 1 ∨ k = 2 by omega) with rfl | rfl | rfl
  · have := hcN pB (by funext m; rfl)
    rw [show firstP 0 = 0 from rfl, Int.sub_zero] at this
    rw [if_pos rfl]; exact this
  · have := hcN pR (by funext m; rfl)
    rw [show firstP 1 = 0 from rfl, Int.sub_zero] at this
    rw [if_neg (by decide), if_pos rfl]; exact this
  · have := hcN pL (by funext m; rfl)
    rw [show firstP 2 = 1 from rfl] at this h1
    rw [if_neg (by decide), if_neg (by decide)]
    unfold lineN
    rw [if_pos hio, if_neg (by omega), this, if_pos rfl]
    simp only [Prod.mk.injEq, true_and, and_true]
    omega
theorem find_no {x : Nd} (hc : checkN x = 0) (hh : x.h ≠ 0) (k : Nat) (hk : k ≤ 2) (n : Int) (h : n < firstP k ∨ partP k (measN x) + firstP k ≤ n) : findN x k n = (0, 0, 3) := by
  have hio := inner_ok hc hh
  have hm : measN x = (innerN x).1 := by rw [(innerN_ok hio).2.2, inner_meas hc hh, msTo_end]
  rw [hm] at h
  have ht := formed_tame (checkN_zero hc).1
  have hpos : 0 ≤ partP k (innerN x).1 := by rw [← hm, inner_meas hc hh]; exact (SP_le ht k _ (Nat.le_refl _)).1
  have hout := chooseN_out (partP_is k) (x := x) (n := n - firstP k) hio (by omega)
  unfold findN
  rcases (show k = 0 ∨ k = 1 ∨ k = 2 by omega) with rfl | rfl | rfl
  · rw [show firstP 0 = 0 from rfl, Int.sub_zero] at hout
    rw [if_pos rfl]; exact hout
  · rw [show firstP 1 = 0 from rfl, Int.sub_zero] at hout
    rw [if_neg (by decide), if_pos rfl]; exact hout
  · rw [show firstP 2 = 1 from rfl] at hout h
    rw [if_neg (by decide), if_neg (by decide)]
    unfold lineN
    rw [if_pos hio]
    by_cases d : n < 1
    · rw [if_pos d]
    · rw [if_neg d]
      have : chooseN pL x (n - 1) = (0, 0, 3) := hout
      rw [this, if_neg (by decide)]

theorem part_at (m : Trip) (k : Nat) (hk : k ≤ 2) (T : Int) (hT : partP k m = T) (w : World) :
    Calls Try.prog 36 #[.agg #[.int .i64 m.1, .int .i64 m.2.1, .int .i64 m.2.2], .int .i64 k] w fun e w' => e = .returned (.int .i64 T) ∧ Below w.heap.size w w' := by
  rw [← hT]; exact part_any m k hk w
theorem find_as (x : Nd) (n0 : Int) (k : Nat) (hk2 : k ≤ 2) (ao : Option Addr) (n c : Nat) (w : World) (hk : IsKs w ao n x.kids) (hr0 : -9223372036854775808 ≤ n0) (hr : n0 ≤ 9223372036854775807) (i r e0 : Int) (hf : findN x k n0 = (i, r, e0)) :
    Calls Try.prog 35 #[.agg #[.int .i64 x.h, .string x.text, .slice ao n c], .int .i64 k, .int .i64 n0] w fun e w' => e = .returned (.tuple #[.int .i64 i, .int .i64 r, .int .i64 e0]) ∧ Below w.heap.size w w' := by
  have h := find_any x n0 k hk2 ao n c w hk hr0 hr
  rw [hf] at h
  exact h

/-! ### The walk -/
set_option maxRecDepth 100000 in
set_option maxHeartbeats 800000 in
theorem finds_err (x : Nd) (n0 : Int) (ao : Option Addr) (n c : Nat) (w : World) (hk : IsKs w ao n x.kids) (hr0 : -9223372036854775808 ≤ n0) (hr : n0 ≤ 9223372036854775807) (hc : checkN x ≠ 0) :
    Calls Try.prog 8 #[aggN x.h x.text ao n c, .int .i64 n0] w fun e w' => e = .returned (.bool true) ∧ Below w.heap.size w w' := by
  have hbad : checkN x ≠ 0 ∨ x.h = 0 := .inl hc
  have hc' : (checkN x == 0) = false := by simpa using hc
  clear hc
  have HK := Lib.hid hk
  have HBAD := Lib.hid hbad
  clear hbad hk
  unfold aggN
  go_enter Try.func8, Try.ntmps8
  go_wp2_with fail
  refine (check_any x ao n c _ (HK.out.box _)).mono ?_; rintro e w1 ⟨rfl, hb⟩
  skip
  obtain ⟨hbw, hbx⟩ := box_later hb
  (have q0 := block_cell hbx 0; have q1 := block_cell hbx 1; have q2 := block_cell hbx 2; have f0 := block_free hbx 0; have f1 := block_free hbx 1; have f2 := block_free hbx 2; have hz := block_lt hbx; simp at q0 q1 q2)
  have HKS := Lib.hid (HK.out.later hbw)
  have HBW := Lib.hid hbw
  have HBX := Lib.hid hbx
  clear hbx hbw
  clear hb
  go_wp2_with fail
  skip
  go_loopw [5] (fun i wr => ∃ k : Nat, k ≤ 3 ∧ i = .int .i64 k ∧ Below w.heap.size w wr ∧ IsKs wr ao n x.kids ∧ wr.heap[w.heap.size]? = some (.cells #[.int .i64 x.h, .string x.text, .slice ao n c] 24 (0, 0))) (fun i _ => 3 - (intOf i).toNat)
  case atStart => exact ⟨0, by omega, rfl, HBW.out, HKS.out, HBX.out⟩
  case round =>
    obtain ⟨k, hk3, rfl, hbr, hks, hbx⟩ := hrel
    (have q0 := block_cell hbx 0; have q1 := block_cell hbx 1; have q2 := block_cell hbx 2; have f0 := block_free hbx 0; have f1 := block_free hbx 1; have f2 := block_free hbx 2; have hz := block_lt hbx; simp at q0 q1 q2)
    have HBR := Lib.hid hbr
    have HKS := Lib.hid hks
    have HBX := Lib.hid hbx
    clear hbx hks hbr
    by_cases hlt : k < 3
    · obtain ⟨e0, hf, hne⟩ := find_bad HBAD.out k n0
      have hne' : (e0 == 0) = false := by simpa using hne
      have HF := Lib.hid hf
      clear hf
      clear hne
      go_wp2_with fail
      refine (find_as x n0 k (by omega) ao n c _ HKS.out hr0 hr 0 0 e0 HF.out).mono ?_; rintro e w2 ⟨rfl, hb⟩
      have HK2 := Lib.hid (HKS.out.later hb)
      have HBX2 := Lib.hid (block_below hb HBX.out (block_lt HBX.out))
      have HBR2 := Lib.hid (below_step HBR.out hb)
      clear hb
      go_wp2_with fail
      go_roundw
      case rel => exact ⟨k + 1, by omega, by go_num, HBR2.out, HK2.out, HBX2.out⟩
      case measure => simp [intOf]; omega
    · go_wp2_with fail
      refine (awake_any _).mono ?_; rintro e w2 ⟨rfl, hb⟩
      have HB2 := Lib.hid (below_step HBR.out hb)
      clear hb
      go_wp2_with fail
      go_ret
      exact ⟨rfl, HB2.out⟩

set_option maxRecDepth 100000 in
set_option maxHeartbeats 800000 in
theorem finds_leaf (x : Nd) (n0 : Int) (ao : Option Addr) (n c : Nat) (w : World) (hk : IsKs w ao n x.kids) (hr0 : -9223372036854775808 ≤ n0) (hr : n0 ≤ 9223372036854775807) (hc : checkN x = 0) (hh : x.h = 0) :
    Calls Try.prog 8 #[aggN x.h x.text ao n c, .int .i64 n0] w fun e w' => e = .returned (.bool true) ∧ Below w.heap.size w w' := by
  have hbad : checkN x ≠ 0 ∨ x.h = 0 := .inr hh
  have HC := Lib.hid hc
  have HH := Lib.hid hh
  clear hc hh
  have HK := Lib.hid hk
  have HBAD := Lib.hid hbad
  clear hbad hk
  unfold aggN
  go_enter Try.func8, Try.ntmps8
  go_wp2_with fail
  refine (check_any x ao n c _ (HK.out.box _)).mono ?_; rintro e w1 ⟨rfl, hb⟩
  rw [HC.out]; have hh := HH.out
  obtain ⟨hbw, hbx⟩ := box_later hb
  (have q0 := block_cell hbx 0; have q1 := block_cell hbx 1; have q2 := block_cell hbx 2; have f0 := block_free hbx 0; have f1 := block_free hbx 1; have f2 := block_free hbx 2; have hz := block_lt hbx; simp at q0 q1 q2)
  have HKS := Lib.hid (HK.out.later hbw)
  have HBW := Lib.hid hbw
  have HBX := Lib.hid hbx
  clear hbx hbw
  clear hb
  go_wp2_with fail
  clear hh
  go_loopw [5] (fun i wr => ∃ k : Nat, k ≤ 3 ∧ i = .int .i64 k ∧ Below w.heap.size w wr ∧ IsKs wr ao n x.kids ∧ wr.heap[w.heap.size]? = some (.cells #[.int .i64 x.h, .string x.text, .slice ao n c] 24 (0, 0))) (fun i _ => 3 - (intOf i).toNat)
  case atStart => exact ⟨0, by omega, rfl, HBW.out, HKS.out, HBX.out⟩
  case round =>
    obtain ⟨k, hk3, rfl, hbr, hks, hbx⟩ := hrel
    (have q0 := block_cell hbx 0; have q1 := block_cell hbx 1; have q2 := block_cell hbx 2; have f0 := block_free hbx 0; have f1 := block_free hbx 1; have f2 := block_free hbx 2; have hz := block_lt hbx; simp at q0 q1 q2)
    have HBR := Lib.hid hbr
    have HKS := Lib.hid hks
    have HBX := Lib.hid hbx
    clear hbx hks hbr
    by_cases hlt : k < 3
    · obtain ⟨e0, hf, hne⟩ := find_bad HBAD.out k n0
      have hne' : (e0 == 0) = false := by simpa using hne
      have HF := Lib.hid hf
      clear hf
      clear hne
      go_wp2_with fail
      refine (find_as x n0 k (by omega) ao n c _ HKS.out hr0 hr 0 0 e0 HF.out).mono ?_; rintro e w2 ⟨rfl, hb⟩
      have HK2 := Lib.hid (HKS.out.later hb)
      have HBX2 := Lib.hid (block_below hb HBX.out (block_lt HBX.out))
      have HBR2 := Lib.hid (below_step HBR.out hb)
      clear hb
      go_wp2_with fail
      go_roundw
      case rel => exact ⟨k + 1, by omega, by go_num, HBR2.out, HK2.out, HBX2.out⟩
      case measure => simp [intOf]; omega
    · go_wp2_with fail
      refine (awake_any _).mono ?_; rintro e w2 ⟨rfl, hb⟩
      have HB2 := Lib.hid (below_step HBR.out hb)
      clear hb
      go_wp2_with fail
      go_ret
      exact ⟨rfl, HB2.out⟩

end Go.Proofs.Ytbodacjhhkjdfaa
