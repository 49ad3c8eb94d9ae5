/- The law NodeMatches: its walk. -/
import Derived.Test.YtbodacjhhkjdfaaNy
import Derived.Test.YtbodacjhhkjdfaaRegU
namespace Go.Proofs.Ytbodacjhhkjdfaa
open Go.RowKit

set_option maxRecDepth 100000 in
set_option maxHeartbeats 8000000 in
theorem walk_matches (x : Nd) (n0 : Int) (ao : Option Addr) (n c : Nat) (w : World) (hk : IsKs w ao n x.kids) (hr0 : -9223372036854775808 ≤ n0) (hr : n0 ≤ 9223372036854775807) (hreach : n * 32 ≤ 140737488351232) :
    Calls Try.prog 3 #[aggN x.h x.text ao n c, .int .i64 n0] w fun e w' => e = .returned (.bool true) ∧ Below w.heap.size w w' := by
  have hl := hk.1
  have hn63 : n ≤ 9223372036854775807 := by omega
  have HK := Lib.hid hk
  have HL := Lib.hid hl
  clear hl hk
  unfold aggN
  go_enter Try.func3, Try.ntmps3
  go_wp2_with fail
  refine (copyNode_any x ao n c _ (HK.out.box _) hreach).mono ?_; rintro e w1 ⟨v, rfl, ⟨s, rfl, hs⟩, hb⟩
  have bw1 := below_step ((Below.refl _ _).alloc (Nat.le_refl _) _) hb
  have hx_w1 := block_below hb (block_new w (.cells #[.int .i64 x.h, .string x.text, .slice ao n c] 24)) (block_lt (block_new w (.cells #[.int .i64 x.h, .string x.text, .slice ao n c] 24)))
  have BW1 := Lib.hid bw1
  have HX_W1 := Lib.hid hx_w1
  clear hx_w1 bw1
  clear hb
  obtain ⟨ai, ci, rfl, hi, _⟩ := hs.ks
  rw [HL.out]
  rw [HL.out] at hi
  have HX := Lib.hid (HK.out.later BW1.out)
  have HI := Lib.hid hi
  clear hi hs
  go_wp2_with fail
  refine (measure_any x ai n ci _ (HI.out.box _)).mono ?_; rintro e w2 ⟨rfl, hb⟩
  replace HI := Lib.hid ((HI.out.box _).later hb)
  replace HX := Lib.hid ((HX.out.box _).later hb)
  have bw2 := below_step ((BW1.out).alloc BW1.out.size _) hb
  have hx_w2 := block_below hb (block_alloc HX_W1.out _) (block_lt (block_alloc HX_W1.out _))
  have hi_w2 := block_below hb (block_new w1 (.cells #[.int .i64 x.h, .string x.text, .slice ai n ci] 24)) (block_lt (block_new w1 (.cells #[.int .i64 x.h, .string x.text, .slice ai n ci] 24)))
  have BW2 := Lib.hid bw2
  have HX_W2 := Lib.hid hx_w2
  have HI_W2 := Lib.hid hi_w2
  clear hi_w2 hx_w2 bw2
  clear hb
  unfold aggM
  have kk := HI_W2.out
  (have q0 := block_cell kk 0; have q1 := block_cell kk 1; have q2 := block_cell kk 2; have f0 := block_free kk 0; have f1 := block_free kk 1; have f2 := block_free kk 2; have hz := block_lt kk; simp at q0 q1 q2)
  clear kk
  have kk := HX_W2.out
  (have q0 := block_cell kk 0; have q1 := block_cell kk 1; have q2 := block_cell kk 2; have f0 := block_free kk 0; have f1 := block_free kk 1; have f2 := block_free kk 2; have hz := block_lt kk; simp at q0 q1 q2)
  clear kk
  go_wp2_with fail
  refine (refMeasure_any x ao n c _ (HX.out.box _)).mono ?_; rintro e w3 ⟨rfl, hb⟩
  replace HI := Lib.hid ((HI.out.box _).later hb)
  replace HX := Lib.hid ((HX.out.box _).later hb)
  have bw3 := below_step ((BW2.out).alloc BW2.out.size _) hb
  have hx_w3 := block_below hb (block_alloc HX_W2.out _) (block_lt (block_alloc HX_W2.out _))
  have hi_w3 := block_below hb (block_alloc HI_W2.out _) (block_lt (block_alloc HI_W2.out _))
  have hm_w3 := block_below hb (block_new w2 (.cells #[.int .i64 (measN x).1, .int .i64 (measN x).2.1, .int .i64 (measN x).2.2] 27)) (block_lt (block_new w2 (.cells #[.int .i64 (measN x).1, .int .i64 (measN x).2.1, .int .i64 (measN x).2.2] 27)))
  have BW3 := Lib.hid bw3
  have HX_W3 := Lib.hid hx_w3
  have HI_W3 := Lib.hid hi_w3
  have HM_W3 := Lib.hid hm_w3
  clear hm_w3 hi_w3 hx_w3 bw3
  clear hb
  unfold aggM
  go_wp2_with fail
  have HKM := Lib.hid (block_new w3 (.cells #[.int .i64 (measN x).1, .int .i64 (measN x).2.1, .int .i64 (measN x).2.2] 27))
  have HMM := Lib.hid (block_alloc HM_W3.out (.cells #[.int .i64 (measN x).1, .int .i64 (measN x).2.1, .int .i64 (measN x).2.2] 27))
  have HII := Lib.hid (block_alloc HI_W3.out (.cells #[.int .i64 (measN x).1, .int .i64 (measN x).2.1, .int .i64 (measN x).2.2] 27))
  have HXX := Lib.hid (block_alloc HX_W3.out (.cells #[.int .i64 (measN x).1, .int .i64 (measN x).2.1, .int .i64 (measN x).2.2] 27))
  have HB0 := Lib.hid (BW3.out.alloc BW3.out.size (.cells #[.int .i64 (measN x).1, .int .i64 (measN x).2.1, .int .i64 (measN x).2.2] 27))
  replace HI := Lib.hid (HI.out.box (.cells #[.int .i64 (measN x).1, .int .i64 (measN x).2.1, .int .i64 (measN x).2.2] 27))
  replace HX := Lib.hid (HX.out.box (.cells #[.int .i64 (measN x).1, .int .i64 (measN x).2.1, .int .i64 (measN x).2.2] 27))
  refine wp_region_specs (by kernel_rfl) (by decide) (by kernel_rfl) ?_
  simp only [fill, Act.put, List.setIfInBounds_toArray, List.set_cons_zero, List.set_cons_succ, Nat.zero_add, Nat.reduceAdd]
  apply OpsOK.eq
  · intro vs u hb hd
    clear hd
    have q := block_below hb HMM.out (block_lt HMM.out)
    have p0 := block_cell q 0
    have p1 := block_cell q 1
    have p2 := block_cell q 2
    simp at p0 p1 p2
    clear q
    go_wp2_with fail
    exact ⟨rfl, _, rfl, Below.refl _ _, rfl⟩
  apply OpsOK.eq
  · intro vs u hb hd
    clear hd
    have q := block_below hb HKM.out (block_lt HKM.out)
    have p0 := block_cell q 0
    have p1 := block_cell q 1
    have p2 := block_cell q 2
    simp at p0 p1 p2
    clear q
    go_wp2_with fail
    exact ⟨rfl, _, rfl, Below.refl _ _, rfl⟩
  apply OpsOK.eq
  · intro vs u hb hd
    simp [Region.binds] at hd
    obtain ⟨e0, e1⟩ := hd
    simp only [e0, e1]
    go_wp2_with fail
    exact ⟨rfl, _, rfl, Below.refl _ _, rfl⟩
  apply OpsOK.eq
  · intro vs u hb hd
    simp [Region.binds] at hd
    have e2 := hd
    clear hd
    simp only [e2]
    go_wp2_with fail
    exact ⟨rfl, _, rfl, Below.refl _ _, rfl⟩
  apply OpsOK.eq
  · intro vs u hb hd
    simp [Region.binds] at hd
    have e3 := hd
    clear hd
    simp only [e3]
    go_wp2_with fail
    exact ⟨rfl, _, rfl, Below.refl _ _, rfl⟩
  apply OpsOK.eq
  · intro vs u hb hd
    simp [Region.binds] at hd
    have e3 := hd
    clear hd
    simp only [e3]
    go_wp2_with fail
    exact ⟨rfl, _, rfl, Below.refl _ _, rfl⟩
  apply OpsOK.eq
  · intro vs u hb hd
    simp [Region.binds] at hd
    obtain ⟨e4, e5, e3⟩ := hd
    simp only [e4, e5, e3]
    go_wp2_with fail
    exact ⟨rfl, _, rfl, Below.refl _ _, rfl⟩
  apply OpsOK.eq
  · intro vs u hb hd
    simp [Region.binds] at hd
    obtain ⟨e3, e6⟩ := hd
    simp only [e3, e6]
    go_wp2_with fail
    exact ⟨rfl, _, rfl, Below.refl _ _, rfl⟩
  apply OpsOK.eq
  · intro vs u hb hd
    simp [Region.binds] at hd
    obtain ⟨e7, e3⟩ := hd
    simp only [e7, e3]
    go_wp2_with fail
    exact ⟨rfl, _, rfl, Below.refl _ _, rfl⟩
  apply OpsOK.eq
  · intro vs u hb hd
    simp [Region.binds] at hd
    have e8 := hd
    clear hd
    simp only [e8]
    have q := block_below hb HII.out (block_lt HII.out)
    have p0 := block_cell q 0
    have p1 := block_cell q 1
    have p2 := block_cell q 2
    simp at p0 p1 p2
    clear q
    go_wp2_with fail
    exact ⟨rfl, _, rfl, Below.refl _ _, rfl⟩
  apply OpsOK.eq
  · intro vs u hb hd
    simp [Region.binds] at hd
    obtain ⟨e9, e8⟩ := hd
    simp only [e9, e8]
    have hkx := HI.out.later hb
    have HKX := Lib.hid hkx
    clear hkx
    go_wp2_with fail
    refine (check_any x ai n ci _ HKX.out).mono ?_; rintro e w' ⟨rfl, hbel⟩; go_wp2_with fail; exact ⟨rfl, _, rfl, hbel, rfl⟩
  apply OpsOK.eq
  · intro vs u hb hd
    simp [Region.binds] at hd
    have e8 := hd
    clear hd
    simp only [e8]
    have q := block_below hb HXX.out (block_lt HXX.out)
    have p0 := block_cell q 0
    have p1 := block_cell q 1
    have p2 := block_cell q 2
    simp at p0 p1 p2
    clear q
    go_wp2_with fail
    exact ⟨rfl, _, rfl, Below.refl _ _, rfl⟩
  apply OpsOK.eq
  · intro vs u hb hd
    simp [Region.binds] at hd
    obtain ⟨e11, e10, e8⟩ := hd
    simp only [e11, e10, e8]
    have hkx := HX.out.later hb
    have HKX := Lib.hid hkx
    clear hkx
    go_wp2_with fail
    refine (refCheck_any x ao n c _ HKX.out).mono ?_; rintro e w' ⟨rfl, hbel⟩; go_wp2_with fail; exact ⟨rfl, _, rfl, hbel, rfl⟩
  apply OpsOK.eq
  · intro vs u hb hd
    simp [Region.binds] at hd
    obtain ⟨e10, e12, e8⟩ := hd
    simp only [e10, e12, e8]
    go_wp2_with fail
    exact ⟨rfl, _, rfl, Below.refl _ _, rfl⟩
  apply OpsOK.eq
  · intro vs u hb hd
    simp [Region.binds] at hd
    obtain ⟨e8, e13⟩ := hd
    simp only [e8, e13]
    go_wp2_with fail
    exact ⟨rfl, _, rfl, Below.refl _ _, rfl⟩
  refine OpsOK.done ?_
  intro vs u4 hbu hS
  have h14 := hS 14 (by decide)
  simp at h14
  simp only [h14]
  clear h14
  clear hS
  have BU4 := Lib.hid (below_step HB0.out hbu)
  have HI_U4 := Lib.hid (block_below hbu HII.out (block_lt HII.out))
  have HX_U4 := Lib.hid (block_below hbu HXX.out (block_lt HXX.out))
  replace HI := Lib.hid (HI.out.later hbu)
  replace HX := Lib.hid (HX.out.later hbu)
  clear hbu
  
  have kk := HI_U4.out
  (have q0 := block_cell kk 0; have q1 := block_cell kk 1; have q2 := block_cell kk 2; have f0 := block_free kk 0; have f1 := block_free kk 1; have f2 := block_free kk 2; have hz := block_lt kk; simp at q0 q1 q2)
  clear kk
  have kk := HX_U4.out
  (have q0 := block_cell kk 0; have q1 := block_cell kk 1; have q2 := block_cell kk 2; have f0 := block_free kk 0; have f1 := block_free kk 1; have f2 := block_free kk 2; have hz := block_lt kk; simp at q0 q1 q2)
  clear kk
  go_wp2_with fail
  refine (child_any x n0 ai n ci _ HI.out hr).mono ?_; rintro e w4 ⟨rfl, hb⟩
  replace HI := Lib.hid (HI.out.later hb)
  replace HX := Lib.hid (HX.out.later hb)
  have bw4 := below_step (BU4.out) hb
  have hi_w4 := block_below hb HI_U4.out (block_lt HI_U4.out)
  have hx_w4 := block_below hb HX_U4.out (block_lt HX_U4.out)
  have BW4 := Lib.hid bw4
  have HI_W4 := Lib.hid hi_w4
  have HX_W4 := Lib.hid hx_w4
  clear hx_w4 hi_w4 bw4
  clear hb
  unfold tup3
  have kk := HI_W4.out
  (have q0 := block_cell kk 0; have q1 := block_cell kk 1; have q2 := block_cell kk 2; have f0 := block_free kk 0; have f1 := block_free kk 1; have f2 := block_free kk 2; have hz := block_lt kk; simp at q0 q1 q2)
  clear kk
  have kk := HX_W4.out
  (have q0 := block_cell kk 0; have q1 := block_cell kk 1; have q2 := block_cell kk 2; have f0 := block_free kk 0; have f1 := block_free kk 1; have f2 := block_free kk 2; have hz := block_lt kk; simp at q0 q1 q2)
  clear kk
  go_wp2_with fail
  refine (refChild_any x n0 ao n c _ HX.out hr0 hr).mono ?_; rintro e w5 ⟨rfl, hb⟩
  replace HI := Lib.hid (HI.out.later hb)
  replace HX := Lib.hid (HX.out.later hb)
  have bw5 := below_step (BW4.out) hb
  have hi_w5 := block_below hb HI_W4.out (block_lt HI_W4.out)
  have hx_w5 := block_below hb HX_W4.out (block_lt HX_W4.out)
  have BW5 := Lib.hid bw5
  have HI_W5 := Lib.hid hi_w5
  have HX_W5 := Lib.hid hx_w5
  clear hx_w5 hi_w5 bw5
  clear hb
  unfold tup3
  have kk := HI_W5.out
  (have q0 := block_cell kk 0; have q1 := block_cell kk 1; have q2 := block_cell kk 2; have f0 := block_free kk 0; have f1 := block_free kk 1; have f2 := block_free kk 2; have hz := block_lt kk; simp at q0 q1 q2)
  clear kk
  have kk := HX_W5.out
  (have q0 := block_cell kk 0; have q1 := block_cell kk 1; have q2 := block_cell kk 2; have f0 := block_free kk 0; have f1 := block_free kk 1; have f2 := block_free kk 2; have hz := block_lt kk; simp at q0 q1 q2)
  clear kk
  go_wp2_with fail
  refine (rune_any x n0 ai n ci _ HI.out hr).mono ?_; rintro e w6 ⟨rfl, hb⟩
  replace HI := Lib.hid (HI.out.later hb)
  replace HX := Lib.hid (HX.out.later hb)
  have bw6 := below_step (BW5.out) hb
  have hi_w6 := block_below hb HI_W5.out (block_lt HI_W5.out)
  have hx_w6 := block_below hb HX_W5.out (block_lt HX_W5.out)
  have BW6 := Lib.hid bw6
  have HI_W6 := Lib.hid hi_w6
  have HX_W6 := Lib.hid hx_w6
  clear hx_w6 hi_w6 bw6
  clear hb
  unfold tup3
  have kk := HI_W6.out
  (have q0 := block_cell kk 0; have q1 := block_cell kk 1; have q2 := block_cell kk 2; have f0 := block_free kk 0; have f1 := block_free kk 1; have f2 := block_free kk 2; have hz := block_lt kk; simp at q0 q1 q2)
  clear kk
  have kk := HX_W6.out
  (have q0 := block_cell kk 0; have q1 := block_cell kk 1; have q2 := block_cell kk 2; have f0 := block_free kk 0; have f1 := block_free kk 1; have f2 := block_free kk 2; have hz := block_lt kk; simp at q0 q1 q2)
  clear kk
  go_wp2_with fail
  refine (refRune_any x n0 ao n c _ HX.out hr0 hr).mono ?_; rintro e w7 ⟨rfl, hb⟩
  replace HI := Lib.hid (HI.out.later hb)
  replace HX := Lib.hid (HX.out.later hb)
  have bw7 := below_step (BW6.out) hb
  have hi_w7 := block_below hb HI_W6.out (block_lt HI_W6.out)
  have hx_w7 := block_below hb HX_W6.out (block_lt HX_W6.out)
  have BW7 := Lib.hid bw7
  have HI_W7 := Lib.hid hi_w7
  have HX_W7 := Lib.hid hx_w7
  clear hx_w7 hi_w7 bw7
  clear hb
  unfold tup3
  have kk := HI_W7.out
  (have q0 := block_cell kk 0; have q1 := block_cell kk 1; have q2 := block_cell kk 2; have f0 := block_free kk 0; have f1 := block_free kk 1; have f2 := block_free kk 2; have hz := block_lt kk; simp at q0 q1 q2)
  clear kk
  have kk := HX_W7.out
  (have q0 := block_cell kk 0; have q1 := block_cell kk 1; have q2 := block_cell kk 2; have f0 := block_free kk 0; have f1 := block_free kk 1; have f2 := block_free kk 2; have hz := block_lt kk; simp at q0 q1 q2)
  clear kk
  go_wp2_with fail
  refine (line_any x n0 ai n ci _ HI.out hr0 hr).mono ?_; rintro e w8 ⟨rfl, hb⟩
  replace HI := Lib.hid (HI.out.later hb)
  replace HX := Lib.hid (HX.out.later hb)
  have bw8 := below_step (BW7.out) hb
  have hi_w8 := block_below hb HI_W7.out (block_lt HI_W7.out)
  have hx_w8 := block_below hb HX_W7.out (block_lt HX_W7.out)
  have BW8 := Lib.hid bw8
  have HI_W8 := Lib.hid hi_w8
  have HX_W8 := Lib.hid hx_w8
  clear hx_w8 hi_w8 bw8
  clear hb
  unfold tup3
  have kk := HI_W8.out
  (have q0 := block_cell kk 0; have q1 := block_cell kk 1; have q2 := block_cell kk 2; have f0 := block_free kk 0; have f1 := block_free kk 1; have f2 := block_free kk 2; have hz := block_lt kk; simp at q0 q1 q2)
  clear kk
  have kk := HX_W8.out
  (have q0 := block_cell kk 0; have q1 := block_cell kk 1; have q2 := block_cell kk 2; have f0 := block_free kk 0; have f1 := block_free kk 1; have f2 := block_free kk 2; have hz := block_lt kk; simp at q0 q1 q2)
  clear kk
  go_wp2_with fail
  refine (refLine_any x n0 ao n c _ HX.out hr0 hr).mono ?_; rintro e w9 ⟨rfl, hb⟩
  replace HI := Lib.hid (HI.out.later hb)
  replace HX := Lib.hid (HX.out.later hb)
  have bw9 := below_step (BW8.out) hb
  have hi_w9 := block_below hb HI_W8.out (block_lt HI_W8.out)
  have hx_w9 := block_below hb HX_W8.out (block_lt HX_W8.out)
  have BW9 := Lib.hid bw9
  have HI_W9 := Lib.hid hi_w9
  have HX_W9 := Lib.hid hx_w9
  clear hx_w9 hi_w9 bw9
  clear hb
  unfold tup3
  have kk := HI_W9.out
  (have q0 := block_cell kk 0; have q1 := block_cell kk 1; have q2 := block_cell kk 2; have f0 := block_free kk 0; have f1 := block_free kk 1; have f2 := block_free kk 2; have hz := block_lt kk; simp at q0 q1 q2)
  clear kk
  have kk := HX_W9.out
  (have q0 := block_cell kk 0; have q1 := block_cell kk 1; have q2 := block_cell kk 2; have f0 := block_free kk 0; have f1 := block_free kk 1; have f2 := block_free kk 2; have hz := block_lt kk; simp at q0 q1 q2)
  clear kk
  go_wp2_with fail
  refine (encode_any x ai n ci _ HI.out).mono ?_; rintro e w10 ⟨rfl, hb⟩
  replace HI := Lib.hid (HI.out.later hb)
  replace HX := Lib.hid (HX.out.later hb)
  have bw10 := below_step (BW9.out) hb
  have hi_w10 := block_below hb HI_W9.out (block_lt HI_W9.out)
  have hx_w10 := block_below hb HX_W9.out (block_lt HX_W9.out)
  have BW10 := Lib.hid bw10
  have HI_W10 := Lib.hid hi_w10
  have HX_W10 := Lib.hid hx_w10
  clear hx_w10 hi_w10 bw10
  clear hb
  have kk := HI_W10.out
  (have q0 := block_cell kk 0; have q1 := block_cell kk 1; have q2 := block_cell kk 2; have f0 := block_free kk 0; have f1 := block_free kk 1; have f2 := block_free kk 2; have hz := block_lt kk; simp at q0 q1 q2)
  clear kk
  have kk := HX_W10.out
  (have q0 := block_cell kk 0; have q1 := block_cell kk 1; have q2 := block_cell kk 2; have f0 := block_free kk 0; have f1 := block_free kk 1; have f2 := block_free kk 2; have hz := block_lt kk; simp at q0 q1 q2)
  clear kk
  go_wp2_with fail
  refine (refEncode_any x ao n c _ HX.out).mono ?_; rintro e w11 ⟨rfl, hb⟩
  replace HI := Lib.hid (HI.out.later hb)
  replace HX := Lib.hid (HX.out.later hb)
  have bw11 := below_step (BW10.out) hb
  have hi_w11 := block_below hb HI_W10.out (block_lt HI_W10.out)
  have hx_w11 := block_below hb HX_W10.out (block_lt HX_W10.out)
  have BW11 := Lib.hid bw11
  have HI_W11 := Lib.hid hi_w11
  have HX_W11 := Lib.hid hx_w11
  clear hx_w11 hi_w11 bw11
  clear hb
  have kk := HI_W11.out
  (have q0 := block_cell kk 0; have q1 := block_cell kk 1; have q2 := block_cell kk 2; have f0 := block_free kk 0; have f1 := block_free kk 1; have f2 := block_free kk 2; have hz := block_lt kk; simp at q0 q1 q2)
  clear kk
  have kk := HX_W11.out
  (have q0 := block_cell kk 0; have q1 := block_cell kk 1; have q2 := block_cell kk 2; have f0 := block_free kk 0; have f1 := block_free kk 1; have f2 := block_free kk 2; have hz := block_lt kk; simp at q0 q1 q2)
  clear kk
  go_wp2_with fail
  refine (equalNode_any x x ai ao n n ci c _ HI.out HX.out hn63).mono ?_; rintro e w12 ⟨rfl, hb⟩
  rw [decide_eq_true rfl]
  have bw12 := below_step (BW11.out) hb
  have hi_w12 := block_below hb HI_W11.out (block_lt HI_W11.out)
  have hx_w12 := block_below hb HX_W11.out (block_lt HX_W11.out)
  have BW12 := Lib.hid bw12
  have HI_W12 := Lib.hid hi_w12
  have HX_W12 := Lib.hid hx_w12
  clear hx_w12 hi_w12 bw12
  clear hb
  go_wp2_with fail
  refine (awake_any _).mono ?_; rintro e w13 ⟨rfl, hb⟩
  have bw13 := below_step (BW12.out) hb
  have hi_w13 := block_below hb HI_W12.out (block_lt HI_W12.out)
  have hx_w13 := block_below hb HX_W12.out (block_lt HX_W12.out)
  have BW13 := Lib.hid bw13
  have HI_W13 := Lib.hid hi_w13
  have HX_W13 := Lib.hid hx_w13
  clear hx_w13 hi_w13 bw13
  clear hb
  go_wp2_with fail
  go_ret
  exact ⟨rfl, BW13.out⟩
end Go.Proofs.Ytbodacjhhkjdfaa
