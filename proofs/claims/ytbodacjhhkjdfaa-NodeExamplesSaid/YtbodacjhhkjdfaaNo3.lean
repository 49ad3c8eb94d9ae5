/- The contract of the reference's Decode. -/
import Derived.Test.YtbodacjhhkjdfaaNo2
namespace Go.Proofs.Ytbodacjhhkjdfaa
open Go.RowKit

set_option maxRecDepth 100000 in
set_option maxHeartbeats 8000000 in
theorem refDecode_inner (s : ByteArray) (w : World) (h1 : 0 < s.size) (hs : s.size ≤ 4294967296) (hne : hdN s ≠ 0) (m : Nat) (hm : m = (s.size - 1) / 12) :
    Calls Try.prog 28 #[.string s] w fun e w' => ∃ v, e = .returned (.tuple #[v, .int .i64 (decE s)]) ∧ OwnN w.heap.size w' v (decN s) ∧ Below w.heap.size w w' := by
  have h0 := hdN_at s h1
  have hd256 := hdN_lt s
  obtain ⟨hd, hhd⟩ : ∃ h, hdN s = h := ⟨_, rfl⟩
  rw [hhd] at h0 hne hd256
  have hneB : ((hd : Int) == 0) = false := by simp; omega
  have hemp := nonempty_list h1
  have hlt8 : hd < 256 := hd256
  obtain ⟨i0, hi, hz0, hz1, hz2⟩ := info_parts infoK
  obtain ⟨RR, hRR⟩ : ∃ x, decN s = x := ⟨_, rfl⟩
  obtain ⟨EE, hEE⟩ : ∃ e : Int, decE s = e := ⟨_, rfl⟩
  rw [hRR, hEE]
  have hmb : m ≤ 357913942 := by omega
  have hm12 : 12 * m ≤ s.size - 1 := by omega
  have hm13 : s.size - 1 < 12 * m + 12 := by omega
  have hpos : 0 < hd := by omega
  have HHD := Lib.hid hhd
  have HNE := Lib.hid hne
  have HRR := Lib.hid hRR
  have HEE := Lib.hid hEE
  have HM := Lib.hid hm
  clear hm hEE hRR hne hhd
  go_enter Try.func28, Try.ntmps28
  go_wp2_with fail
  obtain ⟨bv, hbv⟩ : ∃ b, b = w.heap.size + 1 := ⟨_, rfl⟩
  have HBW := Lib.hid (((Below.refl w.heap.size w).alloc (Nat.le_refl _) (.cells #[.int .i64 0, .string ⟨#[]⟩, .slice none 0 0] 24)).alloc (by simp) (.cells #[.int .i64 hd, .string ⟨#[]⟩, .slice none 0 0] 24))
  have HZ0 := Lib.hid (block_alloc (block_new w (.cells #[.int .i64 0, .string ⟨#[]⟩, .slice none 0 0] 24)) (.cells #[.int .i64 hd, .string ⟨#[]⟩, .slice none 0 0] 24))
  have HBL := Lib.hid (block_new' (w.alloc (.cells #[.int .i64 0, .string ⟨#[]⟩, .slice none 0 0] 24)) (.cells #[.int .i64 hd, .string ⟨#[]⟩, .slice none 0 0] 24) bv (by rw [hbv]; simp))
  have hge : w.heap.size + 1 ≤ bv := by omega
  obtain ⟨base, hbase⟩ : ∃ b, b = ((w.alloc (.cells #[.int .i64 0, .string ⟨#[]⟩, .slice none 0 0] 24)).alloc (.cells #[.int .i64 hd, .string ⟨#[]⟩, .slice none 0 0] 24)).heap.size := ⟨_, rfl⟩
  have HSZU := Lib.hid (Nat.le_of_eq hbase)
  have hbvb : bv < base := by rw [hbase, hbv]; simp
  have hwb : w.heap.size < base := by omega
  clear hbase
  rw [← hbv]
  clear hbv
  go_loopw [5] (fun iv wr => ∃ (k j : Nat) (ao : Option Addr) (cap : Nat), k ≤ m ∧ iv = .int .i64 j ∧ Hid (j = 1 + 12 * k) ∧ Below w.heap.size w wr ∧ wr.heap[w.heap.size]? = some (.cells #[.int .i64 0, .string ⟨#[]⟩, .slice none 0 0] 24 (0, 0)) ∧ wr.heap[bv]? = some (.cells #[.int .i64 hd, .string ⟨#[]⟩, .slice ao k cap] 24 (0, 0)) ∧ OwnKs base wr (.slice ao k cap) k (kidsTo s k) ∧ base ≤ wr.heap.size) (fun iv _ => s.size + 12 - (intOf iv).toNat)
  case atStart => exact ⟨0, 1, none, 0, Nat.zero_le _, rfl, Lib.hid rfl, HBW.out, HZ0.out, HBL.out, ⟨rfl, by simp [kidsTo], World.ownsRow_nil _ _ _ _⟩, HSZU.out⟩
  case round =>
    obtain ⟨k, j, ao, cap, hkm, rfl, hj, hbr, hzb, hx, hown, hszr⟩ := hrel
    (have q0 := block_cell hx 0; have q1 := block_cell hx 1; have q2 := block_cell hx 2; have f0 := block_free hx 0; have f1 := block_free hx 1; have f2 := block_free hx 2; have hz := block_lt hx; simp at q0 q1 q2)
    by_cases hlt : k < m
    · have hj12 : j + 12 ≤ s.size := by have h := hj.out; omega
      have hj1 : j < s.size := by omega
      have ht6 : ((j : Int) + 6).toNat = j + 6 := by omega
      have ht8 : ((j : Int) + 8).toNat = j + 8 := by omega
      have ht10 : ((j : Int) + 10).toNat = j + 10 := by omega
      have ht12 : ((j : Int) + 12).toNat = j + 12 := by omega
      obtain ⟨g0, hg0⟩ : ∃ g, getV (s.extract j (j + 6)) = g := ⟨_, rfl⟩
      obtain ⟨g1, hg1⟩ : ∃ g, getV (s.extract (j + 6) (j + 8)) = g := ⟨_, rfl⟩
      obtain ⟨g2, hg2⟩ : ∃ g, getV (s.extract (j + 8) (j + 10)) = g := ⟨_, rfl⟩
      obtain ⟨g3, hg3⟩ : ∃ g, getV (s.extract (j + 10) (j + 12)) = g := ⟨_, rfl⟩
      have hgb0 : g0 < 281474976710656 := by have h := getV_lt (s.extract j (j + 6)) 6 (by rw [ex_size _ _ _ (by omega)]; omega); rw [hg0] at h; exact Nat.lt_of_lt_of_eq h (by decide)
      have hgb1 : g1 < 65536 := by have h := getV_lt (s.extract (j + 6) (j + 8)) 2 (by rw [ex_size _ _ _ (by omega)]; omega); rw [hg1] at h; exact Nat.lt_of_lt_of_eq h (by decide)
      have hgb2 : g2 < 65536 := by have h := getV_lt (s.extract (j + 8) (j + 10)) 2 (by rw [ex_size _ _ _ (by omega)]; omega); rw [hg2] at h; exact Nat.lt_of_lt_of_eq h (by decide)
      have hgb3 : g3 < 65536 := by have h := getV_lt (s.extract (j + 10) (j + 12)) 2 (by rw [ex_size _ _ _ (by omega)]; omega); rw [hg3] at h; exact Nat.lt_of_lt_of_eq h (by decide)
      have hnext : kidsTo s k ++ [((g0 : Int), (g1 : Int), (g2 : Int), (g3 : Int))] = kidsTo s (k + 1) := by
        rw [kidsTo_succ]
        unfold kidAt
        rw [← hj.out, hg0, hg1, hg2, hg3]
      have hrng : ∀ x ∈ kidsTo s (k + 1), 0 ≤ x.1 ∧ x.1 ≤ 18446744073709551615 := by
        intro x hxm
        rw [← hnext, List.mem_append, List.mem_singleton] at hxm
        rcases hxm with hxm | rfl
        · exact hown.2.1 x hxm
        · simp only; omega
      have HX := Lib.hid hx
      have HZ := Lib.hid hzb
      have HOWN := Lib.hid hown
      have HBR := Lib.hid hbr
      have HNEXT := Lib.hid hnext
      have HRNG := Lib.hid hrng
      have HG0 := Lib.hid hg0
      have HG1 := Lib.hid hg1
      have HG2 := Lib.hid hg2
      have HG3 := Lib.hid hg3
      have HT6 := Lib.hid ht6
      have HT8 := Lib.hid ht8
      have HT10 := Lib.hid ht10
      have HT12 := Lib.hid ht12
      clear hx hzb hown hbr hnext hrng hg0 hg1 hg2 hg3 ht6 ht8 ht10 ht12
      go_wp2_with fail
      refine wp_region_plan [.make, .make, .make, .make, .make, .make, .make, .make, .make, .make, .make, .make, .make, .make, .make, .make, .make, .make, .make, .make, .make, .make, .make, .make, .make, .make, .make, .make, .make, .make, .make, .make, .make, .make, .make, .write 0, .pure, .write 1] [0, 1, 2, 3, 4, 5, 6, 7, 8, 9, 10, 11, 12, 13, 14, 15, 16, 17, 18, 19, 20, 21, 22, 23, 24, 25, 26, 27, 28, 29, 30, 31, 32, 33, 34] 2 (AfterApp w base bv hd k ao cap (kidsTo s (k + 1)) 35) (by kernel_rfl) (by decide) (by kernel_rfl) (by kernel_rfl) (by kernel_rfl) (by kernel_rfl) (fun p vs vs' u h hE => by unfold AfterApp at hE ⊢; rw [← h 35 (by decide)] at hE; exact hE) ?_
      simp only [fill, Act.put, List.setIfInBounds_toArray, List.set_cons_zero, List.set_cons_succ, Nat.zero_add, Nat.reduceAdd, List.zip_cons_cons, List.zip_nil_right]
      apply OpsIs.eq
      · intro vs u hb hd
        clear hd
        go_wp2_with fail
        exact ⟨rfl, _, rfl, Below.refl _ _, rfl⟩
      apply OpsIs.eq
      · intro vs u hb hd
        have e0 := hd ⟨0, .data⟩ (by simp) (by decide)
        simp at e0
        clear hd
        simp only [e0]
        have q := block_below hb HX.out (block_lt HX.out)
        have p0 := block_cell q 0
        have p1 := block_cell q 1
        have p2 := block_cell q 2
        simp at p0 p1 p2
        clear q
        go_wp2_with fail
        exact ⟨rfl, _, rfl, Below.refl _ _, rfl⟩
      apply OpsIs.eq
      · intro vs u hb hd
        clear hd
        go_wp2_with fail
        exact ⟨rfl, _, rfl, Below.refl _ _, rfl⟩
      apply OpsIs.eq
      · intro vs u hb hd
        clear hd
        go_wp2_with fail
        exact ⟨rfl, _, rfl, Below.refl _ _, rfl⟩
      apply OpsIs.eq
      · intro vs u hb hd
        clear hd
        go_wp2_with fail
        exact ⟨rfl, _, rfl, Below.refl _ _, rfl⟩
      apply OpsIs.eq
      · intro vs u hb hd
        have e4 := hd ⟨4, .data⟩ (by simp) (by decide)
        simp at e4
        clear hd
        simp only [e4]
        go_wp2_with fail
        exact ⟨rfl, _, rfl, Below.refl _ _, rfl⟩
      apply OpsIs.eq
      · intro vs u hb hd
        have e2 := hd ⟨2, .data⟩ (by simp) (by decide)
        simp at e2
        have e3 := hd ⟨3, .data⟩ (by simp) (by decide)
        simp at e3
        have e5 := hd ⟨5, .data⟩ (by simp) (by decide)
        simp at e5
        clear hd
        simp only [e2, e3, e5]
        go_wp2_with fail
        exact ⟨rfl, _, rfl, Below.refl _ _, rfl⟩
      apply OpsIs.eq
      · intro vs u hb hd
        have e6 := hd ⟨6, .data⟩ (by simp) (by decide)
        simp at e6
        clear hd
        simp only [e6]
        go_wp2_with fail
        refine (value_at _ _ HG0.out (by rw [ex_size _ _ _ (by omega)]; omega) _).mono ?_; rintro e w1 ⟨rfl, rfl⟩; go_wp2_with fail; exact ⟨rfl, _, rfl, Below.refl _ _, rfl⟩
      apply OpsIs.eq
      · intro vs u hb hd
        clear hd
        go_wp2_with fail
        exact ⟨rfl, _, rfl, Below.refl _ _, rfl⟩
      apply OpsIs.eq
      · intro vs u hb hd
        clear hd
        go_wp2_with fail
        exact ⟨rfl, _, rfl, Below.refl _ _, rfl⟩
      apply OpsIs.eq
      · intro vs u hb hd
        have e9 := hd ⟨9, .data⟩ (by simp) (by decide)
        simp at e9
        clear hd
        simp only [e9]
        go_wp2_with fail
        exact ⟨rfl, _, rfl, Below.refl _ _, rfl⟩
      apply OpsIs.eq
      · intro vs u hb hd
        clear hd
        go_wp2_with fail
        exact ⟨rfl, _, rfl, Below.refl _ _, rfl⟩
      apply OpsIs.eq
      · intro vs u hb hd
        have e11 := hd ⟨11, .data⟩ (by simp) (by decide)
        simp at e11
        clear hd
        simp only [e11]
        go_wp2_with fail
        exact ⟨rfl, _, rfl, Below.refl _ _, rfl⟩
      apply OpsIs.eq
      · intro vs u hb hd
        have e8 := hd ⟨8, .data⟩ (by simp) (by decide)
        simp at e8
        have e10 := hd ⟨10, .data⟩ (by simp) (by decide)
        simp at e10
        have e12 := hd ⟨12, .data⟩ (by simp) (by decide)
        simp at e12
        clear hd
        simp only [e8, e10, e12]
        go_wp2_with fail
        exact ⟨rfl, _, rfl, Below.refl _ _, rfl⟩
      apply OpsIs.eq
      · intro vs u hb hd
        have e13 := hd ⟨13, .data⟩ (by simp) (by decide)
        simp at e13
        have e7 := hd ⟨7, .chain⟩ (by simp) (by decide)
        simp at e7
        clear hd
        simp only [e13, e7]
        go_wp2_with fail
        refine (value_at _ _ HG1.out (by rw [ex_size _ _ _ (by omega)]; omega) _).mono ?_; rintro e w1 ⟨rfl, rfl⟩; go_wp2_with fail; exact ⟨rfl, _, rfl, Below.refl _ _, rfl⟩
      apply OpsIs.eq
      · intro vs u hb hd
        have e14 := hd ⟨14, .data⟩ (by simp) (by decide)
        simp at e14
        clear hd
        simp only [e14]
        go_wp2_with fail
        exact ⟨rfl, _, rfl, Below.refl _ _, rfl⟩
      apply OpsIs.eq
      · intro vs u hb hd
        clear hd
        go_wp2_with fail
        exact ⟨rfl, _, rfl, Below.refl _ _, rfl⟩
      apply OpsIs.eq
      · intro vs u hb hd
        clear hd
        go_wp2_with fail
        exact ⟨rfl, _, rfl, Below.refl _ _, rfl⟩
      apply OpsIs.eq
      · intro vs u hb hd
        have e17 := hd ⟨17, .data⟩ (by simp) (by decide)
        simp at e17
        clear hd
        simp only [e17]
        go_wp2_with fail
        exact ⟨rfl, _, rfl, Below.refl _ _, rfl⟩
      apply OpsIs.eq
      · intro vs u hb hd
        clear hd
        go_wp2_with fail
        exact ⟨rfl, _, rfl, Below.refl _ _, rfl⟩
      apply OpsIs.eq
      · intro vs u hb hd
        have e19 := hd ⟨19, .data⟩ (by simp) (by decide)
        simp at e19
        clear hd
        simp only [e19]
        go_wp2_with fail
        exact ⟨rfl, _, rfl, Below.refl _ _, rfl⟩
      apply OpsIs.eq
      · intro vs u hb hd
        have e16 := hd ⟨16, .data⟩ (by simp) (by decide)
        simp at e16
        have e18 := hd ⟨18, .data⟩ (by simp) (by decide)
        simp at e18
        have e20 := hd ⟨20, .data⟩ (by simp) (by decide)
        simp at e20
        clear hd
        simp only [e16, e18, e20]
        go_wp2_with fail
        exact ⟨rfl, _, rfl, Below.refl _ _, rfl⟩
      apply OpsIs.eq
      · intro vs u hb hd
        have e21 := hd ⟨21, .data⟩ (by simp) (by decide)
        simp at e21
        have e14 := hd ⟨14, .chain⟩ (by simp) (by decide)
        simp at e14
        clear hd
        simp only [e21, e14]
        go_wp2_with fail
        refine (value_at _ _ HG2.out (by rw [ex_size _ _ _ (by omega)]; omega) _).mono ?_; rintro e w1 ⟨rfl, rfl⟩; go_wp2_with fail; exact ⟨rfl, _, rfl, Below.refl _ _, rfl⟩
      apply OpsIs.eq
      · intro vs u hb hd
        have e22 := hd ⟨22, .data⟩ (by simp) (by decide)
        simp at e22
        clear hd
        simp only [e22]
        go_wp2_with fail
        exact ⟨rfl, _, rfl, Below.refl _ _, rfl⟩
      apply OpsIs.eq
      · intro vs u hb hd
        clear hd
        go_wp2_with fail
        exact ⟨rfl, _, rfl, Below.refl _ _, rfl⟩
      apply OpsIs.eq
      · intro vs u hb hd
        clear hd
        go_wp2_with fail
        exact ⟨rfl, _, rfl, Below.refl _ _, rfl⟩
      apply OpsIs.eq
      · intro vs u hb hd
        have e25 := hd ⟨25, .data⟩ (by simp) (by decide)
        simp at e25
        clear hd
        simp only [e25]
        go_wp2_with fail
        exact ⟨rfl, _, rfl, Below.refl _ _, rfl⟩
      apply OpsIs.eq
      · intro vs u hb hd
        clear hd
        go_wp2_with fail
        exact ⟨rfl, _, rfl, Below.refl _ _, rfl⟩
      apply OpsIs.eq
      · intro vs u hb hd
        have e27 := hd ⟨27, .data⟩ (by simp) (by decide)
        simp at e27
        clear hd
        simp only [e27]
        go_wp2_with fail
        exact ⟨rfl, _, rfl, Below.refl _ _, rfl⟩
      apply OpsIs.eq
      · intro vs u hb hd
        have e24 := hd ⟨24, .data⟩ (by simp) (by decide)
        simp at e24
        have e26 := hd ⟨26, .data⟩ (by simp) (by decide)
        simp at e26
        have e28 := hd ⟨28, .data⟩ (by simp) (by decide)
        simp at e28
        clear hd
        simp only [e24, e26, e28]
        go_wp2_with fail
        exact ⟨rfl, _, rfl, Below.refl _ _, rfl⟩
      apply OpsIs.eq
      · intro vs u hb hd
        have e29 := hd ⟨29, .data⟩ (by simp) (by decide)
        simp at e29
        have e22 := hd ⟨22, .chain⟩ (by simp) (by decide)
        simp at e22
        clear hd
        simp only [e29, e22]
        go_wp2_with fail
        refine (value_at _ _ HG3.out (by rw [ex_size _ _ _ (by omega)]; omega) _).mono ?_; rintro e w1 ⟨rfl, rfl⟩; go_wp2_with fail; exact ⟨rfl, _, rfl, Below.refl _ _, rfl⟩
      apply OpsIs.eq
      · intro vs u hb hd
        have e30 := hd ⟨30, .data⟩ (by simp) (by decide)
        simp at e30
        clear hd
        simp only [e30]
        go_wp2_with fail
        exact ⟨rfl, _, rfl, Below.refl _ _, rfl⟩
      apply OpsIs.eq
      · intro vs u hb hd
        have e15 := hd ⟨15, .data⟩ (by simp) (by decide)
        simp at e15
        have e23 := hd ⟨23, .data⟩ (by simp) (by decide)
        simp at e23
        have e31 := hd ⟨31, .data⟩ (by simp) (by decide)
        simp at e31
        clear hd
        simp only [e15, e23, e31]
        go_wp2_with fail
        exact ⟨rfl, _, rfl, Below.refl _ _, rfl⟩
      apply OpsIs.eq
      · intro vs u hb hd
        have e7 := hd ⟨7, .data⟩ (by simp) (by decide)
        simp at e7
        have e32 := hd ⟨32, .data⟩ (by simp) (by decide)
        simp at e32
        clear hd
        simp only [e7, e32]
        go_wp2_with fail
        exact ⟨rfl, _, rfl, Below.refl _ _, rfl⟩
      refine OpsIs.step (SlK (g0, g1, g2, g3)) (Stab_slk _) ?_ ?_
      · intro vs u hb hd
        have e33 := hd ⟨33, .data⟩ (by simp) (by decide)
        simp at e33
        clear hd
        simp only [e33]
        go_wp2_with fail
        exact ⟨rfl, _, rfl, (Below.refl _ _).alloc (Nat.le_refl _) _, _, rfl, block_new _ _⟩
      refine OpsIs.first ?_ ?_
      · intro vs u hb hdis hd
        have e1 := hd 1 (by simp)
        simp at e1
        obtain ⟨b7, e7, hb7⟩ := hd 34 (by simp)
        clear hd
        simp only [e1, e7]
        have q := block_below hb HX.out (block_lt HX.out)
        have hown := HOWN.out.later hb
        have hz := block_below hb HZ.out (block_lt HZ.out)
        have hsz := hb.size
        have HQ := Lib.hid q
        have HOW := Lib.hid hown
        have HHZ := Lib.hid hz
        have HN7 := Lib.hid hb7
        have HB := Lib.hid hb
        clear q hown hz hb7 hb
        go_wp2_with (at_builtin; refine wpList_append_own _ rfl _ _ 22 rfl base 49 i0 (.agg #[.int .u64 0, .int .i64 0, .int .i64 0, .int .i64 0]) 4 32 Try.underlying22 hi hz0 hz1 hz2 rfl (by decide) _ k (flatR fK (kidsTo s k)) rfl HOW.out.2.2 ⟨b7, 0, none⟩ 1 _ (flatR fK [(g0, g1, g2, g3)]) rfl rfl (slk_news HN7.out) (fK_one _) ?c3 ?c4 ?c5 ?_)
        (case c3 => unfold maxLen; omega)
        (case c4 => omega)
        (case c5 => omega)
        intro v' w1 hown1 hgrow _
        rw [← flatR_app, HNEXT.out] at hown1
        have hlow := HOW.out.2.2.lt
        have hok : OwnKs base w1 v' (k + 1) (kidsTo s (k + 1)) := ⟨kidsTo_len _ _, HRNG.out, hown1⟩
        obtain ⟨ao', cap', rfl, _⟩ := hok.ks
        exact ⟨rfl, _, rfl, by
          unfold AfterApp
          refine ⟨ao', cap', rfl, hok, ?_, ?_, Nat.le_trans (by omega) hgrow.size, ?_⟩
          · rw [if_pos rfl]; exact (hgrow.block _ (Nat.lt_of_lt_of_le hbvb (by omega)) (fun hj => by have := hlow _ hj.symm; omega)).trans HQ.out
          · exact (hgrow.block _ (Nat.lt_of_lt_of_le hwb (by omega)) (fun hj => by have := hlow _ hj.symm; omega)).trans HHZ.out
          · exact (below_step HBR.out HB.out).grown hgrow (by omega) (fun j hj => by have := hlow j hj; omega)⟩
      apply OpsIs.pure
      · intro vs u hd
        obtain ⟨_, e0⟩ := hd ⟨0, .phase⟩ (by simp) (by decide)
        simp at e0
        obtain ⟨_, e1⟩ := hd ⟨1, .phase⟩ (by simp) (by decide)
        simp at e1
        obtain ⟨_, e2⟩ := hd ⟨2, .phase⟩ (by simp) (by decide)
        simp at e2
        obtain ⟨_, e3⟩ := hd ⟨3, .phase⟩ (by simp) (by decide)
        simp at e3
        obtain ⟨_, e4⟩ := hd ⟨4, .phase⟩ (by simp) (by decide)
        simp at e4
        obtain ⟨_, e5⟩ := hd ⟨5, .phase⟩ (by simp) (by decide)
        simp at e5
        obtain ⟨_, e6⟩ := hd ⟨6, .phase⟩ (by simp) (by decide)
        simp at e6
        obtain ⟨_, e7⟩ := hd ⟨7, .phase⟩ (by simp) (by decide)
        simp at e7
        obtain ⟨_, e8⟩ := hd ⟨8, .phase⟩ (by simp) (by decide)
        simp at e8
        obtain ⟨_, e9⟩ := hd ⟨9, .phase⟩ (by simp) (by decide)
        simp at e9
        obtain ⟨_, e10⟩ := hd ⟨10, .phase⟩ (by simp) (by decide)
        simp at e10
        obtain ⟨_, e11⟩ := hd ⟨11, .phase⟩ (by simp) (by decide)
        simp at e11
        obtain ⟨_, e12⟩ := hd ⟨12, .phase⟩ (by simp) (by decide)
        simp at e12
        obtain ⟨_, e13⟩ := hd ⟨13, .phase⟩ (by simp) (by decide)
        simp at e13
        obtain ⟨_, e14⟩ := hd ⟨14, .phase⟩ (by simp) (by decide)
        simp at e14
        obtain ⟨_, e15⟩ := hd ⟨15, .phase⟩ (by simp) (by decide)
        simp at e15
        obtain ⟨_, e16⟩ := hd ⟨16, .phase⟩ (by simp) (by decide)
        simp at e16
        obtain ⟨_, e17⟩ := hd ⟨17, .phase⟩ (by simp) (by decide)
        simp at e17
        obtain ⟨_, e18⟩ := hd ⟨18, .phase⟩ (by simp) (by decide)
        simp at e18
        obtain ⟨_, e19⟩ := hd ⟨19, .phase⟩ (by simp) (by decide)
        simp at e19
        obtain ⟨_, e20⟩ := hd ⟨20, .phase⟩ (by simp) (by decide)
        simp at e20
        obtain ⟨_, e21⟩ := hd ⟨21, .phase⟩ (by simp) (by decide)
        simp at e21
        obtain ⟨_, e22⟩ := hd ⟨22, .phase⟩ (by simp) (by decide)
        simp at e22
        obtain ⟨_, e23⟩ := hd ⟨23, .phase⟩ (by simp) (by decide)
        simp at e23
        obtain ⟨_, e24⟩ := hd ⟨24, .phase⟩ (by simp) (by decide)
        simp at e24
        obtain ⟨_, e25⟩ := hd ⟨25, .phase⟩ (by simp) (by decide)
        simp at e25
        obtain ⟨_, e26⟩ := hd ⟨26, .phase⟩ (by simp) (by decide)
        simp at e26
        obtain ⟨_, e27⟩ := hd ⟨27, .phase⟩ (by simp) (by decide)
        simp at e27
        obtain ⟨_, e28⟩ := hd ⟨28, .phase⟩ (by simp) (by decide)
        simp at e28
        obtain ⟨_, e29⟩ := hd ⟨29, .phase⟩ (by simp) (by decide)
        simp at e29
        obtain ⟨_, e30⟩ := hd ⟨30, .phase⟩ (by simp) (by decide)
        simp at e30
        obtain ⟨_, e31⟩ := hd ⟨31, .phase⟩ (by simp) (by decide)
        simp at e31
        obtain ⟨_, e32⟩ := hd ⟨32, .phase⟩ (by simp) (by decide)
        simp at e32
        obtain ⟨_, e33⟩ := hd ⟨33, .phase⟩ (by simp) (by decide)
        simp at e33
        clear hd
        simp only [e0, e1, e2, e3, e4, e5, e6, e7, e8, e9, e10, e11, e12, e13, e14, e15, e16, e17, e18, e19, e20, e21, e22, e23, e24, e25, e26, e27, e28, e29, e30, e31, e32, e33]
        go_wp2_with fail
        exact ⟨rfl, _, rfl, rfl, fun _ => rfl⟩
      refine OpsIs.next ?_ ?_
      · intro vs u hE hd
        obtain ⟨_, e36⟩ := hd ⟨36, .data⟩ (by simp) (by decide)
        simp at e36
        obtain ⟨_, e0⟩ := hd ⟨0, .phase⟩ (by simp) (by decide)
        simp at e0
        obtain ⟨_, e1⟩ := hd ⟨1, .phase⟩ (by simp) (by decide)
        simp at e1
        obtain ⟨_, e2⟩ := hd ⟨2, .phase⟩ (by simp) (by decide)
        simp at e2
        obtain ⟨_, e3⟩ := hd ⟨3, .phase⟩ (by simp) (by decide)
        simp at e3
        obtain ⟨_, e4⟩ := hd ⟨4, .phase⟩ (by simp) (by decide)
        simp at e4
        obtain ⟨_, e5⟩ := hd ⟨5, .phase⟩ (by simp) (by decide)
        simp at e5
        obtain ⟨_, e6⟩ := hd ⟨6, .phase⟩ (by simp) (by decide)
        simp at e6
        obtain ⟨_, e7⟩ := hd ⟨7, .phase⟩ (by simp) (by decide)
        simp at e7
        obtain ⟨_, e8⟩ := hd ⟨8, .phase⟩ (by simp) (by decide)
        simp at e8
        obtain ⟨_, e9⟩ := hd ⟨9, .phase⟩ (by simp) (by decide)
        simp at e9
        obtain ⟨_, e10⟩ := hd ⟨10, .phase⟩ (by simp) (by decide)
        simp at e10
        obtain ⟨_, e11⟩ := hd ⟨11, .phase⟩ (by simp) (by decide)
        simp at e11
        obtain ⟨_, e12⟩ := hd ⟨12, .phase⟩ (by simp) (by decide)
        simp at e12
        obtain ⟨_, e13⟩ := hd ⟨13, .phase⟩ (by simp) (by decide)
        simp at e13
        obtain ⟨_, e14⟩ := hd ⟨14, .phase⟩ (by simp) (by decide)
        simp at e14
        obtain ⟨_, e15⟩ := hd ⟨15, .phase⟩ (by simp) (by decide)
        simp at e15
        obtain ⟨_, e16⟩ := hd ⟨16, .phase⟩ (by simp) (by decide)
        simp at e16
        obtain ⟨_, e17⟩ := hd ⟨17, .phase⟩ (by simp) (by decide)
        simp at e17
        obtain ⟨_, e18⟩ := hd ⟨18, .phase⟩ (by simp) (by decide)
        simp at e18
        obtain ⟨_, e19⟩ := hd ⟨19, .phase⟩ (by simp) (by decide)
        simp at e19
        obtain ⟨_, e20⟩ := hd ⟨20, .phase⟩ (by simp) (by decide)
        simp at e20
        obtain ⟨_, e21⟩ := hd ⟨21, .phase⟩ (by simp) (by decide)
        simp at e21
        obtain ⟨_, e22⟩ := hd ⟨22, .phase⟩ (by simp) (by decide)
        simp at e22
        obtain ⟨_, e23⟩ := hd ⟨23, .phase⟩ (by simp) (by decide)
        simp at e23
        obtain ⟨_, e24⟩ := hd ⟨24, .phase⟩ (by simp) (by decide)
        simp at e24
        obtain ⟨_, e25⟩ := hd ⟨25, .phase⟩ (by simp) (by decide)
        simp at e25
        obtain ⟨_, e26⟩ := hd ⟨26, .phase⟩ (by simp) (by decide)
        simp at e26
        obtain ⟨_, e27⟩ := hd ⟨27, .phase⟩ (by simp) (by decide)
        simp at e27
        obtain ⟨_, e28⟩ := hd ⟨28, .phase⟩ (by simp) (by decide)
        simp at e28
        obtain ⟨_, e29⟩ := hd ⟨29, .phase⟩ (by simp) (by decide)
        simp at e29
        obtain ⟨_, e30⟩ := hd ⟨30, .phase⟩ (by simp) (by decide)
        simp at e30
        obtain ⟨_, e31⟩ := hd ⟨31, .phase⟩ (by simp) (by decide)
        simp at e31
        obtain ⟨_, e32⟩ := hd ⟨32, .phase⟩ (by simp) (by decide)
        simp at e32
        obtain ⟨_, e33⟩ := hd ⟨33, .phase⟩ (by simp) (by decide)
        simp at e33
        obtain ⟨ao', cap', hv8, hok, hx, hz, hsz, hbe⟩ := hE
        clear hd
        simp only [e36, e0, e1, e2, e3, e4, e5, e6, e7, e8, e9, e10, e11, e12, e13, e14, e15, e16, e17, e18, e19, e20, e21, e22, e23, e24, e25, e26, e27, e28, e29, e30, e31, e32, e33, hv8]
        rw [if_pos rfl] at hx
        have p2 := block_cell hx 2
        have f2 := block_free hx 2
        simp at p2
        have hlt' := block_lt hx
        have HX2 := Lib.hid hx
        have HOK2 := Lib.hid hok
        have HV2 := Lib.hid hv8
        have HZ2 := Lib.hid hz
        have HBE2 := Lib.hid hbe
        clear hx hok hv8 hz hbe
        go_wp2_with fail
        exact ⟨rfl, undef, rfl, by
          unfold AfterApp
          refine ⟨ao', cap', HV2.out, HOK2.out.setBelow hbvb _, ?_, block_setCell_other HZ2.out (p := ⟨bv, 2, none⟩) (by simp; omega) _, by simpa using hsz, HBE2.out.setCell (by simp; omega) _⟩
          rw [if_neg (by decide)]; exact block_setCell HX2.out 2 _⟩
      refine OpsIs.done ?_
      intro vs11 u11 hE hS
      clear hS
      obtain ⟨ao', cap', hv8, hok, hx, hz, hsz, hbe⟩ := hE
      rw [if_neg (by decide)] at hx
      have HOK := Lib.hid hok
      have HX := Lib.hid hx
      have HZ := Lib.hid hz
      have HBE := Lib.hid hbe
      clear hbe hz hx hok
      clear hv8
      go_wp2_with fail
      go_roundw
      case rel => exact ⟨k + 1, j + 12, ao', cap', by omega, by go_num, Lib.hid (by have h := hj.out; omega), HBE.out, HZ.out, HX.out, HOK.out, hsz⟩
      case measure => simp [intOf]; omega
    · obtain rfl : m = k := by omega
      by_cases hrem : j = s.size
      · have hd1 : 1 ≤ s.size := h1
        have hdx : decX s = ⟨hd, ⟨#[]⟩, kidsTo s m⟩ := by unfold decX; rw [if_neg (by rw [HHD.out]; exact HNE.out), HHD.out, ← HM.out]
        have hrm : (s.size - 1) % 12 = 0 := by have h := hj.out; omega
        have hokI : decOK s ↔ checkN ⟨(hd : Int), ⟨#[]⟩, kidsTo s m⟩ = 0 := ⟨fun h => by have := h.2.2; rw [hdx] at this; exact this, fun h => ⟨h1, .inr hrm, by rw [hdx]; exact h⟩⟩
        have HJ := Lib.hid hj.out
        clear hj
        subst hrem
        (have q0 := block_cell hzb 0; have q1 := block_cell hzb 1; have q2 := block_cell hzb 2; have f0 := block_free hzb 0; have f1 := block_free hzb 1; have f2 := block_free hzb 2; have hz := block_lt hzb; simp at q0 q1 q2)
        have HX := Lib.hid hx
        have HZ := Lib.hid hzb
        have HBR := Lib.hid hbr
        have HOWN := Lib.hid hown
        obtain ⟨_, _, e1, hks, _⟩ := hown.ks
        injection e1 with e1 _ e3
        subst e1 e3
        have HKS := Lib.hid hks
        have HDX := Lib.hid hdx
        have HOKI := Lib.hid hokI
        clear hdx hrm hokI
        by_cases hc : checkN ⟨(hd : Int), ⟨#[]⟩, kidsTo s m⟩ = 0
        · have HR0 := Lib.hid (show RR = ⟨(hd : Int), ⟨#[]⟩, kidsTo s m⟩ by rw [← HRR.out, (decN_ok (HOKI.out.2 hc)).1, HDX.out])
          have HE0 := Lib.hid (show EE = 0 by rw [← HEE.out, (decN_ok (HOKI.out.2 hc)).2])
          have HC := Lib.hid hc
          clear hc
          clear hx hzb hbr hown hks
          go_wp2_with fail
          refine (refCheck_any ⟨(hd : Int), ⟨#[]⟩, kidsTo s m⟩ ao m cap _ HKS.out).mono ?_; rintro e w1 ⟨rfl, hb⟩
          rw [HC.out]
          have hb0 := block_below hb HZ.out (block_lt HZ.out)
          have hb1 := block_below hb HX.out (block_lt HX.out)
          (have q0 := block_cell hb0 0; have q1 := block_cell hb0 1; have q2 := block_cell hb0 2; have f0 := block_free hb0 0; have f1 := block_free hb0 1; have f2 := block_free hb0 2; have hz := block_lt hb0; simp at q0 q1 q2)
          (have q0 := block_cell hb1 0; have q1 := block_cell hb1 1; have q2 := block_cell hb1 2; have f0 := block_free hb1 0; have f1 := block_free hb1 1; have f2 := block_free hb1 2; have hz := block_lt hb1; simp at q0 q1 q2)
          have hbw1 := below_step HBR.out hb
          have hok := HOWN.out.later hb
          have HB0 := Lib.hid hb0
          have HBW1 := Lib.hid hbw1
          have HOK := Lib.hid hok
          clear hok hbw1 hb0
          clear hb hb1
          go_wp2_with fail
          have hb0 := block_setCell (block_setCell (block_setCell HB0.out 0 (.int .i64 hd)) 1 (.string ⟨#[]⟩)) 2 (.slice ao m cap)
          refine bodyPost_ret (res3_tmp Try.results28 (Try.isAgg24 _) (Try.sizeOf24 _) rfl hb0) rfl ⟨.agg #[.int .i64 hd, .string ⟨#[]⟩, .slice ao m cap], (by rw [HE0.out] <;> rfl), ?_, ((HBW1.out.setCell (by simp) _).setCell (by simp) _).setCell (by simp) _⟩
          rw [HR0.out]
          refine ⟨_, rfl, ?_⟩
          show OwnKs _ _ _ (kidsTo s m).length (kidsTo s m)
          rw [kidsTo_len]
          exact ((((HOK.out.setBelow hwb _).setBelow hwb _).setBelow hwb _)).le (by omega)
        · have HR0 := Lib.hid (show RR = noN by rw [← HRR.out, (decN_no (fun h => hc (HOKI.out.1 h))).1])
          have HE0 := Lib.hid (show EE = 4 by rw [← HEE.out, (decN_no (fun h => hc (HOKI.out.1 h))).2])
          have hc' : (checkN ⟨(hd : Int), ⟨#[]⟩, kidsTo s m⟩ == 0) = false := by simpa using hc
          clear hc hx hzb hbr hown hks
          go_wp2_with fail
          refine (refCheck_any ⟨(hd : Int), ⟨#[]⟩, kidsTo s m⟩ ao m cap _ HKS.out).mono ?_; rintro e w1 ⟨rfl, hb⟩
          have hb0 := block_below hb HZ.out (block_lt HZ.out)
          (have q0 := block_cell hb0 0; have q1 := block_cell hb0 1; have q2 := block_cell hb0 2; have f0 := block_free hb0 0; have f1 := block_free hb0 1; have f2 := block_free hb0 2; have hz := block_lt hb0; simp at q0 q1 q2)
          have hbw1 := below_step HBR.out hb
          have HB0 := Lib.hid hb0
          have HBW1 := Lib.hid hbw1
          clear hbw1 hb0
          clear hb
          go_wp2_with fail
          have hb0 := block_setCell (block_setCell (block_setCell HB0.out 0 (.int .i64 0)) 1 (.string ⟨#[]⟩)) 2 (.slice none 0 0)
          exact bodyPost_ret (res3_tmp Try.results28 (Try.isAgg24 _) (Try.sizeOf24 _) rfl hb0) rfl ⟨.agg #[.int .i64 0, .string ⟨#[]⟩, .slice none 0 0], (by rw [HE0.out] <;> rfl), (by rw [HR0.out]; exact ownN_none _ _), ((HBW1.out.setCell (by simp) _).setCell (by simp) _).setCell (by simp) _⟩
      · have hj1 : j < s.size := by have h := hj.out; omega
        have hj12 : s.size < j + 12 := by have h := hj.out; omega
        have hno : ¬ decOK s := fun h => by
          rcases h.2.1 with h | h
          · rw [HHD.out] at h; exact HNE.out h
          · have h' := hj.out; omega
        have HR0 := Lib.hid (show RR = noN by rw [← HRR.out, (decN_no hno).1])
        have HE0 := Lib.hid (show EE = 4 by rw [← HEE.out, (decN_no hno).2])
        (have q0 := block_cell hzb 0; have q1 := block_cell hzb 1; have q2 := block_cell hzb 2; have f0 := block_free hzb 0; have f1 := block_free hzb 1; have f2 := block_free hzb 2; have hz := block_lt hzb; simp at q0 q1 q2)
        have HZ := Lib.hid hzb
        have HBR := Lib.hid hbr
        clear hx hzb hbr hown hj hno hrem
        go_wp2_with fail
        have hb0 := block_setCell (block_setCell (block_setCell HZ.out 0 (.int .i64 0)) 1 (.string ⟨#[]⟩)) 2 (.slice none 0 0)
        exact bodyPost_ret (res3_tmp Try.results28 (Try.isAgg24 _) (Try.sizeOf24 _) rfl hb0) rfl ⟨.agg #[.int .i64 0, .string ⟨#[]⟩, .slice none 0 0], (by rw [HE0.out] <;> rfl), (by rw [HR0.out]; exact ownN_none _ _), ((HBR.out.setCell (by simp) _).setCell (by simp) _).setCell (by simp) _⟩

set_option maxRecDepth 100000 in
set_option maxHeartbeats 4000000 in
theorem refDecode_leaf (s : ByteArray) (w : World) (h1 : 0 < s.size) (hh : hdN s = 0) :
    Calls Try.prog 28 #[.string s] w fun e w' => ∃ v, e = .returned (.tuple #[v, .int .i64 (decE s)]) ∧ OwnN w.heap.size w' v (decN s) ∧ Below w.heap.size w w' := by
  have h0 := hdN_at s h1
  rw [hh] at h0
  have hemp := nonempty_list h1
  have hx : decX s = ⟨0, s.extract 1 s.size, []⟩ := if_pos hh
  have HK := Lib.hid (show ∀ u, IsKs u none 0 [] from fun u => IsKs.none u none)
  by_cases hc : checkN ⟨0, s.extract 1 s.size, []⟩ = 0
  · have hok : decOK s := ⟨h1, .inl hh, by rw [hx]; exact hc⟩
    rw [(decN_ok hok).1, (decN_ok hok).2, hx]
    have HC := Lib.hid hc
    clear hc
    clear hh hx hok
    go_enter Try.func28, Try.ntmps28
    go_wp2_with fail
    go_loop [5] (fun i => i = .int .i64 1) (fun _ => 0)
    case atStart => rfl
    case round =>
      obtain rfl := hrel
      go_wp2_with fail
      refine (refCheck_any ⟨0, s.extract 1 s.size, []⟩ none 0 0 _ (HK.out _)).mono ?_; rintro e w1 ⟨rfl, hb⟩
      rw [HC.out]
      obtain ⟨hbw, hb0, hb1⟩ := box2_later hb
      (have q0 := block_cell hb0 0; have q1 := block_cell hb0 1; have q2 := block_cell hb0 2; have f0 := block_free hb0 0; have f1 := block_free hb0 1; have f2 := block_free hb0 2; have hz := block_lt hb0; simp at q0 q1 q2)
      (have q0 := block_cell hb1 0; have q1 := block_cell hb1 1; have q2 := block_cell hb1 2; have f0 := block_free hb1 0; have f1 := block_free hb1 1; have f2 := block_free hb1 2; have hz := block_lt hb1; simp at q0 q1 q2)
      have HB0 := Lib.hid hb0
      have HBW := Lib.hid hbw
      clear hbw hb0
      clear hb hb1
      go_wp2_with fail
      have hb0 := block_setCell (block_setCell (block_setCell HB0.out 0 (.int .i64 0)) 1 (.string (s.extract 1 s.size))) 2 (.slice none 0 0)
      exact bodyPost_ret (res3_tmp Try.results28 (Try.isAgg24 _) (Try.sizeOf24 _) rfl hb0) rfl ⟨_, rfl, ⟨_, rfl, rfl, by simp, World.ownsRow_nil _ _ _ _⟩, ((HBW.out.setCell (by simp) _).setCell (by simp) _).setCell (by simp) _⟩
  · have hn : ¬ decOK s := fun h => hc (by have := h.2.2; rw [hx] at this; exact this)
    rw [(decN_no hn).1, (decN_no hn).2]
    have hcc : (checkN ⟨0, s.extract 1 s.size, []⟩ == 0) = false := by simpa using hc
    clear hh hx hn hc
    go_enter Try.func28, Try.ntmps28
    go_wp2_with fail
    go_loop [5] (fun i => i = .int .i64 1) (fun _ => 0)
    case atStart => rfl
    case round =>
      obtain rfl := hrel
      go_wp2_with fail
      refine (refCheck_any ⟨0, s.extract 1 s.size, []⟩ none 0 0 _ (HK.out _)).mono ?_; rintro e w1 ⟨rfl, hb⟩
      obtain ⟨hbw, hb0, hb1⟩ := box2_later hb
      (have q0 := block_cell hb0 0; have q1 := block_cell hb0 1; have q2 := block_cell hb0 2; have f0 := block_free hb0 0; have f1 := block_free hb0 1; have f2 := block_free hb0 2; have hz := block_lt hb0; simp at q0 q1 q2)
      have HB0 := Lib.hid hb0
      have HBW := Lib.hid hbw
      clear hbw hb0
      clear hb hb1
      go_wp2_with fail
      have hb0 := block_setCell (block_setCell (block_setCell HB0.out 0 (.int .i64 0)) 1 (.string ⟨#[]⟩)) 2 (.slice none 0 0)
      exact bodyPost_ret (res3_tmp Try.results28 (Try.isAgg24 _) (Try.sizeOf24 _) rfl hb0) rfl ⟨_, rfl, ownN_none _ _, ((HBW.out.setCell (by simp) _).setCell (by simp) _).setCell (by simp) _⟩

set_option maxRecDepth 100000 in
set_option maxHeartbeats 2000000 in
theorem refDecode_empty (w : World) :
    Calls Try.prog 28 #[.string ⟨#[]⟩] w fun e w' => ∃ v, e = .returned (.tuple #[v, .int .i64 4]) ∧ OwnN w.heap.size w' v noN ∧ Below w.heap.size w w' := by
  go_enter Try.func28, Try.ntmps28
  go_wp2_with fail
  exact bodyPost_ret (res3_tmp Try.results28 (Try.isAgg24 _) (Try.sizeOf24 _) rfl (block_new w (.cells #[.int .i64 0, .string ⟨#[]⟩, .slice none 0 0] 24))) rfl ⟨_, rfl, ownN_none _ _, by go_grown⟩

theorem refDecode_any (s : ByteArray) (w : World) (hs : s.size ≤ 4294967296) :
    Calls Try.prog 28 #[.string s] w fun e w' => ∃ v, e = .returned (.tuple #[v, .int .i64 (decE s)]) ∧ OwnN w.heap.size w' v (decN s) ∧ Below w.heap.size w w' := by
  rcases Nat.eq_zero_or_pos s.size with h0 | h1
  · have hn : ¬ decOK s := fun h => by have := h.1; omega
    obtain rfl := empty_of h0
    rw [(decN_no hn).1, (decN_no hn).2]
    exact refDecode_empty w
  · by_cases hh : hdN s = 0
    · exact refDecode_leaf s w h1 hh
    · exact refDecode_inner s w h1 hs hh _ rfl
end Go.Proofs.Ytbodacjhhkjdfaa
