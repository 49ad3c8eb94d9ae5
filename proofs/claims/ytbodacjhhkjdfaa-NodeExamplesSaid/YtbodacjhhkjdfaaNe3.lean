/- The law NodeExamples: its walk. -/
import Derived.Test.YtbodacjhhkjdfaaNe2
namespace Go.Proofs.Ytbodacjhhkjdfaa
open Go.RowKit

set_option maxRecDepth 100000 in
set_option maxHeartbeats 16000000 in
theorem walk_examples (w : World) :
    Calls Try.prog 11 #[] w fun e w' => e = .returned (.bool true) ∧ Below w.heap.size w w' := by
  go_enter Try.func11, Try.ntmps11
  go_wp2_with fail
  go_loopw [0, 1, 2, 3] (fun zv lv mv hv wr => ∃ ls ms hh : Int, zv = .bool false ∧ -1 ≤ hh ∧ hh ≤ 19 ∧ hv = .int .i64 hh ∧ lv = .int .i64 ls ∧ mv = .int .i64 ms ∧ 8 ≤ ls ∧ ls ≤ pwI hh ∧ 16 ≤ ms ∧ ms ≤ 65536 ∧ Below w.heap.size w wr) (fun _ _ _ hv _ => (19 - intOf hv).toNat)
  case atStart => exact ⟨8, 16, -1, rfl, by omega, by omega, rfl, rfl, rfl, by omega, by decide, by omega, by omega, Below.refl _ _⟩
  case round =>
    obtain ⟨ls, ms, hh, rfl, hh0, hh1, rfl, rfl, rfl, hl8, hlp, hm16, hm65, hbr⟩ := hrel
    have hpw := pwI_le hh hh1
    have hl83 : ls ≤ 8388608 := by omega
    have hpw2 := pwI_succ hh hh0
    have HLP := Lib.hid hlp
    have HPW2 := Lib.hid hpw2
    have BW0 := Lib.hid hbr
    clear hpw hpw2 hlp hbr
    by_cases hlt : hh < 19
    · skip
      obtain ⟨w0, hw0⟩ : ∃ w0, w0 = wr := ⟨_, rfl⟩
      rw [← hw0] at BW0
      rw [← hw0]
      clear hw0
      go_wp2_with fail
      refine (of_n hh [ls, ls] #[.int .i64 (ls), .int .i64 (ls)] 2 w0 rfl (by decide) rfl).mono ?_; rintro e w1 ⟨a1, c1, rfl, k1, hno1, hb⟩
      have K1 := Lib.hid k1
      have HNO1 := Lib.hid hno1
      replace BW0 := Lib.hid (below_step BW0.out hb)
      clear hb k1 hno1
      go_wp2_with fail
      refine (of_n hh [ms, ms] #[.int .i64 (ms), .int .i64 (ms)] 2 w1 rfl (by decide) rfl).mono ?_; rintro e w2 ⟨a2, c2, rfl, k2, hno2, hb⟩
      replace K1 := Lib.hid (K1.out.later hb)
      have K2 := Lib.hid k2
      have HNO2 := Lib.hid hno2
      replace BW0 := Lib.hid (below_step BW0.out hb)
      clear hb k2 hno2
      go_wp2_with fail
      refine (of_n hh [ls - 1, ls] #[.int .i64 (ls - 1), .int .i64 (ls)] 2 w2 rfl (by decide) rfl).mono ?_; rintro e w3 ⟨a3, c3, rfl, k3, hno3, hb⟩
      replace K1 := Lib.hid (K1.out.later hb)
      replace K2 := Lib.hid (K2.out.later hb)
      have K3 := Lib.hid k3
      have HNO3 := Lib.hid hno3
      replace BW0 := Lib.hid (below_step BW0.out hb)
      clear hb k3 hno3
      go_wp2_with fail
      refine (of_n hh [ls, ms + 1] #[.int .i64 (ls), .int .i64 (ms + 1)] 2 w3 rfl (by decide) rfl).mono ?_; rintro e w4 ⟨a4, c4, rfl, k4, hno4, hb⟩
      replace K1 := Lib.hid (K1.out.later hb)
      replace K2 := Lib.hid (K2.out.later hb)
      replace K3 := Lib.hid (K3.out.later hb)
      have K4 := Lib.hid k4
      have HNO4 := Lib.hid hno4
      replace BW0 := Lib.hid (below_step BW0.out hb)
      clear hb k4 hno4
      go_wp2_with fail
      refine (of_n hh [ls] #[.int .i64 (ls)] 1 w4 rfl (by decide) rfl).mono ?_; rintro e w5 ⟨a5, c5, rfl, k5, hno5, hb⟩
      replace K1 := Lib.hid (K1.out.later hb)
      replace K2 := Lib.hid (K2.out.later hb)
      replace K3 := Lib.hid (K3.out.later hb)
      replace K4 := Lib.hid (K4.out.later hb)
      have K5 := Lib.hid k5
      have HNO5 := Lib.hid hno5
      replace BW0 := Lib.hid (below_step BW0.out hb)
      clear hb k5 hno5
      go_wp2_with fail
      refine (of_n hh [ls, ls, ls, ls] #[.int .i64 (ls), .int .i64 (ls), .int .i64 (ls), .int .i64 (ls)] 4 w5 rfl (by decide) rfl).mono ?_; rintro e w6 ⟨a6, c6, rfl, k6, hno6, hb⟩
      replace K1 := Lib.hid (K1.out.later hb)
      replace K2 := Lib.hid (K2.out.later hb)
      replace K3 := Lib.hid (K3.out.later hb)
      replace K4 := Lib.hid (K4.out.later hb)
      replace K5 := Lib.hid (K5.out.later hb)
      have K6 := Lib.hid k6
      have HNO6 := Lib.hid hno6
      replace BW0 := Lib.hid (below_step BW0.out hb)
      clear hb k6 hno6
      go_wp2_with fail
      refine (of_n hh [ls, ls, ls, ls, ls] #[.int .i64 (ls), .int .i64 (ls), .int .i64 (ls), .int .i64 (ls), .int .i64 (ls)] 5 w6 rfl (by decide) rfl).mono ?_; rintro e w7 ⟨a7, c7, rfl, k7, hno7, hb⟩
      replace K1 := Lib.hid (K1.out.later hb)
      replace K2 := Lib.hid (K2.out.later hb)
      replace K3 := Lib.hid (K3.out.later hb)
      replace K4 := Lib.hid (K4.out.later hb)
      replace K5 := Lib.hid (K5.out.later hb)
      replace K6 := Lib.hid (K6.out.later hb)
      have K7 := Lib.hid k7
      have HNO7 := Lib.hid hno7
      replace BW0 := Lib.hid (below_step BW0.out hb)
      clear hb k7 hno7
      go_wp2_with fail
      refine (of_n hh [ls, 65536 - ls] #[.int .i64 (ls), .int .i64 (65536 - ls)] 2 w7 rfl (by decide) rfl).mono ?_; rintro e w8 ⟨a8, c8, rfl, k8, hno8, hb⟩
      replace K1 := Lib.hid (K1.out.later hb)
      replace K2 := Lib.hid (K2.out.later hb)
      replace K3 := Lib.hid (K3.out.later hb)
      replace K4 := Lib.hid (K4.out.later hb)
      replace K5 := Lib.hid (K5.out.later hb)
      replace K6 := Lib.hid (K6.out.later hb)
      replace K7 := Lib.hid (K7.out.later hb)
      have K8 := Lib.hid k8
      have HNO8 := Lib.hid hno8
      replace BW0 := Lib.hid (below_step BW0.out hb)
      clear hb k8 hno8
      go_wp2_with fail
      refine (of_n hh [ls, 65537 - ls] #[.int .i64 (ls), .int .i64 (65537 - ls)] 2 w8 rfl (by decide) rfl).mono ?_; rintro e w9 ⟨a9, c9, rfl, k9, hno9, hb⟩
      replace K1 := Lib.hid (K1.out.later hb)
      replace K2 := Lib.hid (K2.out.later hb)
      replace K3 := Lib.hid (K3.out.later hb)
      replace K4 := Lib.hid (K4.out.later hb)
      replace K5 := Lib.hid (K5.out.later hb)
      replace K6 := Lib.hid (K6.out.later hb)
      replace K7 := Lib.hid (K7.out.later hb)
      replace K8 := Lib.hid (K8.out.later hb)
      have K9 := Lib.hid k9
      have HNO9 := Lib.hid hno9
      replace BW0 := Lib.hid (below_step BW0.out hb)
      clear hb k9 hno9
      go_wp2_with fail
      refine (of_n hh [65536, 65536] #[.int .i64 (65536), .int .i64 (65536)] 2 w9 rfl (by decide) rfl).mono ?_; rintro e w10 ⟨a10, c10, rfl, k10, hno10, hb⟩
      replace K1 := Lib.hid (K1.out.later hb)
      replace K2 := Lib.hid (K2.out.later hb)
      replace K3 := Lib.hid (K3.out.later hb)
      replace K4 := Lib.hid (K4.out.later hb)
      replace K5 := Lib.hid (K5.out.later hb)
      replace K6 := Lib.hid (K6.out.later hb)
      replace K7 := Lib.hid (K7.out.later hb)
      replace K8 := Lib.hid (K8.out.later hb)
      replace K9 := Lib.hid (K9.out.later hb)
      have K10 := Lib.hid k10
      have HNO10 := Lib.hid hno10
      replace BW0 := Lib.hid (below_step BW0.out hb)
      clear hb k10 hno10
      go_wp2_with fail
      refine (of_0 hh w10).mono ?_; rintro e w11 ⟨a11, c11, rfl, k11, hno11, hb⟩
      replace K1 := Lib.hid (K1.out.later hb)
      replace K2 := Lib.hid (K2.out.later hb)
      replace K3 := Lib.hid (K3.out.later hb)
      replace K4 := Lib.hid (K4.out.later hb)
      replace K5 := Lib.hid (K5.out.later hb)
      replace K6 := Lib.hid (K6.out.later hb)
      replace K7 := Lib.hid (K7.out.later hb)
      replace K8 := Lib.hid (K8.out.later hb)
      replace K9 := Lib.hid (K9.out.later hb)
      replace K10 := Lib.hid (K10.out.later hb)
      have K11 := Lib.hid k11
      have HNO11 := Lib.hid hno11
      replace BW0 := Lib.hid (below_step BW0.out hb)
      clear hb k11 hno11
      go_wp2_with fail
      have hbl := block_new w11 (.cells #[.int .i64 hh, .string ⟨#[]⟩, .slice a1 2 c1, .int .i64 hh, .string ⟨#[]⟩, .slice a2 2 c2, .int .i64 hh, .string ⟨#[]⟩, .slice a3 2 c3, .int .i64 hh, .string ⟨#[]⟩, .slice a4 2 c4, .int .i64 hh, .string ⟨#[]⟩, .slice a5 1 c5, .int .i64 hh, .string ⟨#[]⟩, .slice a6 4 c6, .int .i64 hh, .string ⟨#[]⟩, .slice a7 5 c7, .int .i64 hh, .string ⟨#[]⟩, .slice a8 2 c8, .int .i64 hh, .string ⟨#[]⟩, .slice a9 2 c9, .int .i64 hh, .string ⟨#[]⟩, .slice a10 2 c10, .int .i64 hh, .string ⟨#[]⟩, .slice a11 0 c11] 24)
      have hN : NodesAt (w11.alloc (.cells #[.int .i64 hh, .string ⟨#[]⟩, .slice a1 2 c1, .int .i64 hh, .string ⟨#[]⟩, .slice a2 2 c2, .int .i64 hh, .string ⟨#[]⟩, .slice a3 2 c3, .int .i64 hh, .string ⟨#[]⟩, .slice a4 2 c4, .int .i64 hh, .string ⟨#[]⟩, .slice a5 1 c5, .int .i64 hh, .string ⟨#[]⟩, .slice a6 4 c6, .int .i64 hh, .string ⟨#[]⟩, .slice a7 5 c7, .int .i64 hh, .string ⟨#[]⟩, .slice a8 2 c8, .int .i64 hh, .string ⟨#[]⟩, .slice a9 2 c9, .int .i64 hh, .string ⟨#[]⟩, .slice a10 2 c10, .int .i64 hh, .string ⟨#[]⟩, .slice a11 0 c11] 24)) w11.heap.size 11 := by
        refine ⟨by simp, fun i hi => ?_⟩
        rcases (show i = 0 ∨ i = 1 ∨ i = 2 ∨ i = 3 ∨ i = 4 ∨ i = 5 ∨ i = 6 ∨ i = 7 ∨ i = 8 ∨ i = 9 ∨ i = 10 by omega) with rfl | rfl | rfl | rfl | rfl | rfl | rfl | rfl | rfl | rfl | rfl
        · exact ⟨⟨hh, ⟨#[]⟩, ofK [ls, ls]⟩, a1, 2, c1, block_cell hbl _, block_cell hbl _, block_cell hbl _, K1.out.later ((Below.refl _ _).alloc (Nat.le_refl _) _), by decide, HNO1.out⟩
        · exact ⟨⟨hh, ⟨#[]⟩, ofK [ms, ms]⟩, a2, 2, c2, block_cell hbl _, block_cell hbl _, block_cell hbl _, K2.out.later ((Below.refl _ _).alloc (Nat.le_refl _) _), by decide, HNO2.out⟩
        · exact ⟨⟨hh, ⟨#[]⟩, ofK [ls - 1, ls]⟩, a3, 2, c3, block_cell hbl _, block_cell hbl _, block_cell hbl _, K3.out.later ((Below.refl _ _).alloc (Nat.le_refl _) _), by decide, HNO3.out⟩
        · exact ⟨⟨hh, ⟨#[]⟩, ofK [ls, ms + 1]⟩, a4, 2, c4, block_cell hbl _, block_cell hbl _, block_cell hbl _, K4.out.later ((Below.refl _ _).alloc (Nat.le_refl _) _), by decide, HNO4.out⟩
        · exact ⟨⟨hh, ⟨#[]⟩, ofK [ls]⟩, a5, 1, c5, block_cell hbl _, block_cell hbl _, block_cell hbl _, K5.out.later ((Below.refl _ _).alloc (Nat.le_refl _) _), by decide, HNO5.out⟩
        · exact ⟨⟨hh, ⟨#[]⟩, ofK [ls, ls, ls, ls]⟩, a6, 4, c6, block_cell hbl _, block_cell hbl _, block_cell hbl _, K6.out.later ((Below.refl _ _).alloc (Nat.le_refl _) _), by decide, HNO6.out⟩
        · exact ⟨⟨hh, ⟨#[]⟩, ofK [ls, ls, ls, ls, ls]⟩, a7, 5, c7, block_cell hbl _, block_cell hbl _, block_cell hbl _, K7.out.later ((Below.refl _ _).alloc (Nat.le_refl _) _), by decide, HNO7.out⟩
        · exact ⟨⟨hh, ⟨#[]⟩, ofK [ls, 65536 - ls]⟩, a8, 2, c8, block_cell hbl _, block_cell hbl _, block_cell hbl _, K8.out.later ((Below.refl _ _).alloc (Nat.le_refl _) _), by decide, HNO8.out⟩
        · exact ⟨⟨hh, ⟨#[]⟩, ofK [ls, 65537 - ls]⟩, a9, 2, c9, block_cell hbl _, block_cell hbl _, block_cell hbl _, K9.out.later ((Below.refl _ _).alloc (Nat.le_refl _) _), by decide, HNO9.out⟩
        · exact ⟨⟨hh, ⟨#[]⟩, ofK [65536, 65536]⟩, a10, 2, c10, block_cell hbl _, block_cell hbl _, block_cell hbl _, K10.out.later ((Below.refl _ _).alloc (Nat.le_refl _) _), by decide, HNO10.out⟩
        · exact ⟨⟨hh, ⟨#[]⟩, []⟩, a11, 0, c11, block_cell hbl _, block_cell hbl _, block_cell hbl _, K11.out.later ((Below.refl _ _).alloc (Nat.le_refl _) _), by decide, HNO11.out⟩
      have HN := Lib.hid hN
      replace BW0 := Lib.hid (BW0.out.alloc BW0.out.size (.cells #[.int .i64 hh, .string ⟨#[]⟩, .slice a1 2 c1, .int .i64 hh, .string ⟨#[]⟩, .slice a2 2 c2, .int .i64 hh, .string ⟨#[]⟩, .slice a3 2 c3, .int .i64 hh, .string ⟨#[]⟩, .slice a4 2 c4, .int .i64 hh, .string ⟨#[]⟩, .slice a5 1 c5, .int .i64 hh, .string ⟨#[]⟩, .slice a6 4 c6, .int .i64 hh, .string ⟨#[]⟩, .slice a7 5 c7, .int .i64 hh, .string ⟨#[]⟩, .slice a8 2 c8, .int .i64 hh, .string ⟨#[]⟩, .slice a9 2 c9, .int .i64 hh, .string ⟨#[]⟩, .slice a10 2 c10, .int .i64 hh, .string ⟨#[]⟩, .slice a11 0 c11] 24))
      clear K1 HNO1 K2 HNO2 K3 HNO3 K4 HNO4 K5 HNO5 K6 HNO6 K7 HNO7 K8 HNO8 K9 HNO9 K10 HNO10 K11 HNO11 hbl hN
      obtain ⟨bl, hbl⟩ : ∃ b, b = w11.heap.size := ⟨_, rfl⟩
      rw [← hbl] at HN
      rw [← hbl]
      clear hbl
      go_loopw [0, 5] (fun zv iv wq => ∃ i : Nat, zv = .bool false ∧ i ≤ 11 ∧ iv = .int .i64 i ∧ Below w.heap.size w wq ∧ NodesAt wq bl 11) (fun _ iv _ => 11 - (intOf iv).toNat)
      case atStart => exact ⟨0, rfl, by omega, rfl, BW0.out, HN.out⟩
      case round =>
        obtain ⟨i, rfl, hi11, rfl, hbq, hnq⟩ := hrel
        clear BW0 HN
        have BW0 := Lib.hid hbq
        have HN := Lib.hid hnq
        clear hbq hnq
        by_cases hi : i < 11
        · have hdi : decide ((i : Int) < 11) = true := decide_eq_true (by omega)
          go_wp2_with fail
          go_loopw [0, 6] (fun zv nv wp => ∃ nn : Int, zv = .bool false ∧ -1 ≤ nn ∧ nn ≤ 3 ∧ nv = .int .i64 nn ∧ Below w.heap.size w wp ∧ NodesAt wp bl 11) (fun _ nv _ => (3 - intOf nv).toNat)
          case atStart => exact ⟨-1, rfl, by omega, by omega, rfl, BW0.out, HN.out⟩
          case round =>
            obtain ⟨nn, rfl, hn0, hn3, rfl, hbp, hnp⟩ := hrel
            clear BW0 HN
            have BW0 := Lib.hid hbp
            have HN := Lib.hid hnp
            clear hbp hnp
            by_cases hnlt : nn < 3
            · skip
              obtain ⟨x1, ao1, n1, cc1, q01, q11, q21, hk1, h51, hno1⟩ := HN.out.2 i (by omega)
              have KX1 := Lib.hid hk1
              clear hk1 hno1
              go_wp2_with fail
              refine (matches_5 x1 nn ao1 n1 cc1 _ KX1.out (by omega) (by omega) (by omega)).mono ?_; rintro e v1 ⟨rfl, hb⟩
              replace BW0 := Lib.hid (below_step BW0.out hb)
              replace HN := Lib.hid (HN.out.later hb)
              clear hb
              obtain ⟨x2, ao2, n2, cc2, q02, q12, q22, hk2, h52, hno2⟩ := HN.out.2 i (by omega)
              have KX2 := Lib.hid hk2
              clear hk2 hno2
              go_wp2_with fail
              refine (matches_5 x2 (nn + ls) ao2 n2 cc2 _ KX2.out (by omega) (by omega) (by omega)).mono ?_; rintro e v2 ⟨rfl, hb⟩
              replace BW0 := Lib.hid (below_step BW0.out hb)
              replace HN := Lib.hid (HN.out.later hb)
              clear hb
              obtain ⟨x3, ao3, n3, cc3, q03, q13, q23, hk3, h53, hno3⟩ := HN.out.2 i (by omega)
              have KX3 := Lib.hid hk3
              clear hk3 hno3
              go_wp2_with fail
              refine (matches_5 x3 (nn + 2 * ls) ao3 n3 cc3 _ KX3.out (by omega) (by omega) (by omega)).mono ?_; rintro e v3 ⟨rfl, hb⟩
              replace BW0 := Lib.hid (below_step BW0.out hb)
              replace HN := Lib.hid (HN.out.later hb)
              clear hb
              go_wp2_with fail
              go_roundw
              case rel => exact ⟨nn + 1, rfl, by omega, by omega, rfl, BW0.out, HN.out⟩
              case measure => simp [intOf]; omega
            · skip
              obtain ⟨x1, ao1, n1, cc1, q01, q11, q21, hk1, h51, hno1⟩ := HN.out.2 i (by omega)
              have KX1 := Lib.hid hk1
              clear hk1 hno1
              obtain ⟨x2, ao2, n2, cc2, q02, q12, q22, hk2, h52, hno2⟩ := HN.out.2 0 (by omega)
              have KX2 := Lib.hid hk2
              clear hk2 hno2
              have hblz := HN.out.1
              go_wp2_with fail
              refine wp_region_specs (by kernel_rfl) (by decide) (by kernel_rfl) ?_
              simp only [fill, Act.put, List.setIfInBounds_toArray, List.set_cons_zero, List.set_cons_succ, Nat.zero_add, Nat.reduceAdd]
              apply OpsOK.eq
              · intro vs u hb hd
                clear hd
                go_wp2_with fail
                exact ⟨rfl, _, rfl, Below.refl _ _, rfl⟩
              apply OpsOK.eq
              · intro vs u hb hd
                clear hd
                go_wp2_with fail
                exact ⟨rfl, _, rfl, Below.refl _ _, rfl⟩
              apply OpsOK.eq
              · intro vs u hb hd
                clear hd
                go_wp2_with fail
                exact ⟨rfl, _, rfl, Below.refl _ _, rfl⟩
              apply OpsOK.eq
              · intro vs u hb hd
                simp [Region.binds] at hd
                obtain ⟨e1, e2⟩ := hd
                simp only [e1, e2]
                go_wp2_with fail
                exact ⟨rfl, _, rfl, Below.refl _ _, rfl⟩
              apply OpsOK.eq
              · intro vs u hb hd
                simp [Region.binds] at hd
                have e3 := hd
                clear hd
                simp only [e3]
                go_wp2_with fail
                exact ⟨rfl, _, rfl, Below.refl _ _, rfl⟩
              apply OpsOK.eq
              · intro vs u hb hd
                simp [Region.binds] at hd
                have e4 := hd
                clear hd
                simp only [e4]
                have p0 := (hb.cell (p := ⟨bl, _, none⟩) hblz).trans q01
                have p1 := (hb.cell (p := ⟨bl, _, none⟩) hblz).trans q11
                have p2 := (hb.cell (p := ⟨bl, _, none⟩) hblz).trans q21
                go_wp2_with fail
                exact ⟨rfl, _, rfl, Below.refl _ _, rfl⟩
              apply OpsOK.eq
              · intro vs u hb hd
                simp [Region.binds] at hd
                obtain ⟨e0, e5⟩ := hd
                simp only [e0, e5]
                have kx1 := KX1.out.later hb
                have KK1 := Lib.hid kx1
                clear kx1
                go_wp2_with fail
                refine (makes_5 ⟨#[]⟩ hh x1.kids ao1 n1 cc1 _ KK1.out (by omega)).mono ?_; rintro e w' ⟨rfl, hbel⟩; go_wp2_with fail; exact ⟨rfl, _, rfl, hbel, rfl⟩
              apply OpsOK.eq
              · intro vs u hb hd
                simp [Region.binds] at hd
                have e6 := hd
                clear hd
                simp only [e6]
                go_wp2_with fail
                exact ⟨rfl, _, rfl, Below.refl _ _, rfl⟩
              apply OpsOK.eq
              · intro vs u hb hd
                simp [Region.binds] at hd
                obtain ⟨e7, e6⟩ := hd
                simp only [e7, e6]
                go_wp2_with fail
                exact ⟨rfl, _, rfl, Below.refl _ _, rfl⟩
              apply OpsOK.eq
              · intro vs u hb hd
                simp [Region.binds] at hd
                have e8 := hd
                clear hd
                simp only [e8]
                go_wp2_with fail
                exact ⟨rfl, _, rfl, Below.refl _ _, rfl⟩
              apply OpsOK.eq
              · intro vs u hb hd
                simp [Region.binds] at hd
                have e8 := hd
                clear hd
                simp only [e8]
                go_wp2_with fail
                exact ⟨rfl, _, rfl, Below.refl _ _, rfl⟩
              apply OpsOK.eq
              · intro vs u hb hd
                simp [Region.binds] at hd
                obtain ⟨e9, e10, e8⟩ := hd
                simp only [e9, e10, e8]
                go_wp2_with fail
                exact ⟨rfl, _, rfl, Below.refl _ _, rfl⟩
              apply OpsOK.eq
              · intro vs u hb hd
                simp [Region.binds] at hd
                obtain ⟨e11, e8⟩ := hd
                simp only [e11, e8]
                have p0 := (hb.cell (p := ⟨bl, _, none⟩) hblz).trans q01
                have p1 := (hb.cell (p := ⟨bl, _, none⟩) hblz).trans q11
                have p2 := (hb.cell (p := ⟨bl, _, none⟩) hblz).trans q21
                go_wp2_with fail
                exact ⟨rfl, _, rfl, Below.refl _ _, rfl⟩
              apply OpsOK.eq
              · intro vs u hb hd
                simp [Region.binds] at hd
                have e8 := hd
                clear hd
                simp only [e8]
                go_wp2_with fail
                exact ⟨rfl, _, rfl, Below.refl _ _, rfl⟩
              apply OpsOK.eq
              · intro vs u hb hd
                simp [Region.binds] at hd
                obtain ⟨e13, e8⟩ := hd
                simp only [e13, e8]
                go_wp2_with fail
                exact ⟨rfl, _, rfl, Below.refl _ _, rfl⟩
              apply OpsOK.eq
              · intro vs u hb hd
                simp [Region.binds] at hd
                obtain ⟨e14, e8⟩ := hd
                simp only [e14, e8]
                have p0 := (hb.cell (p := ⟨bl, _, none⟩) hblz).trans q02
                have p1 := (hb.cell (p := ⟨bl, _, none⟩) hblz).trans q12
                have p2 := (hb.cell (p := ⟨bl, _, none⟩) hblz).trans q22
                go_wp2_with fail
                exact ⟨rfl, _, rfl, Below.refl _ _, rfl⟩
              apply OpsOK.eq
              · intro vs u hb hd
                simp [Region.binds] at hd
                obtain ⟨e12, e15, e8⟩ := hd
                simp only [e12, e15, e8]
                have kx1 := KX1.out.later hb
                have KK1 := Lib.hid kx1
                clear kx1
                have kx2 := KX2.out.later hb
                have KK2 := Lib.hid kx2
                clear kx2
                go_wp2_with fail
                refine (equals_5 x1 x2 ao1 ao2 n1 cc1 n2 cc2 _ KK1.out KK2.out (by omega) (by omega)).mono ?_; rintro e w' ⟨rfl, hbel⟩; go_wp2_with fail; exact ⟨rfl, _, rfl, hbel, rfl⟩
              apply OpsOK.eq
              · intro vs u hb hd
                simp [Region.binds] at hd
                obtain ⟨e16, e8⟩ := hd
                simp only [e16, e8]
                go_wp2_with fail
                exact ⟨rfl, _, rfl, Below.refl _ _, rfl⟩
              apply OpsOK.eq
              · intro vs u hb hd
                simp [Region.binds] at hd
                obtain ⟨e8, e17⟩ := hd
                simp only [e8, e17]
                go_wp2_with fail
                exact ⟨rfl, _, rfl, Below.refl _ _, rfl⟩
              refine OpsOK.done ?_
              intro vs14 u14 hbu hS
              have h18 := hS 18 (by decide)
              simp at h18
              simp only [h18]
              clear h18
              clear hS
              replace BW0 := Lib.hid (below_step BW0.out hbu)
              replace HN := Lib.hid (HN.out.later hbu)
              clear hbu q01 q11 q21 q02 q12 q22 hblz KX1 KX2
              obtain ⟨x3, ao3, n3, cc3, q03, q13, q23, hk3, h53, hno3⟩ := HN.out.2 i (by omega)
              have KX3 := Lib.hid hk3
              clear hk3 hno3
              go_wp2_with fail
              refine (refEncode_5 x3 ao3 n3 cc3 _ KX3.out).mono ?_; rintro e v4 ⟨st, ee, hst, rfl, hb⟩
              replace BW0 := Lib.hid (below_step BW0.out hb)
              replace HN := Lib.hid (HN.out.later hb)
              clear hb q03 q13 q23 KX3
              go_wp2_with fail
              refine (walk_decodes st _ (by omega)).mono ?_; rintro e v5 ⟨rfl, hb⟩
              replace BW0 := Lib.hid (below_step BW0.out hb)
              replace HN := Lib.hid (HN.out.later hb)
              clear hb
              have hcat : ¬ 9223372036854775807 < st.size + 1 := by omega
              have hsa : (st ++ ⟨#[97]⟩).size ≤ 4294967296 := by rw [ByteArray.size_append]; show st.size + 1 ≤ _; omega
              go_wp2_with fail
              have CD := walk_decodes (st ++ ⟨#[97]⟩) v5 hsa
              refine Calls.mono CD ?_; clear CD; rintro e v6 ⟨rfl, hb⟩
              replace BW0 := Lib.hid (below_step BW0.out hb)
              replace HN := Lib.hid (HN.out.later hb)
              clear hb
              clear hsa hcat
              by_cases hpos : 0 < st.size
              · have hd : decide ((0 : Int) < (st.size : Int)) = true := decide_eq_true (by omega)
                have hs1 : (st.extract 1 st.size).size ≤ 4294967296 := by rw [ex_size _ _ _ (Nat.le_refl _)]; omega
                go_wp2_with fail
                refine (walk_decodes (st.extract 1 st.size) _ hs1).mono ?_; rintro e v7 ⟨rfl, hb⟩
                replace BW0 := Lib.hid (below_step BW0.out hb)
                replace HN := Lib.hid (HN.out.later hb)
                clear hb
                go_wp2_with fail
                go_roundw
                case rel => exact ⟨i + 1, rfl, by omega, by go_num, BW0.out, HN.out⟩
                case measure => simp [intOf]; omega
              · have hd : decide ((0 : Int) < (st.size : Int)) = false := decide_eq_false (by omega)
                go_wp2_with fail
                go_roundw
                case rel => exact ⟨i + 1, rfl, by omega, by go_num, BW0.out, HN.out⟩
                case measure => simp [intOf]; omega
        · by_cases hh1' : 1 ≤ hh
          · by_cases hmm : 65536 < 4 * ms
            · skip
              go_wp2_with fail
              go_roundw
              case rel => exact ⟨2 * ls, 65536, hh + 1, rfl, by omega, by omega, rfl, rfl, rfl, by omega, (by rw [HPW2.out]; have := HLP.out; omega), by omega, by omega, BW0.out⟩
              case measure => simp [intOf]; omega
            · skip
              go_wp2_with fail
              go_roundw
              case rel => exact ⟨2 * ls, 4 * ms, hh + 1, rfl, by omega, by omega, rfl, rfl, rfl, by omega, (by rw [HPW2.out]; have := HLP.out; omega), by omega, by omega, BW0.out⟩
              case measure => simp [intOf]; omega
          · skip
            go_wp2_with fail
            go_roundw
            case rel => exact ⟨ls, ms, hh + 1, rfl, by omega, by omega, rfl, rfl, rfl, by omega, (by rw [HPW2.out]; have := HLP.out; omega), by omega, by omega, BW0.out⟩
            case measure => simp [intOf]; omega
    · skip
      obtain ⟨wz, hwz⟩ : ∃ w0, w0 = wr := ⟨_, rfl⟩
      rw [← hwz] at BW0
      rw [← hwz]
      clear hwz HLP HPW2
      go_wp2_with fail
      have HK9 := Lib.hid (kids9_at wz #[.int .u64 0, .int .i64 0, .int .i64 0, .int .i64 0, .int .u64 65536, .int .i64 0, .int .i64 0, .int .i64 0, .int .u64 65536, .int .i64 8, .int .i64 (-1), .int .i64 0, .int .u64 65536, .int .i64 8, .int .i64 9, .int .i64 0, .int .u64 65536, .int .i64 8, .int .i64 8, .int .i64 (-1), .int .u64 65536, .int .i64 8, .int .i64 4, .int .i64 5, .int .u64 1, .int .i64 8, .int .i64 0, .int .i64 0, .int .u64 65536, .int .i64 9223372036854775807, .int .i64 0, .int .i64 0, .int .u64 65536, .int .i64 (-9223372036854775808), .int .i64 0, .int .i64 0] rfl)
      replace BW0 := Lib.hid (BW0.out.alloc BW0.out.size (.cells #[.int .u64 0, .int .i64 0, .int .i64 0, .int .i64 0, .int .u64 65536, .int .i64 0, .int .i64 0, .int .i64 0, .int .u64 65536, .int .i64 8, .int .i64 (-1), .int .i64 0, .int .u64 65536, .int .i64 8, .int .i64 9, .int .i64 0, .int .u64 65536, .int .i64 8, .int .i64 8, .int .i64 (-1), .int .u64 65536, .int .i64 8, .int .i64 4, .int .i64 5, .int .u64 1, .int .i64 8, .int .i64 0, .int .i64 0, .int .u64 65536, .int .i64 9223372036854775807, .int .i64 0, .int .i64 0, .int .u64 65536, .int .i64 (-9223372036854775808), .int .i64 0, .int .i64 0] 49))
      obtain ⟨bk, hbk⟩ : ∃ b, b = wz.heap.size := ⟨_, rfl⟩
      rw [← hbk] at HK9
      rw [← hbk]
      clear hbk
      go_loopw [0, 10] (fun zv iv wq => ∃ i : Nat, zv = .bool false ∧ i ≤ 9 ∧ iv = .int .i64 i ∧ Below w.heap.size w wq ∧ IsKs wq (some ⟨bk, 0, none⟩) 9 kids9) (fun _ iv _ => 9 - (intOf iv).toNat)
      case atStart => exact ⟨0, rfl, by omega, rfl, BW0.out, HK9.out⟩
      case round =>
        obtain ⟨i, rfl, hi9, rfl, hbq, hkq⟩ := hrel
        clear BW0 HK9
        have BW0 := Lib.hid hbq
        have HK9 := Lib.hid hkq
        clear hbq hkq
        by_cases hi : i < 9
        · have hdi : decide ((i : Int) < 9) = true := decide_eq_true (by omega)
          obtain ⟨w0, hw0⟩ : ∃ w0, w0 = wr := ⟨_, rfl⟩
          rw [← hw0] at BW0 HK9
          rw [← hw0]
          clear hw0
          go_wp2_with fail
          have hw0s := BW0.out.size
          have hbk0 := IsKs.lt HK9.out (by decide)
          have CD := of_own 1 w0
          refine Calls.mono CD ?_; clear CD; rintro e w1 ⟨g, c1, cur, rfl, hgw, hg, htk, hb⟩
          replace BW0 := Lib.hid (below_step BW0.out hb)
          replace HK9 := Lib.hid (HK9.out.later hb)
          have HG := Lib.hid hg
          have HTK := Lib.hid htk
          clear hb hg htk
          go_wp2_with fail
          have HX := Lib.hid (block_new w1 (.cells #[.int .i64 1, .string ⟨#[]⟩, .slice (some ⟨g, 0, none⟩) 2 c1] 24))
          have HGA := Lib.hid (block_alloc HG.out (.cells #[.int .i64 1, .string ⟨#[]⟩, .slice (some ⟨g, 0, none⟩) 2 c1] 24))
          have HKA := Lib.hid (HK9.out.box (.cells #[.int .i64 1, .string ⟨#[]⟩, .slice (some ⟨g, 0, none⟩) 2 c1] 24))
          have BWA := Lib.hid (BW0.out.alloc BW0.out.size (.cells #[.int .i64 1, .string ⟨#[]⟩, .slice (some ⟨g, 0, none⟩) 2 c1] 24))
          have hgx : g < w1.heap.size := block_lt HG.out
          have hwg : w.heap.size ≤ g := Nat.le_trans hw0s hgw
          obtain ⟨kd, hkd⟩ : ∃ k, kids9[i]'hi = k := ⟨_, rfl⟩
          have hkr : 0 ≤ kd.1 ∧ kd.1 ≤ 18446744073709551615 := by rw [← hkd]; exact HKA.out.2.1 _ (List.getElem_mem hi)
          have HKD := Lib.hid hkd
          have HKR := Lib.hid hkr
          clear hkd hkr
          obtain ⟨h8a, h8b, h8c, h8d, h8⟩ := take8 HTK.out
          have HT8 := Lib.hid (And.intro h8a (And.intro h8b (And.intro h8c h8d)))
          clear h8a h8b h8c h8d
          refine wp_region_plan [.make, .make, .make, .make, .make, .make, .make, .write 0] [0, 1, 2, 3, 4, 5, 6] 1 (fun _ _ u => AfterKid g kd (w1.alloc (.cells #[.int .i64 1, .string ⟨#[]⟩, .slice (some ⟨g, 0, none⟩) 2 c1] 24)) u) (by kernel_rfl) (by decide) (by kernel_rfl) (by kernel_rfl) (by kernel_rfl) (by kernel_rfl) (fun p vs vs' u h hE => hE) ?_
          simp only [fill, Act.put, List.setIfInBounds_toArray, List.set_cons_zero, List.set_cons_succ, Nat.zero_add, Nat.reduceAdd, List.zip_cons_cons, List.zip_nil_right]
          apply OpsIs.eq
          · intro vs u hb hd
            clear hd
            go_wp2_with fail
            exact ⟨rfl, _, rfl, Below.refl _ _, rfl⟩
          apply OpsIs.eq
          · intro vs u hb hd
            have e0 := hd ⟨0, .data⟩ (by simp) (by decide)
            simp at e0
            clear hd
            simp only [e0]
            have q := block_below hb HX.out (block_lt HX.out)
            have p0 := block_cell q 0
            have p1 := block_cell q 1
            have p2 := block_cell q 2
            simp at p0 p1 p2
            clear q
            go_wp2_with fail
            exact ⟨rfl, _, rfl, Below.refl _ _, rfl⟩
          apply OpsIs.eq
          · intro vs u hb hd
            clear hd
            go_wp2_with fail
            exact ⟨rfl, _, rfl, Below.refl _ _, rfl⟩
          apply OpsIs.eq
          · intro vs u hb hd
            clear hd
            go_wp2_with fail
            exact ⟨rfl, _, rfl, Below.refl _ _, rfl⟩
          apply OpsIs.eq
          · intro vs u hb hd
            have e2 := hd ⟨2, .data⟩ (by simp) (by decide)
            simp at e2
            have e3 := hd ⟨3, .data⟩ (by simp) (by decide)
            simp at e3
            clear hd
            simp only [e2, e3]
            go_wp2_with fail
            exact ⟨rfl, _, rfl, Below.refl _ _, rfl⟩
          apply OpsIs.eq
          · intro vs u hb hd
            have e4 := hd ⟨4, .data⟩ (by simp) (by decide)
            simp at e4
            clear hd
            simp only [e4]
            have kk := HKA.out.later hb
            obtain ⟨_, _, kc⟩ := kk
            obtain ⟨b', off', e', hcell⟩ := kc (by decide)
            injection e' with e'
            injection e' with e1' e2'
            subst e1' e2'
            obtain ⟨m0, m1', m2', m3'⟩ := hcell i hi
            rw [HKD.out] at m0 m1' m2' m3'
            simp only [Nat.zero_add] at m0 m1' m2' m3'
            clear hcell kc
            go_wp2_with fail
            exact ⟨rfl, _, rfl, Below.refl _ _, rfl⟩
          apply OpsIs.eq
          · intro vs u hb hd
            have e1 := hd ⟨1, .data⟩ (by simp) (by decide)
            simp at e1
            have e0 := hd ⟨0, .phase⟩ (by simp) (by decide)
            simp at e0
            have e2 := hd ⟨2, .phase⟩ (by simp) (by decide)
            simp at e2
            have e3 := hd ⟨3, .phase⟩ (by simp) (by decide)
            simp at e3
            have e4 := hd ⟨4, .phase⟩ (by simp) (by decide)
            simp at e4
            have e5 := hd ⟨5, .phase⟩ (by simp) (by decide)
            simp at e5
            clear hd
            simp only [e1, e0, e2, e3, e4, e5]
            go_wp2_with fail
            exact ⟨rfl, _, rfl, Below.refl _ _, rfl⟩
          refine OpsIs.first ?_ ?_
          · intro vs u hb hdis hd
            have e5 := hd 5 (by simp)
            simp at e5
            have e6 := hd 6 (by simp)
            simp at e6
            clear hd
            simp only [e5, e6]
            have q := block_below hb HGA.out (block_lt HGA.out)
            have p4 := block_cell q 4
            have p5 := block_cell q 5
            have p6 := block_cell q 6
            have p7 := block_cell q 7
            rw [Array.getElem?_eq_getElem (by omega)] at p4 p5 p6 p7
            have f4 := block_free q 4
            have f5 := block_free q 5
            have f6 := block_free q 6
            have f7 := block_free q 7
            clear q
            go_wp2_with fail
            exact ⟨rfl, undef, rfl, by unfold AfterKid; exact ⟨_, hb, rfl⟩⟩
          refine OpsIs.done ?_
          intro vs26 u26 hE hS
          clear hS
          obtain ⟨v, hbv, hu⟩ := hE
          have hgv := (block_setCell (block_setCell (block_setCell (block_setCell (block_below hbv HGA.out (block_lt HGA.out)) 4 (.int .u64 kd.1)) 5 (.int .i64 kd.2.1)) 6 (.int .i64 kd.2.2.1)) 7 (.int .i64 kd.2.2.2))
          have hxv := (block_setCell_other (block_setCell_other (block_setCell_other (block_setCell_other (block_below hbv HX.out (block_lt HX.out)) (p := ⟨g, 4, none⟩) (by simp; omega) (.int .u64 kd.1)) (p := ⟨g, 5, none⟩) (by simp; omega) (.int .i64 kd.2.1)) (p := ⟨g, 6, none⟩) (by simp; omega) (.int .i64 kd.2.2.1)) (p := ⟨g, 7, none⟩) (by simp; omega) (.int .i64 kd.2.2.2))
          have hwv := ((((below_step BWA.out hbv).setCell (p := ⟨g, 4, none⟩) hwg (.int .u64 kd.1)).setCell (p := ⟨g, 5, none⟩) hwg (.int .i64 kd.2.1)).setCell (p := ⟨g, 6, none⟩) hwg (.int .i64 kd.2.2.1)).setCell (p := ⟨g, 7, none⟩) hwg (.int .i64 kd.2.2.2)
          have hbkg : bk < g := Nat.lt_of_lt_of_le hbk0 hgw
          have hk9 : IsKs u26 (some ⟨bk, 0, none⟩) 9 kids9 := isKs_same (HKA.out.later hbv) (by
            intro q o e
            injection e with e
            injection e with e
            have hne : q ≠ g := by omega
            rw [hu, Below.heap_setCell _ ⟨g, 7, none⟩ _ _ hne, Below.heap_setCell _ ⟨g, 6, none⟩ _ _ hne, Below.heap_setCell _ ⟨g, 5, none⟩ _ _ hne, Below.heap_setCell _ ⟨g, 4, none⟩ _ _ hne])
          rw [← hu] at hgv hxv hwv
          clear hu hbv
          obtain ⟨t0, t1, t2, t3⟩ := HT8.out
          have hkx := two_kids kd HKR.out hgv (by simp [t0]) (by simp [t1]) (by simp [t2]) (by simp [t3]) (by simp [Array.getElem?_setIfInBounds]; try omega) (by simp [Array.getElem?_setIfInBounds]; try omega) (by simp [Array.getElem?_setIfInBounds]; try omega) (by simp [Array.getElem?_setIfInBounds]; try omega)
          have HKX := Lib.hid hkx
          replace HX := Lib.hid hxv
          replace BW0 := Lib.hid hwv
          replace HK9 := Lib.hid hk9
          clear hgv hxv hwv hk9 hkx t0 t1 t2 t3 h8 HT8 HGA HKA BWA HTK HG
          go_wp2_with fail
          have CD := of_n 1 [8, 8, 8] #[.int .i64 8, .int .i64 8, .int .i64 8] 3 u26 rfl (by decide) rfl
          refine Calls.mono CD ?_; clear CD; rintro e w2 ⟨a2, c2, rfl, k2, _, hb⟩
          replace BW0 := Lib.hid (below_step BW0.out hb)
          replace HK9 := Lib.hid (HK9.out.later hb)
          replace HKX := Lib.hid (HKX.out.later hb)
          replace HX := Lib.hid (block_below hb HX.out (block_lt HX.out))
          have HKY := Lib.hid k2
          clear hb k2
          have hx := HX.out
          (have q0 := block_cell hx 0; have q1 := block_cell hx 1; have q2 := block_cell hx 2; have f0 := block_free hx 0; have f1 := block_free hx 1; have f2 := block_free hx 2; have hz := block_lt hx; simp at q0 q1 q2)
          clear hx
          go_wp2_with fail
          replace BW0 := Lib.hid (BW0.out.alloc BW0.out.size (.cells #[.int .i64 1, .string ⟨#[97]⟩, .slice a2 3 c2] 24))
          replace HK9 := Lib.hid (HK9.out.box (.cells #[.int .i64 1, .string ⟨#[97]⟩, .slice a2 3 c2] 24))
          replace HKX := Lib.hid (HKX.out.box (.cells #[.int .i64 1, .string ⟨#[97]⟩, .slice a2 3 c2] 24))
          replace HKY := Lib.hid (HKY.out.box (.cells #[.int .i64 1, .string ⟨#[97]⟩, .slice a2 3 c2] 24))
          replace HX := Lib.hid (block_alloc HX.out (.cells #[.int .i64 1, .string ⟨#[97]⟩, .slice a2 3 c2] 24))
          have HY := Lib.hid (block_new w2 (.cells #[.int .i64 1, .string ⟨#[97]⟩, .slice a2 3 c2] 24))
          have CD := matches_5 ⟨1, ⟨#[]⟩, [(65536, 8, 8, 0), kd]⟩ 0 _ 2 c1 _ HKX.out (by decide) (by decide) (by decide)
          refine Calls.mono CD ?_; clear CD; rintro e w3 ⟨rfl, hb⟩
          replace BW0 := Lib.hid (below_step BW0.out hb)
          replace HK9 := Lib.hid (HK9.out.later hb)
          replace HKX := Lib.hid (HKX.out.later hb)
          replace HX := Lib.hid (block_below hb HX.out (block_lt HX.out))
          replace HKY := Lib.hid (HKY.out.later hb)
          replace HY := Lib.hid (block_below hb HY.out (block_lt HY.out))
          clear hb
          have hx := HX.out
          (have q0 := block_cell hx 0; have q1 := block_cell hx 1; have q2 := block_cell hx 2; have f0 := block_free hx 0; have f1 := block_free hx 1; have f2 := block_free hx 2; have hz := block_lt hx; simp at q0 q1 q2)
          clear hx
          have hy := HY.out
          (have q0 := block_cell hy 0; have q1 := block_cell hy 1; have q2 := block_cell hy 2; have f0 := block_free hy 0; have f1 := block_free hy 1; have f2 := block_free hy 2; have hz := block_lt hy; simp at q0 q1 q2)
          clear hy
          go_wp2_with fail
          have CD := matches_5 ⟨1, ⟨#[97]⟩, ofK [8, 8, 8]⟩ i _ 3 c2 _ HKY.out (by decide) (by omega) (by omega)
          refine Calls.mono CD ?_; clear CD; rintro e w4 ⟨rfl, hb⟩
          replace BW0 := Lib.hid (below_step BW0.out hb)
          replace HK9 := Lib.hid (HK9.out.later hb)
          replace HKX := Lib.hid (HKX.out.later hb)
          replace HX := Lib.hid (block_below hb HX.out (block_lt HX.out))
          replace HKY := Lib.hid (HKY.out.later hb)
          replace HY := Lib.hid (block_below hb HY.out (block_lt HY.out))
          clear hb
          have hx := HX.out
          (have q0 := block_cell hx 0; have q1 := block_cell hx 1; have q2 := block_cell hx 2; have f0 := block_free hx 0; have f1 := block_free hx 1; have f2 := block_free hx 2; have hz := block_lt hx; simp at q0 q1 q2)
          clear hx
          have hy := HY.out
          (have q0 := block_cell hy 0; have q1 := block_cell hy 1; have q2 := block_cell hy 2; have f0 := block_free hy 0; have f1 := block_free hy 1; have f2 := block_free hy 2; have hz := block_lt hy; simp at q0 q1 q2)
          clear hy
          go_wp2_with fail
          have CD := equals_5 ⟨1, ⟨#[]⟩, [(65536, 8, 8, 0), kd]⟩ ⟨1, ⟨#[97]⟩, ofK [8, 8, 8]⟩ _ _ 2 c1 3 c2 _ HKX.out HKY.out (by decide) (by decide)
          refine Calls.mono CD ?_; clear CD; rintro e w5 ⟨rfl, hb⟩
          replace BW0 := Lib.hid (below_step BW0.out hb)
          replace HK9 := Lib.hid (HK9.out.later hb)
          replace HKX := Lib.hid (HKX.out.later hb)
          replace HX := Lib.hid (block_below hb HX.out (block_lt HX.out))
          replace HKY := Lib.hid (HKY.out.later hb)
          replace HY := Lib.hid (block_below hb HY.out (block_lt HY.out))
          clear hb
          have hx := HX.out
          (have q0 := block_cell hx 0; have q1 := block_cell hx 1; have q2 := block_cell hx 2; have f0 := block_free hx 0; have f1 := block_free hx 1; have f2 := block_free hx 2; have hz := block_lt hx; simp at q0 q1 q2)
          clear hx
          have hy := HY.out
          (have q0 := block_cell hy 0; have q1 := block_cell hy 1; have q2 := block_cell hy 2; have f0 := block_free hy 0; have f1 := block_free hy 1; have f2 := block_free hy 2; have hz := block_lt hy; simp at q0 q1 q2)
          clear hy
          go_wp2_with fail
          go_roundw
          case rel => exact ⟨i + 1, rfl, by omega, by go_num, BW0.out, HK9.out⟩
          case measure => simp [intOf]; omega
        · skip
          obtain ⟨wy, hwy⟩ : ∃ w0, w0 = wr := ⟨_, rfl⟩
          rw [← hwy] at BW0
          rw [← hwy]
          clear hwy HK9
          go_wp2_with fail
          have HTB := Lib.hid (block_new wy (.cells #[.string ⟨#[]⟩, .string ⟨#[97]⟩, .string ⟨#[49, 50, 51, 52, 53, 54, 55, 56, 57, 48, 49, 50, 51, 52, 53, 54]⟩, .string ⟨#[49, 50, 51, 52, 53, 54, 55, 56, 57, 48, 49, 50, 51, 52, 53, 54, 55]⟩, .string ⟨#[10, 10]⟩, .string ⟨#[255, 128]⟩] 9))
          replace BW0 := Lib.hid (BW0.out.alloc BW0.out.size (.cells #[.string ⟨#[]⟩, .string ⟨#[97]⟩, .string ⟨#[49, 50, 51, 52, 53, 54, 55, 56, 57, 48, 49, 50, 51, 52, 53, 54]⟩, .string ⟨#[49, 50, 51, 52, 53, 54, 55, 56, 57, 48, 49, 50, 51, 52, 53, 54, 55]⟩, .string ⟨#[10, 10]⟩, .string ⟨#[255, 128]⟩] 9))
          obtain ⟨bt, hbt⟩ : ∃ b, b = wy.heap.size := ⟨_, rfl⟩
          rw [← hbt] at HTB
          rw [← hbt]
          clear hbt
          go_loopw [0, 14] (fun zv iv wq => ∃ i : Nat, zv = .bool false ∧ i ≤ 6 ∧ iv = .int .i64 i ∧ Below w.heap.size w wq ∧ wq.heap[bt]? = some (.cells #[.string ⟨#[]⟩, .string ⟨#[97]⟩, .string ⟨#[49, 50, 51, 52, 53, 54, 55, 56, 57, 48, 49, 50, 51, 52, 53, 54]⟩, .string ⟨#[49, 50, 51, 52, 53, 54, 55, 56, 57, 48, 49, 50, 51, 52, 53, 54, 55]⟩, .string ⟨#[10, 10]⟩, .string ⟨#[255, 128]⟩] 9 (0, 0))) (fun _ iv _ => 6 - (intOf iv).toNat)
          case atStart => exact ⟨0, rfl, by omega, rfl, BW0.out, HTB.out⟩
          case round =>
            obtain ⟨i, rfl, hi6, rfl, hbq, htq⟩ := hrel
            clear BW0 HTB
            have BW0 := Lib.hid hbq
            have HTB := Lib.hid htq
            clear hbq htq
            by_cases hi : i < 6
            · have hdi : decide ((i : Int) < 6) = true := decide_eq_true (by omega)
              obtain ⟨t, ht17, hct⟩ : ∃ t : ByteArray, t.size ≤ 17 ∧ wr.cell? ⟨bt, i, none⟩ = some (.string t) := by
                rcases (show i = 0 ∨ i = 1 ∨ i = 2 ∨ i = 3 ∨ i = 4 ∨ i = 5 by omega) with rfl | rfl | rfl | rfl | rfl | rfl
                · exact ⟨⟨#[]⟩, by decide, block_cell HTB.out _⟩
                · exact ⟨⟨#[97]⟩, by decide, block_cell HTB.out _⟩
                · exact ⟨⟨#[49, 50, 51, 52, 53, 54, 55, 56, 57, 48, 49, 50, 51, 52, 53, 54]⟩, by decide, block_cell HTB.out _⟩
                · exact ⟨⟨#[49, 50, 51, 52, 53, 54, 55, 56, 57, 48, 49, 50, 51, 52, 53, 54, 55]⟩, by decide, block_cell HTB.out _⟩
                · exact ⟨⟨#[10, 10]⟩, by decide, block_cell HTB.out _⟩
                · exact ⟨⟨#[255, 128]⟩, by decide, block_cell HTB.out _⟩
              have hbtz := block_lt HTB.out
              have hcat : ¬ 9223372036854775807 < 1 + t.size := by omega
              have hs0 : (⟨#[0]⟩ ++ t : ByteArray).size ≤ 4294967296 := by rw [ByteArray.size_append]; show 1 + t.size ≤ _; omega
              have HS0 := Lib.hid hs0
              clear hs0
              go_wp2_with fail
              refine wp_region_specs (by kernel_rfl) (by decide) (by kernel_rfl) ?_
              simp only [fill, Act.put, List.setIfInBounds_toArray, List.set_cons_zero, List.set_cons_succ, Nat.zero_add, Nat.reduceAdd]
              apply OpsOK.eq
              · intro vs u hb hd
                clear hd
                go_wp2_with fail
                exact ⟨rfl, _, rfl, Below.refl _ _, rfl⟩
              apply OpsOK.eq
              · intro vs u hb hd
                clear hd
                go_wp2_with fail
                exact ⟨rfl, _, rfl, Below.refl _ _, rfl⟩
              apply OpsOK.eq
              · intro vs u hb hd
                simp [Region.binds] at hd
                obtain ⟨e0, e1⟩ := hd
                simp only [e0, e1]
                go_wp2_with fail
                exact ⟨rfl, _, rfl, Below.refl _ _, rfl⟩
              apply OpsOK.eq
              · intro vs u hb hd
                simp [Region.binds] at hd
                have e2 := hd
                clear hd
                simp only [e2]
                have p0 := (hb.cell (p := ⟨bt, i, none⟩) hbtz).trans hct
                go_wp2_with fail
                exact ⟨rfl, _, rfl, Below.refl _ _, rfl⟩
              apply OpsOK.eq
              · intro vs u hb hd
                simp [Region.binds] at hd
                have e3 := hd
                clear hd
                simp only [e3]
                go_wp2_with fail
                have CD := makes_5 t 0 [] none 0 0 u (IsKs.none _ _) (by decide); refine Calls.mono CD ?_; clear CD; rintro e w' ⟨rfl, hbel⟩; go_wp2_with fail; exact ⟨rfl, _, rfl, hbel, rfl⟩
              apply OpsOK.eq
              · intro vs u hb hd
                simp [Region.binds] at hd
                have e4 := hd
                clear hd
                simp only [e4]
                go_wp2_with fail
                exact ⟨rfl, _, rfl, Below.refl _ _, rfl⟩
              apply OpsOK.eq
              · intro vs u hb hd
                simp [Region.binds] at hd
                obtain ⟨e5, e4⟩ := hd
                simp only [e5, e4]
                go_wp2_with fail
                exact ⟨rfl, _, rfl, Below.refl _ _, rfl⟩
              apply OpsOK.eq
              · intro vs u hb hd
                simp [Region.binds] at hd
                have e6 := hd
                clear hd
                simp only [e6]
                go_wp2_with fail
                exact ⟨rfl, _, rfl, Below.refl _ _, rfl⟩
              apply OpsOK.eq
              · intro vs u hb hd
                simp [Region.binds] at hd
                have e6 := hd
                clear hd
                simp only [e6]
                go_wp2_with fail
                exact ⟨rfl, _, rfl, Below.refl _ _, rfl⟩
              apply OpsOK.eq
              · intro vs u hb hd
                simp [Region.binds] at hd
                obtain ⟨e7, e8, e6⟩ := hd
                simp only [e7, e8, e6]
                go_wp2_with fail
                exact ⟨rfl, _, rfl, Below.refl _ _, rfl⟩
              apply OpsOK.eq
              · intro vs u hb hd
                simp [Region.binds] at hd
                obtain ⟨e9, e6⟩ := hd
                simp only [e9, e6]
                have p0 := (hb.cell (p := ⟨bt, i, none⟩) hbtz).trans hct
                go_wp2_with fail
                exact ⟨rfl, _, rfl, Below.refl _ _, rfl⟩
              apply OpsOK.eq
              · intro vs u hb hd
                simp [Region.binds] at hd
                obtain ⟨e10, e6⟩ := hd
                simp only [e10, e6]
                go_wp2_with fail
                exact ⟨rfl, _, rfl, Below.refl _ _, rfl⟩
              apply OpsOK.eq
              · intro vs u hb hd
                simp [Region.binds] at hd
                obtain ⟨e11, e6⟩ := hd
                simp only [e11, e6]
                go_wp2_with fail
                have CD := matches_5 ⟨0, t, []⟩ 0 none 0 0 u (IsKs.none _ _) (by decide) (by decide) (by decide); refine Calls.mono CD ?_; clear CD; rintro e w' ⟨rfl, hbel⟩; go_wp2_with fail; exact ⟨rfl, _, rfl, hbel, rfl⟩
              apply OpsOK.eq
              · intro vs u hb hd
                simp [Region.binds] at hd
                obtain ⟨e12, e6⟩ := hd
                simp only [e12, e6]
                go_wp2_with fail
                exact ⟨rfl, _, rfl, Below.refl _ _, rfl⟩
              apply OpsOK.eq
              · intro vs u hb hd
                simp [Region.binds] at hd
                obtain ⟨e6, e13⟩ := hd
                simp only [e6, e13]
                go_wp2_with fail
                exact ⟨rfl, _, rfl, Below.refl _ _, rfl⟩
              apply OpsOK.eq
              · intro vs u hb hd
                simp [Region.binds] at hd
                obtain ⟨e14, e12⟩ := hd
                simp only [e14, e12]
                go_wp2_with fail
                exact ⟨rfl, _, rfl, Below.refl _ _, rfl⟩
              apply OpsOK.eq
              · intro vs u hb hd
                simp [Region.binds] at hd
                have e15 := hd
                clear hd
                simp only [e15]
                go_wp2_with fail
                exact ⟨rfl, _, rfl, Below.refl _ _, rfl⟩
              apply OpsOK.eq
              · intro vs u hb hd
                simp [Region.binds] at hd
                have e15 := hd
                clear hd
                simp only [e15]
                go_wp2_with fail
                exact ⟨rfl, _, rfl, Below.refl _ _, rfl⟩
              apply OpsOK.eq
              · intro vs u hb hd
                simp [Region.binds] at hd
                obtain ⟨e16, e17, e15⟩ := hd
                simp only [e16, e17, e15]
                go_wp2_with fail
                exact ⟨rfl, _, rfl, Below.refl _ _, rfl⟩
              apply OpsOK.eq
              · intro vs u hb hd
                simp [Region.binds] at hd
                obtain ⟨e18, e15⟩ := hd
                simp only [e18, e15]
                have p0 := (hb.cell (p := ⟨bt, i, none⟩) hbtz).trans hct
                go_wp2_with fail
                exact ⟨rfl, _, rfl, Below.refl _ _, rfl⟩
              refine OpsOK.step (IntsOf [8, 8]) (Stab_ints _) ?_ ?_
              · intro vs u hb hd
                simp [Region.binds] at hd
                have e15 := hd
                clear hd
                simp only [e15]
                go_wp2_with fail
                exact ⟨rfl, _, rfl, (Below.refl _ _).alloc (Nat.le_refl _) _, _, rfl, isIs_new u [8, 8] _ _ rfl⟩
              refine OpsOK.step (AggOf 1 ⟨#[]⟩ (ofK [8, 8])) (Stab_agg _ _ _) ?_ ?_
              · intro vs u hb hd
                simp [Region.binds] at hd
                obtain ⟨⟨b20, e20, hI⟩, e15⟩ := hd
                simp only [e20, e15]
                go_wp2_with fail
                have CD := of_some 1 [8, 8] b20 0 2 2 u rfl (by decide) hI; refine Calls.mono CD ?_; clear CD; rintro e w' ⟨v, rfl, ⟨s, rfl, hs⟩, hbel⟩; obtain ⟨a, c, rfl, hk, _⟩ := hs.ks; have CL : (ofK [8, 8]).length = 2 := ofK_len _; simp only [CL] at hk ⊢; clear CL; have HK := Lib.hid hk; clear hk hs; go_wp2_with fail; exact ⟨rfl, _, rfl, hbel, a, c, rfl, HK.out⟩
              refine OpsOK.step (SlOf (ofK [8, 8])) (Stab_slo _) ?_ ?_
              · intro vs u hb hd
                simp [Region.binds] at hd
                obtain ⟨⟨a21, c21, e21, hk21⟩, e15⟩ := hd
                simp only [e21, e15]
                have hfl := run_field_kids 1 ⟨#[]⟩ a21 2 c21
                go_wp2_with fail
                exact ⟨rfl, _, rfl, Below.refl _ _, _, _, rfl, hk21⟩
              refine OpsOK.step (AggOf 0 t (ofK [8, 8])) (Stab_agg _ _ _) ?_ ?_
              · intro vs u hb hd
                simp [Region.binds] at hd
                obtain ⟨e19, ⟨a22, c22, e22, hk22⟩, e15⟩ := hd
                simp only [e19, e22, e15]
                go_wp2_with fail
                exact ⟨rfl, _, rfl, Below.refl _ _, _, _, rfl, hk22⟩
              apply OpsOK.eq
              · intro vs u hb hd
                simp [Region.binds] at hd
                obtain ⟨⟨a23, c23, e23, hk23⟩, ⟨a21, c21, e21, hk21⟩, e15⟩ := hd
                simp only [e23, e21, e15]
                go_wp2_with fail
                have CD := matches_5 ⟨0, t, ofK [8, 8]⟩ 0 a23 2 c23 u hk23 (by decide) (by decide) (by decide); refine Calls.mono CD ?_; clear CD; rintro e w' ⟨rfl, hbel⟩; go_wp2_with fail; exact ⟨rfl, _, rfl, hbel, rfl⟩
              apply OpsOK.eq
              · intro vs u hb hd
                simp [Region.binds] at hd
                obtain ⟨e24, e15⟩ := hd
                simp only [e24, e15]
                go_wp2_with fail
                exact ⟨rfl, _, rfl, Below.refl _ _, rfl⟩
              apply OpsOK.eq
              · intro vs u hb hd
                simp [Region.binds] at hd
                obtain ⟨e15, e25⟩ := hd
                simp only [e15, e25]
                go_wp2_with fail
                exact ⟨rfl, _, rfl, Below.refl _ _, rfl⟩
              apply OpsOK.eq
              · intro vs u hb hd
                simp [Region.binds] at hd
                obtain ⟨e26, e24⟩ := hd
                simp only [e26, e24]
                go_wp2_with fail
                exact ⟨rfl, _, rfl, Below.refl _ _, rfl⟩
              apply OpsOK.eq
              · intro vs u hb hd
                simp [Region.binds] at hd
                have e27 := hd
                clear hd
                simp only [e27]
                go_wp2_with fail
                exact ⟨rfl, _, rfl, Below.refl _ _, rfl⟩
              apply OpsOK.eq
              · intro vs u hb hd
                simp [Region.binds] at hd
                have e27 := hd
                clear hd
                simp only [e27]
                go_wp2_with fail
                exact ⟨rfl, _, rfl, Below.refl _ _, rfl⟩
              apply OpsOK.eq
              · intro vs u hb hd
                simp [Region.binds] at hd
                obtain ⟨e28, e29, e27⟩ := hd
                simp only [e28, e29, e27]
                go_wp2_with fail
                exact ⟨rfl, _, rfl, Below.refl _ _, rfl⟩
              apply OpsOK.eq
              · intro vs u hb hd
                simp [Region.binds] at hd
                obtain ⟨e30, e27⟩ := hd
                simp only [e30, e27]
                have p0 := (hb.cell (p := ⟨bt, i, none⟩) hbtz).trans hct
                go_wp2_with fail
                exact ⟨rfl, _, rfl, Below.refl _ _, rfl⟩
              apply OpsOK.eq
              · intro vs u hb hd
                simp [Region.binds] at hd
                obtain ⟨e31, e27⟩ := hd
                simp only [e31, e27]
                go_wp2_with fail
                exact ⟨rfl, _, rfl, Below.refl _ _, rfl⟩
              apply OpsOK.eq
              · intro vs u hb hd
                simp [Region.binds] at hd
                obtain ⟨e32, e27⟩ := hd
                simp only [e32, e27]
                go_wp2_with fail
                have CD := walk_decodes (⟨#[0]⟩ ++ t) u HS0.out; refine Calls.mono CD ?_; clear CD; rintro e w' ⟨rfl, hbel⟩; go_wp2_with fail; exact ⟨rfl, _, rfl, hbel, rfl⟩
              apply OpsOK.eq
              · intro vs u hb hd
                simp [Region.binds] at hd
                obtain ⟨e33, e27⟩ := hd
                simp only [e33, e27]
                go_wp2_with fail
                exact ⟨rfl, _, rfl, Below.refl _ _, rfl⟩
              apply OpsOK.eq
              · intro vs u hb hd
                simp [Region.binds] at hd
                obtain ⟨e27, e34⟩ := hd
                simp only [e27, e34]
                go_wp2_with fail
                exact ⟨rfl, _, rfl, Below.refl _ _, rfl⟩
              apply OpsOK.eq
              · intro vs u hb hd
                simp [Region.binds] at hd
                obtain ⟨e35, e33⟩ := hd
                simp only [e35, e33]
                go_wp2_with fail
                exact ⟨rfl, _, rfl, Below.refl _ _, rfl⟩
              apply OpsOK.eq
              · intro vs u hb hd
                simp [Region.binds] at hd
                have e36 := hd
                clear hd
                simp only [e36]
                go_wp2_with fail
                exact ⟨rfl, _, rfl, Below.refl _ _, rfl⟩
              apply OpsOK.eq
              · intro vs u hb hd
                simp [Region.binds] at hd
                have e36 := hd
                clear hd
                simp only [e36]
                go_wp2_with fail
                exact ⟨rfl, _, rfl, Below.refl _ _, rfl⟩
              apply OpsOK.eq
              · intro vs u hb hd
                simp [Region.binds] at hd
                obtain ⟨e37, e38, e36⟩ := hd
                simp only [e37, e38, e36]
                go_wp2_with fail
                exact ⟨rfl, _, rfl, Below.refl _ _, rfl⟩
              apply OpsOK.eq
              · intro vs u hb hd
                simp [Region.binds] at hd
                obtain ⟨e39, e36⟩ := hd
                simp only [e39, e36]
                have p0 := (hb.cell (p := ⟨bt, i, none⟩) hbtz).trans hct
                go_wp2_with fail
                exact ⟨rfl, _, rfl, Below.refl _ _, rfl⟩
              apply OpsOK.eq
              · intro vs u hb hd
                simp [Region.binds] at hd
                obtain ⟨e40, e36⟩ := hd
                simp only [e40, e36]
                go_wp2_with fail
                have CD := walk_decodes t u (by omega); refine Calls.mono CD ?_; clear CD; rintro e w' ⟨rfl, hbel⟩; go_wp2_with fail; exact ⟨rfl, _, rfl, hbel, rfl⟩
              apply OpsOK.eq
              · intro vs u hb hd
                simp [Region.binds] at hd
                obtain ⟨e41, e36⟩ := hd
                simp only [e41, e36]
                go_wp2_with fail
                exact ⟨rfl, _, rfl, Below.refl _ _, rfl⟩
              apply OpsOK.eq
              · intro vs u hb hd
                simp [Region.binds] at hd
                obtain ⟨e36, e42⟩ := hd
                simp only [e36, e42]
                go_wp2_with fail
                exact ⟨rfl, _, rfl, Below.refl _ _, rfl⟩
              refine OpsOK.done ?_
              intro vs35 u35 hbu hS
              have h43 := hS 43 (by decide)
              simp at h43
              simp only [h43]
              clear h43
              clear hS
              replace BW0 := Lib.hid (below_step BW0.out hbu)
              replace HTB := Lib.hid (block_below hbu HTB.out (block_lt HTB.out))
              clear hbu hct hbtz
              go_wp2_with fail
              go_roundw
              case rel => exact ⟨i + 1, rfl, by omega, by go_num, BW0.out, HTB.out⟩
              case measure => simp [intOf]; omega
            · skip
              go_wp2_with fail
              have CD := awake_any wr
              refine Calls.mono CD ?_; clear CD; rintro e w6 ⟨rfl, hb⟩
              have HB6 := Lib.hid (below_step BW0.out hb)
              clear hb
              go_wp2_with fail
              go_ret
              exact ⟨rfl, HB6.out⟩
end Go.Proofs.Ytbodacjhhkjdfaa
