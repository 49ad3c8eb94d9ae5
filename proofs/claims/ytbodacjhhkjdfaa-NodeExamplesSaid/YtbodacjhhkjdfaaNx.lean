/- The contract of awake: the chapter's examples hold. -/
import Derived.Test.YtbodacjhhkjdfaaNw
namespace Go.Proofs.Ytbodacjhhkjdfaa
open Go.RowKit

theorem x3_at (w : World) : Calls Try.prog 57 #[] w fun e w' => ∃ b c, e = .returned (.agg #[.int .i64 1, .string ⟨#[]⟩, .slice (some ⟨b, 0, none⟩) 3 c]) ∧ IsKs w' (some ⟨b, 0, none⟩) 3 x3N.kids ∧ 3 ≤ c ∧ Below w.heap.size w w' := by
  refine (x3_any w).mono ?_
  rintro e w1 ⟨v, rfl, ⟨s, rfl, hs⟩, hb⟩
  obtain ⟨ao, cap, rfl, hk, _, hg⟩ := hs.ks
  obtain ⟨g, rfl, _⟩ := hg (by decide)
  obtain ⟨_, _, _, h⟩ := hs
  rcases h with ⟨e, _⟩ | ⟨g, cap', cur, e, _, _, hc, _⟩
  · cases e
  · injection e with e1 e2 e3
    subst e3
    exact ⟨_, _, rfl, hk, hc, hb⟩
theorem run_field_kids (h : Int) (t : ByteArray) (ao : Option Addr) (n c : Nat) (w : World) : (Instr.field 24 (.agg #[.int .i64 h, .string t, .slice ao n c]) 2).run Try.prog w = .ok (.slice ao n c) w := by kernel_rfl
theorem IsKs.none (w : World) (ao : Option Addr) : IsKs w ao 0 [] := ⟨rfl, by simp, fun h => absurd h (Nat.lt_irrefl _)⟩
theorem IsKs.take {w : World} {ao : Option Addr} {n : Nat} {l : List Kid} (h : IsKs w ao n l) (k : Nat) (hk : k ≤ n) : IsKs w ao k (l.take k) := by
  obtain ⟨h1, h2, h3⟩ := h
  refine ⟨by rw [List.length_take]; omega, fun x hx => h2 x (List.mem_of_mem_take hx), fun h => ?_⟩
  obtain ⟨b, off, e, h4⟩ := h3 (by omega)
  refine ⟨b, off, e, fun j hj => ?_⟩
  rw [List.length_take] at hj
  rw [List.getElem_take]
  exact h4 j (by omega)
def abT : ByteArray := ⟨#[97, 98]⟩
theorem fact_check : checkN x3N = 0 := by decide +kernel
theorem fact_meas : measN x3N = (27, 18, 3) := by decide +kernel
theorem fact_one : checkN ⟨1, ⟨#[]⟩, x3N.kids.take 1⟩ = 23 := by decide +kernel
theorem fact_none : checkN ⟨0, ⟨#[]⟩, []⟩ = 23 := by decide +kernel
theorem fact_child9 : chooseN pB x3N 9 = (1, 0, 0) := by decide +kernel
theorem fact_child27 : chooseN pB x3N 27 = (0, 0, 3) := by decide +kernel
theorem fact_rune8 : chooseN pR x3N 8 = (2, 0, 0) := by decide +kernel
theorem fact_line2 : lineN x3N 2 = (2, 1, 0) := by decide +kernel
theorem fact_line4 : lineN x3N 4 = (0, 0, 3) := by decide +kernel
theorem fact_ab : checkN ⟨0, ⟨#[97, 98]⟩, []⟩ = 0 := by decide +kernel
theorem fact_abres : resN ⟨0, ⟨#[97, 98]⟩, []⟩ = ⟨0, ⟨#[97, 98]⟩, []⟩ := if_pos fact_ab
theorem fact_abenc : encN ⟨0, ⟨#[97, 98]⟩, []⟩ = ⟨#[0, 97, 98]⟩ := by decide +kernel
theorem fact_abchild : chooseN pB ⟨0, ⟨#[97, 98]⟩, []⟩ 0 = (0, 0, 8) := by decide +kernel
theorem fact_x3enc : encN x3N = ⟨#[1, 0, 0, 0, 1, 0, 0, 0, 9, 0, 8, 0, 1, 0, 0, 0, 1, 0, 1, 0, 8, 0, 0, 0, 0, 0, 0, 0, 1, 0, 2, 0, 10, 0, 10, 0, 2]⟩ := by decide +kernel

section
variable (b c : Nat) (w : World) (hk : IsKs w (some ⟨b, 0, none⟩) 3 x3N.kids)
include hk
theorem aw_meas : Calls Try.prog 13 #[.agg #[.int .i64 1, .string ⟨#[]⟩, .slice (some ⟨b, 0, none⟩) 3 c]] w fun e w' => e = .returned (.tuple #[.agg #[.int .i64 27, .int .i64 18, .int .i64 3], .int .i64 0]) ∧ Below w.heap.size w w' := by
  have h := measure_any x3N _ 3 c w hk
  rw [fact_meas, fact_check] at h
  exact h
theorem aw_check : Calls Try.prog 15 #[.agg #[.int .i64 1, .string ⟨#[]⟩, .slice (some ⟨b, 0, none⟩) 3 c]] w fun e w' => e = .returned (.int .i64 0) ∧ Below w.heap.size w w' := by
  have h := check_any x3N _ 3 c w hk
  rw [fact_check] at h
  exact h
theorem aw_child9 : Calls Try.prog 17 #[.agg #[.int .i64 1, .string ⟨#[]⟩, .slice (some ⟨b, 0, none⟩) 3 c], .int .i64 9] w fun e w' => e = .returned (.tuple #[.int .i64 1, .int .i64 0, .int .i64 0]) ∧ Below w.heap.size w w' := by
  have h := child_any x3N 9 _ 3 c w hk (by decide)
  rw [fact_child9] at h
  exact h
theorem aw_child27 : Calls Try.prog 17 #[.agg #[.int .i64 1, .string ⟨#[]⟩, .slice (some ⟨b, 0, none⟩) 3 c], .int .i64 27] w fun e w' => e = .returned (.tuple #[.int .i64 0, .int .i64 0, .int .i64 3]) ∧ Below w.heap.size w w' := by
  have h := child_any x3N 27 _ 3 c w hk (by decide)
  rw [fact_child27] at h
  exact h
theorem aw_rune8 : Calls Try.prog 19 #[.agg #[.int .i64 1, .string ⟨#[]⟩, .slice (some ⟨b, 0, none⟩) 3 c], .int .i64 8] w fun e w' => e = .returned (.tuple #[.int .i64 2, .int .i64 0, .int .i64 0]) ∧ Below w.heap.size w w' := by
  have h := rune_any x3N 8 _ 3 c w hk (by decide)
  rw [fact_rune8] at h
  exact h
theorem aw_line2 : Calls Try.prog 21 #[.agg #[.int .i64 1, .string ⟨#[]⟩, .slice (some ⟨b, 0, none⟩) 3 c], .int .i64 2] w fun e w' => e = .returned (.tuple #[.int .i64 2, .int .i64 1, .int .i64 0]) ∧ Below w.heap.size w w' := by
  have h := line_any x3N 2 _ 3 c w hk (by decide) (by decide)
  rw [fact_line2] at h
  exact h
theorem aw_line4 : Calls Try.prog 21 #[.agg #[.int .i64 1, .string ⟨#[]⟩, .slice (some ⟨b, 0, none⟩) 3 c], .int .i64 4] w fun e w' => e = .returned (.tuple #[.int .i64 0, .int .i64 0, .int .i64 3]) ∧ Below w.heap.size w w' := by
  have h := line_any x3N 4 _ 3 c w hk (by decide) (by decide)
  rw [fact_line4] at h
  exact h
theorem aw_enc : Calls Try.prog 23 #[.agg #[.int .i64 1, .string ⟨#[]⟩, .slice (some ⟨b, 0, none⟩) 3 c]] w fun e w' => e = .returned (.tuple #[.string ⟨#[1, 0, 0, 0, 1, 0, 0, 0, 9, 0, 8, 0, 1, 0, 0, 0, 1, 0, 1, 0, 8, 0, 0, 0, 0, 0, 0, 0, 1, 0, 2, 0, 10, 0, 10, 0, 2]⟩, .int .i64 0]) ∧ Below w.heap.size w w' := by
  have h := encode_any x3N _ 3 c w hk
  rw [fact_x3enc, fact_check] at h
  exact h
theorem aw_one : Calls Try.prog 15 #[.agg #[.int .i64 1, .string ⟨#[]⟩, .slice (some ⟨b, 0, none⟩) 1 c]] w fun e w' => e = .returned (.int .i64 23) ∧ Below w.heap.size w w' := by
  have h := check_any ⟨1, ⟨#[]⟩, x3N.kids.take 1⟩ _ 1 c w (hk.take 1 (by decide))
  rw [fact_one] at h
  exact h
end
theorem aw_none (w : World) : Calls Try.prog 15 #[.agg #[.int .i64 0, .string ⟨#[]⟩, .slice none 0 0]] w fun e w' => e = .returned (.int .i64 23) ∧ Below w.heap.size w w' := by
  have h := check_any ⟨0, ⟨#[]⟩, []⟩ none 0 0 w (IsKs.none _ _)
  rw [fact_none] at h
  exact h
theorem aw_leaf (w : World) : Calls Try.prog 37 #[.string ⟨#[97, 98]⟩] w fun e w' => ∃ ao c, e = .returned (.tuple #[.agg #[.int .i64 0, .string ⟨#[97, 98]⟩, .slice ao 0 c], .int .i64 0]) ∧ Below w.heap.size w w' := by
  have h := leaf_any ⟨#[97, 98]⟩ w
  rw [fact_ab, fact_abres] at h
  refine h.mono ?_
  rintro e w1 ⟨v, rfl, ⟨s, rfl, hs⟩, hb⟩
  obtain ⟨ao, cap, rfl, _⟩ := hs.ks
  exact ⟨ao, cap, rfl, hb⟩
theorem aw_leafenc (ao : Option Addr) (c : Nat) (w : World) : Calls Try.prog 23 #[.agg #[.int .i64 0, .string ⟨#[97, 98]⟩, .slice ao 0 c]] w fun e w' => e = .returned (.tuple #[.string ⟨#[0, 97, 98]⟩, .int .i64 0]) ∧ Below w.heap.size w w' := by
  have h := encode_any ⟨0, ⟨#[97, 98]⟩, []⟩ ao 0 c w (IsKs.none _ _)
  rw [fact_ab, fact_abenc] at h
  exact h
theorem aw_leafchild (ao : Option Addr) (c : Nat) (w : World) : Calls Try.prog 17 #[.agg #[.int .i64 0, .string ⟨#[97, 98]⟩, .slice ao 0 c], .int .i64 0] w fun e w' => e = .returned (.tuple #[.int .i64 0, .int .i64 0, .int .i64 8]) ∧ Below w.heap.size w w' := by
  have h := child_any ⟨0, ⟨#[97, 98]⟩, []⟩ 0 ao 0 c w (IsKs.none _ _) (by decide)
  rw [fact_abchild] at h
  exact h
theorem aw_equal (ao ao' : Option Addr) (c c' : Nat) (w : World) : Calls Try.prog 30 #[.agg #[.int .i64 0, .string ⟨#[97, 98]⟩, .slice ao 0 c], .agg #[.int .i64 0, .string ⟨#[97, 98]⟩, .slice ao' 0 c']] w fun e w' => e = .returned (.bool true) ∧ Below w.heap.size w w' := by
  have h := equal_any ⟨0, ⟨#[97, 98]⟩, []⟩ ⟨0, ⟨#[97, 98]⟩, []⟩ ao ao' 0 0 c c' w (IsKs.none _ _) (IsKs.none _ _) (by decide)
  rwa [decide_eq_true rfl] at h
theorem aw_dec (w : World) : Calls Try.prog 27 #[.string ⟨#[0, 97, 98]⟩] w fun e w' => e = .returned (.tuple #[.agg #[.int .i64 0, .string ⟨#[97, 98]⟩, .slice none 0 0], .int .i64 0]) ∧ Below w.heap.size w w' :=
  decode_leaf ⟨#[0, 97, 98]⟩ w (by decide) 0 rfl rfl fact_ab
theorem aw_dec0 (w : World) : Calls Try.prog 27 #[.string ⟨#[0]⟩] w fun e w' => e = .returned (.tuple #[.agg #[.int .i64 0, .string ⟨#[]⟩, .slice none 0 0], .int .i64 4]) ∧ Below w.heap.size w w' :=
  decode_bad ⟨#[0]⟩ w (by decide) 0 rfl rfl (by rw [show (⟨#[0]⟩ : ByteArray).extract 1 (⟨#[0]⟩ : ByteArray).size = ⟨#[]⟩ from by decide +kernel, fact_none]; decide)

set_option maxRecDepth 100000 in
set_option maxHeartbeats 8000000 in
theorem awake_any (w : World) : Calls Try.prog 26 #[] w fun e w' => e = .returned (.bool true) ∧ Below w.heap.size w w' := by
  go_enter Try.func26, Try.ntmps26
  go_wp2_with fail
  refine (x3_at _).mono ?_; rintro e w1 ⟨b1, c1, rfl, hk, _, hb⟩
  have bw1 := hb
  have BW1 := Lib.hid bw1
  clear bw1
  clear hb
  have HK := Lib.hid hk
  clear hk
  go_wp2_with fail
  refine (aw_meas _ _ _ HK.out).mono ?_; rintro e w2 ⟨rfl, hb⟩
  have bw2 := below_step BW1.out hb
  have BW2 := Lib.hid bw2
  clear bw2
  clear hb
  clear HK
  go_wp2_with fail
  refine (x3_at _).mono ?_; rintro e w3 ⟨b3, c3, rfl, hk, hc, hb⟩
  have bw3 := below_step (BW2.out.alloc BW2.out.size _) hb
  have hm_w3 := block_below hb (block_new w2 (.cells #[.int .i64 27, .int .i64 18, .int .i64 3] 27)) (by simp)
  have BW3 := Lib.hid bw3
  have HM_W3 := Lib.hid hm_w3
  clear hm_w3 bw3
  clear hb
  have HK := Lib.hid hk
  clear hk hc
  go_wp2_with fail
  refine (aw_check _ _ _ HK.out).mono ?_; rintro e w4 ⟨rfl, hb⟩
  have bw4 := below_step BW3.out hb
  have hm_w4 := block_below hb HM_W3.out (block_lt HM_W3.out)
  have BW4 := Lib.hid bw4
  have HM_W4 := Lib.hid hm_w4
  clear hm_w4 bw4
  clear hb
  clear HK
  have kk := HM_W4.out
  (have q0 := block_cell kk 0; have q1 := block_cell kk 1; have q2 := block_cell kk 2; have f0 := block_free kk 0; have f1 := block_free kk 1; have f2 := block_free kk 2; have hz := block_lt kk; simp at q0 q1 q2)
  clear kk
  go_wp2_with fail
  refine (aw_none _).mono ?_; rintro e w5 ⟨rfl, hb⟩
  have bw5 := below_step BW4.out hb
  have hm_w5 := block_below hb HM_W4.out (block_lt HM_W4.out)
  have BW5 := Lib.hid bw5
  have HM_W5 := Lib.hid hm_w5
  clear hm_w5 bw5
  clear hb
  go_wp2_with fail
  refine (x3_at _).mono ?_; rintro e w6 ⟨b6, c6, rfl, hk, hc, hb⟩
  have bw6 := below_step BW5.out hb
  have hm_w6 := block_below hb HM_W5.out (block_lt HM_W5.out)
  have BW6 := Lib.hid bw6
  have HM_W6 := Lib.hid hm_w6
  clear hm_w6 bw6
  clear hb
  have HK := Lib.hid hk
  clear hk
  have hfl := run_field_kids 1 ⟨#[]⟩ (some ⟨b6, 0, none⟩) 3 c6
  go_wp2_with fail
  refine (aw_one _ _ _ HK.out).mono ?_; rintro e w7 ⟨rfl, hb⟩
  have bw7 := below_step BW6.out hb
  have hm_w7 := block_below hb HM_W6.out (block_lt HM_W6.out)
  have BW7 := Lib.hid bw7
  have HM_W7 := Lib.hid hm_w7
  clear hm_w7 bw7
  clear hb
  clear HK
  go_wp2_with fail
  refine (x3_at _).mono ?_; rintro e w8 ⟨b8, c8, rfl, hk, _, hb⟩
  have bw8 := below_step BW7.out hb
  have hm_w8 := block_below hb HM_W7.out (block_lt HM_W7.out)
  have BW8 := Lib.hid bw8
  have HM_W8 := Lib.hid hm_w8
  clear hm_w8 bw8
  clear hb
  have HK := Lib.hid hk
  clear hk
  go_wp2_with fail
  refine (aw_child9 _ _ _ HK.out).mono ?_; rintro e w9 ⟨rfl, hb⟩
  have bw9 := below_step BW8.out hb
  have hm_w9 := block_below hb HM_W8.out (block_lt HM_W8.out)
  have BW9 := Lib.hid bw9
  have HM_W9 := Lib.hid hm_w9
  clear hm_w9 bw9
  clear hb
  clear HK
  go_wp2_with fail
  refine (x3_at _).mono ?_; rintro e w10 ⟨b10, c10, rfl, hk, _, hb⟩
  have bw10 := below_step BW9.out hb
  have hm_w10 := block_below hb HM_W9.out (block_lt HM_W9.out)
  have BW10 := Lib.hid bw10
  have HM_W10 := Lib.hid hm_w10
  clear hm_w10 bw10
  clear hb
  have HK := Lib.hid hk
  clear hk
  go_wp2_with fail
  refine (aw_child27 _ _ _ HK.out).mono ?_; rintro e w11 ⟨rfl, hb⟩
  have bw11 := below_step BW10.out hb
  have hm_w11 := block_below hb HM_W10.out (block_lt HM_W10.out)
  have BW11 := Lib.hid bw11
  have HM_W11 := Lib.hid hm_w11
  clear hm_w11 bw11
  clear hb
  clear HK
  go_wp2_with fail
  refine (x3_at _).mono ?_; rintro e w12 ⟨b12, c12, rfl, hk, _, hb⟩
  have bw12 := below_step BW11.out hb
  have hm_w12 := block_below hb HM_W11.out (block_lt HM_W11.out)
  have BW12 := Lib.hid bw12
  have HM_W12 := Lib.hid hm_w12
  clear hm_w12 bw12
  clear hb
  have HK := Lib.hid hk
  clear hk
  go_wp2_with fail
  refine (aw_rune8 _ _ _ HK.out).mono ?_; rintro e w13 ⟨rfl, hb⟩
  have bw13 := below_step BW12.out hb
  have hm_w13 := block_below hb HM_W12.out (block_lt HM_W12.out)
  have BW13 := Lib.hid bw13
  have HM_W13 := Lib.hid hm_w13
  clear hm_w13 bw13
  clear hb
  clear HK
  go_wp2_with fail
  refine (x3_at _).mono ?_; rintro e w14 ⟨b14, c14, rfl, hk, _, hb⟩
  have bw14 := below_step BW13.out hb
  have hm_w14 := block_below hb HM_W13.out (block_lt HM_W13.out)
  have BW14 := Lib.hid bw14
  have HM_W14 := Lib.hid hm_w14
  clear hm_w14 bw14
  clear hb
  have HK := Lib.hid hk
  clear hk
  go_wp2_with fail
  refine (aw_line2 _ _ _ HK.out).mono ?_; rintro e w15 ⟨rfl, hb⟩
  have bw15 := below_step BW14.out hb
  have hm_w15 := block_below hb HM_W14.out (block_lt HM_W14.out)
  have BW15 := Lib.hid bw15
  have HM_W15 := Lib.hid hm_w15
  clear hm_w15 bw15
  clear hb
  clear HK
  go_wp2_with fail
  refine (x3_at _).mono ?_; rintro e w16 ⟨b16, c16, rfl, hk, _, hb⟩
  have bw16 := below_step BW15.out hb
  have hm_w16 := block_below hb HM_W15.out (block_lt HM_W15.out)
  have BW16 := Lib.hid bw16
  have HM_W16 := Lib.hid hm_w16
  clear hm_w16 bw16
  clear hb
  have HK := Lib.hid hk
  clear hk
  go_wp2_with fail
  refine (aw_line4 _ _ _ HK.out).mono ?_; rintro e w17 ⟨rfl, hb⟩
  have bw17 := below_step BW16.out hb
  have hm_w17 := block_below hb HM_W16.out (block_lt HM_W16.out)
  have BW17 := Lib.hid bw17
  have HM_W17 := Lib.hid hm_w17
  clear hm_w17 bw17
  clear hb
  clear HK
  go_wp2_with fail
  refine (is_yes _ _ _ _).mono ?_; rintro e w18 ⟨rfl, hb⟩
  have bw18 := below_step BW17.out hb
  have hm_w18 := block_below hb HM_W17.out (block_lt HM_W17.out)
  have BW18 := Lib.hid bw18
  have HM_W18 := Lib.hid hm_w18
  clear hm_w18 bw18
  clear hb
  go_wp2_with fail
  refine (is_yes _ _ _ _).mono ?_; rintro e w19 ⟨rfl, hb⟩
  have bw19 := below_step BW18.out hb
  have hm_w19 := block_below hb HM_W18.out (block_lt HM_W18.out)
  have BW19 := Lib.hid bw19
  have HM_W19 := Lib.hid hm_w19
  clear hm_w19 bw19
  clear hb
  go_wp2_with fail
  refine (is_yes _ _ _ _).mono ?_; rintro e w20 ⟨rfl, hb⟩
  have bw20 := below_step BW19.out hb
  have hm_w20 := block_below hb HM_W19.out (block_lt HM_W19.out)
  have BW20 := Lib.hid bw20
  have HM_W20 := Lib.hid hm_w20
  clear hm_w20 bw20
  clear hb
  go_wp2_with fail
  refine (is_yes _ _ _ _).mono ?_; rintro e w21 ⟨rfl, hb⟩
  have bw21 := below_step BW20.out hb
  have hm_w21 := block_below hb HM_W20.out (block_lt HM_W20.out)
  have BW21 := Lib.hid bw21
  have HM_W21 := Lib.hid hm_w21
  clear hm_w21 bw21
  clear hb
  go_wp2_with fail
  refine (is_yes _ _ _ _).mono ?_; rintro e w22 ⟨rfl, hb⟩
  have bw22 := below_step BW21.out hb
  have hm_w22 := block_below hb HM_W21.out (block_lt HM_W21.out)
  have BW22 := Lib.hid bw22
  have HM_W22 := Lib.hid hm_w22
  clear hm_w22 bw22
  clear hb
  go_wp2_with fail
  refine (aw_leaf _).mono ?_; rintro e w23 ⟨aol, cl, rfl, hb⟩
  have bw23 := below_step BW22.out hb
  have hm_w23 := block_below hb HM_W22.out (block_lt HM_W22.out)
  have BW23 := Lib.hid bw23
  have HM_W23 := Lib.hid hm_w23
  clear hm_w23 bw23
  clear hb
  go_wp2_with fail
  refine (aw_leafenc _ _ _).mono ?_; rintro e w24 ⟨rfl, hb⟩
  have bw24 := below_step (BW23.out.alloc BW23.out.size _) hb
  have hm_w24 := block_below hb (block_alloc HM_W23.out _) (block_lt (block_alloc HM_W23.out _))
  have hl_w24 := block_below hb (block_new w23 (.cells #[.int .i64 0, .string ⟨#[97, 98]⟩, .slice aol 0 cl] 24)) (by simp)
  have BW24 := Lib.hid bw24
  have HM_W24 := Lib.hid hm_w24
  have HL_W24 := Lib.hid hl_w24
  clear hl_w24 hm_w24 bw24
  clear hb
  go_wp2_with fail
  refine (aw_dec _).mono ?_; rintro e w25 ⟨rfl, hb⟩
  have bw25 := below_step BW24.out hb
  have hm_w25 := block_below hb HM_W24.out (block_lt HM_W24.out)
  have hl_w25 := block_below hb HL_W24.out (block_lt HL_W24.out)
  have BW25 := Lib.hid bw25
  have HM_W25 := Lib.hid hm_w25
  have HL_W25 := Lib.hid hl_w25
  clear hl_w25 hm_w25 bw25
  clear hb
  go_wp2_with fail
  refine (aw_dec0 _).mono ?_; rintro e w26 ⟨rfl, hb⟩
  have bw26 := below_step (BW25.out.alloc BW25.out.size _) hb
  have hm_w26 := block_below hb (block_alloc HM_W25.out _) (block_lt (block_alloc HM_W25.out _))
  have hl_w26 := block_below hb (block_alloc HL_W25.out _) (block_lt (block_alloc HL_W25.out _))
  have hu_w26 := block_below hb (block_new w25 (.cells #[.int .i64 0, .string ⟨#[97, 98]⟩, .slice none 0 0] 24)) (by simp)
  have BW26 := Lib.hid bw26
  have HM_W26 := Lib.hid hm_w26
  have HL_W26 := Lib.hid hl_w26
  have HU_W26 := Lib.hid hu_w26
  clear hu_w26 hl_w26 hm_w26 bw26
  clear hb
  go_wp2_with fail
  refine (x3_at _).mono ?_; rintro e w27 ⟨b27, c27, rfl, hk, _, hb⟩
  have bw27 := below_step (BW26.out.alloc BW26.out.size _) hb
  have hm_w27 := block_below hb (block_alloc HM_W26.out _) (block_lt (block_alloc HM_W26.out _))
  have hl_w27 := block_below hb (block_alloc HL_W26.out _) (block_lt (block_alloc HL_W26.out _))
  have hu_w27 := block_below hb (block_alloc HU_W26.out _) (block_lt (block_alloc HU_W26.out _))
  have hv_w27 := block_below hb (block_new w26 (.cells #[.int .i64 0, .string ⟨#[]⟩, .slice none 0 0] 24)) (by simp)
  have BW27 := Lib.hid bw27
  have HM_W27 := Lib.hid hm_w27
  have HL_W27 := Lib.hid hl_w27
  have HU_W27 := Lib.hid hu_w27
  have HV_W27 := Lib.hid hv_w27
  clear hv_w27 hu_w27 hl_w27 hm_w27 bw27
  clear hb
  have HK := Lib.hid hk
  clear hk
  go_wp2_with fail
  refine (aw_enc _ _ _ HK.out).mono ?_; rintro e w28 ⟨rfl, hb⟩
  have bw28 := below_step BW27.out hb
  have hm_w28 := block_below hb HM_W27.out (block_lt HM_W27.out)
  have hl_w28 := block_below hb HL_W27.out (block_lt HL_W27.out)
  have hu_w28 := block_below hb HU_W27.out (block_lt HU_W27.out)
  have hv_w28 := block_below hb HV_W27.out (block_lt HV_W27.out)
  have BW28 := Lib.hid bw28
  have HM_W28 := Lib.hid hm_w28
  have HL_W28 := Lib.hid hl_w28
  have HU_W28 := Lib.hid hu_w28
  have HV_W28 := Lib.hid hv_w28
  clear hv_w28 hu_w28 hl_w28 hm_w28 bw28
  clear hb
  clear HK
  have kk := HL_W28.out
  (have q0 := block_cell kk 0; have q1 := block_cell kk 1; have q2 := block_cell kk 2; have f0 := block_free kk 0; have f1 := block_free kk 1; have f2 := block_free kk 2; have hz := block_lt kk; simp at q0 q1 q2)
  clear kk
  go_wp2_with fail
  refine (aw_leafchild _ _ _).mono ?_; rintro e w29 ⟨rfl, hb⟩
  have bw29 := below_step BW28.out hb
  have hm_w29 := block_below hb HM_W28.out (block_lt HM_W28.out)
  have hl_w29 := block_below hb HL_W28.out (block_lt HL_W28.out)
  have hu_w29 := block_below hb HU_W28.out (block_lt HU_W28.out)
  have hv_w29 := block_below hb HV_W28.out (block_lt HV_W28.out)
  have BW29 := Lib.hid bw29
  have HM_W29 := Lib.hid hm_w29
  have HL_W29 := Lib.hid hl_w29
  have HU_W29 := Lib.hid hu_w29
  have HV_W29 := Lib.hid hv_w29
  clear hv_w29 hu_w29 hl_w29 hm_w29 bw29
  clear hb
  have kk := HL_W29.out
  (have q0 := block_cell kk 0; have q1 := block_cell kk 1; have q2 := block_cell kk 2; have f0 := block_free kk 0; have f1 := block_free kk 1; have f2 := block_free kk 2; have hz := block_lt kk; simp at q0 q1 q2)
  clear kk
  have kk := HU_W29.out
  (have q0 := block_cell kk 0; have q1 := block_cell kk 1; have q2 := block_cell kk 2; have f0 := block_free kk 0; have f1 := block_free kk 1; have f2 := block_free kk 2; have hz := block_lt kk; simp at q0 q1 q2)
  clear kk
  go_wp2_with fail
  refine (aw_equal _ _ _ _ _).mono ?_; rintro e w30 ⟨rfl, hb⟩
  have bw30 := below_step BW29.out hb
  have hm_w30 := block_below hb HM_W29.out (block_lt HM_W29.out)
  have hl_w30 := block_below hb HL_W29.out (block_lt HL_W29.out)
  have hu_w30 := block_below hb HU_W29.out (block_lt HU_W29.out)
  have hv_w30 := block_below hb HV_W29.out (block_lt HV_W29.out)
  have BW30 := Lib.hid bw30
  have HM_W30 := Lib.hid hm_w30
  have HL_W30 := Lib.hid hl_w30
  have HU_W30 := Lib.hid hu_w30
  have HV_W30 := Lib.hid hv_w30
  clear hv_w30 hu_w30 hl_w30 hm_w30 bw30
  clear hb
  go_wp2_with fail
  go_ret
  exact ⟨rfl, BW30.out⟩
end Go.Proofs.Ytbodacjhhkjdfaa
