/- The contracts of Child, Rune and Line, and of the reference's. -/
import Derived.Test.YtbodacjhhkjdfaaNj
namespace Go.Proofs.Ytbodacjhhkjdfaa
open Go.RowKit

theorem choose_err03 {p : Trip → Int} (hp : isPart p) {x : Nd} (n : Int) (h : (innerN x).2 = 0) :
    ((chooseN p x n).2.2 = 0 ∧ 0 ≤ (chooseN p x n).2.1 ∧ (chooseN p x n).2.1 ≤ n) ∨ chooseN p x n = (0, 0, 3) := by
  obtain ⟨hc, hh, e⟩ := innerN_ok h
  have ht := formed_tame (checkN_zero hc).1
  by_cases ho : n < 0 ∨ p (innerN x).1 ≤ n
  · exact .inr (chooseN_out hp h ho)
  · refine .inl ?_
    rw [chooseN_ok h, if_neg (by omega)]
    obtain ⟨k, hk, h1, h2⟩ := find_ex hp ht (n := n) (by omega) x.kids.length (Nat.le_refl _) (by rw [msTo_end, ← e]; omega)
    rw [find_at hp ht hk h1 h2]
    have := (part_le hp ht k (by omega)).1
    exact ⟨rfl, by simp only; omega, by simp only; omega⟩

theorem run_field_runes (a b c : Int) (w : World) : (Instr.field 27 (.agg #[.int .i64 a, .int .i64 b, .int .i64 c]) 1).run Try.prog w = .ok (.int .i64 b) w := by kernel_rfl
theorem run_field_lines (a b c : Int) (w : World) : (Instr.field 27 (.agg #[.int .i64 a, .int .i64 b, .int .i64 c]) 2).run Try.prog w = .ok (.int .i64 c) w := by kernel_rfl
theorem refSum_at (m' : Int) (x : Nd) (ao : Option Addr) (n c m : Nat) (w : World) (e : m' = (m : Int)) (hl : IsKs w ao n x.kids) (hm : m ≤ n) (hn : n ≤ 9223372036854775807) :
    Calls Try.prog 46 #[aggN x.h x.text ao n c, .int .i64 m'] w fun e w' => e = .returned (aggM (sumM (msTo x.kids m))) ∧ Below w.heap.size w w' := by
  rw [e]; exact refSum_any x.h x.text x.kids ao n c m w hl hm hn

set_option maxRecDepth 100000 in
set_option maxHeartbeats 2000000 in
theorem child_any (x : Nd) (n0 : Int) (ao : Option Addr) (n c : Nat) (w : World) (hk : IsKs w ao n x.kids) (hr : n0 ≤ 9223372036854775807) :
    Calls Try.prog 17 #[aggN x.h x.text ao n c, .int .i64 n0] w fun e w' => e = .returned (tup3 (chooseN pB x n0)) ∧ Below w.heap.size w w' := by
  have HK := Lib.hid hk
  clear hk
  unfold tup3 aggN
  go_enter Try.func17, Try.ntmps17
  go_wp2_with fail
  refine (choose_child x n0 ao n c _ (HK.out.box _) hr).mono ?_; rintro e w1 ⟨rfl, hb⟩
  have HB := Lib.hid (box_later hb).1
  clear hb
  unfold tup3
  go_wp2_with fail
  go_ret3
  exact ⟨rfl, HB.out⟩

set_option maxRecDepth 100000 in
set_option maxHeartbeats 2000000 in
theorem rune_any (x : Nd) (n0 : Int) (ao : Option Addr) (n c : Nat) (w : World) (hk : IsKs w ao n x.kids) (hr : n0 ≤ 9223372036854775807) :
    Calls Try.prog 19 #[aggN x.h x.text ao n c, .int .i64 n0] w fun e w' => e = .returned (tup3 (chooseN pR x n0)) ∧ Below w.heap.size w w' := by
  have HK := Lib.hid hk
  clear hk
  unfold tup3 aggN
  go_enter Try.func19, Try.ntmps19
  go_wp2_with fail
  refine (choose_rune x n0 ao n c _ (HK.out.box _) hr).mono ?_; rintro e w1 ⟨rfl, hb⟩
  have HB := Lib.hid (box_later hb).1
  clear hb
  unfold tup3
  go_wp2_with fail
  go_ret3
  exact ⟨rfl, HB.out⟩

set_option maxRecDepth 100000 in
set_option maxHeartbeats 2000000 in
theorem line_any (x : Nd) (n0 : Int) (ao : Option Addr) (n c : Nat) (w : World) (hk : IsKs w ao n x.kids) (hr0 : -9223372036854775808 ≤ n0) (hr : n0 ≤ 9223372036854775807) :
    Calls Try.prog 21 #[aggN x.h x.text ao n c, .int .i64 n0] w fun e w' => e = .returned (tup3 (lineN x n0)) ∧ Below w.heap.size w w' := by
  have HK := Lib.hid hk
  clear hk
  by_cases hi : (innerN x).2 = 0
  · by_cases h1 : n0 < 1
    · have e : lineN x n0 = (0, 0, 3) := by unfold lineN; rw [if_pos hi, if_pos h1]
      rw [e]
      clear e
      rcases choose_err03 (.inl rfl : isPart pB) (x := x) 0 hi with ⟨he, _⟩ | he
      · have HE := Lib.hid he
        clear he hi
        unfold tup3 aggN
        go_enter Try.func21, Try.ntmps21
        go_wp2_with fail
        refine (choose_line0 x 0 ao n c _ (HK.out.box _) (by omega)).mono ?_; rintro e w1 ⟨rfl, hb⟩
        have HB := Lib.hid (box_later hb).1
        clear hb
        unfold tup3
        rw [HE.out]
        go_wp2_with fail
        go_ret3
        exact ⟨rfl, HB.out⟩
      · have HE := Lib.hid he
        clear he hi
        unfold tup3 aggN
        go_enter Try.func21, Try.ntmps21
        go_wp2_with fail
        refine (choose_line0 x 0 ao n c _ (HK.out.box _) (by omega)).mono ?_; rintro e w1 ⟨rfl, hb⟩
        have HB := Lib.hid (box_later hb).1
        clear hb
        unfold tup3
        rw [HE.out]
        go_wp2_with fail
        go_ret3
        exact ⟨rfl, HB.out⟩
    · have hw : wrap64 (n0 - 1) = n0 - 1 := IntWalk.wrap64_in _ (by omega)
      rcases choose_err03 (.inr (.inr rfl) : isPart pL) (x := x) (n0 - 1) hi with ⟨he, he0, he1⟩ | he
      · have e : lineN x n0 = ((chooseN pL x (n0 - 1)).1, (chooseN pL x (n0 - 1)).2.1 + 1, 0) := by unfold lineN; rw [if_pos hi, if_neg h1, if_pos he]
        rw [e]
        have hw2 : wrap64 ((chooseN pL x (n0 - 1)).2.1 + 1) = (chooseN pL x (n0 - 1)).2.1 + 1 := IntWalk.wrap64_in _ (by omega)
        have HE := Lib.hid he
        have HW := Lib.hid hw2
        clear he hi e he0 he1 hw2
        unfold tup3 aggN
        go_enter Try.func21, Try.ntmps21
        go_wp2_with fail
        refine (choose_line x (n0 - 1) ao n c _ (HK.out.box _) (by omega)).mono ?_; rintro e w1 ⟨rfl, hb⟩
        have HB := Lib.hid (box_later hb).1
        clear hb
        unfold tup3
        rw [HE.out]
        go_wp2_with fail
        go_ret3
        exact ⟨congrArg (fun z => Ending.returned (.tuple #[.int .i64 (chooseN pL x (n0 - 1)).1, .int .i64 z, .int .i64 0])) HW.out, HB.out⟩
      · have e : lineN x n0 = (0, 0, 3) := by unfold lineN; rw [if_pos hi, if_neg h1, he]; rfl
        rw [e]
        have HE := Lib.hid he
        clear he hi e
        unfold tup3 aggN
        go_enter Try.func21, Try.ntmps21
        go_wp2_with fail
        refine (choose_line x (n0 - 1) ao n c _ (HK.out.box _) (by omega)).mono ?_; rintro e w1 ⟨rfl, hb⟩
        have HB := Lib.hid (box_later hb).1
        clear hb
        unfold tup3
        rw [HE.out]
        go_wp2_with fail
        go_ret3
        exact ⟨rfl, HB.out⟩
  · have e : lineN x n0 = (0, 0, (innerN x).2) := by unfold lineN; rw [if_neg hi]
    rw [e]
    have HE := Lib.hid (fun n => chooseN_err (p := pB) (n := n) hi)
    have HE2 := Lib.hid (fun n => chooseN_err (p := pL) (n := n) hi)
    have hi' : ((innerN x).2 == 0) = false := by simpa using hi
    clear e hi
    by_cases h1 : n0 < 1
    · skip
      unfold tup3 aggN
      go_enter Try.func21, Try.ntmps21
      go_wp2_with fail
      refine (choose_line0 x 0 ao n c _ (HK.out.box _) (by omega)).mono ?_; rintro e w1 ⟨rfl, hb⟩
      have HB := Lib.hid (box_later hb).1
      clear hb
      unfold tup3
      rw [HE.out]
      go_wp2_with fail
      go_ret3
      exact ⟨rfl, HB.out⟩
    · have hw : wrap64 (n0 - 1) = n0 - 1 := IntWalk.wrap64_in _ (by omega)
      unfold tup3 aggN
      go_enter Try.func21, Try.ntmps21
      go_wp2_with fail
      refine (choose_line x (n0 - 1) ao n c _ (HK.out.box _) (by omega)).mono ?_; rintro e w1 ⟨rfl, hb⟩
      have HB := Lib.hid (box_later hb).1
      clear hb
      unfold tup3
      rw [HE2.out]
      go_wp2_with fail
      go_ret3
      exact ⟨rfl, HB.out⟩
set_option maxRecDepth 100000 in
set_option maxHeartbeats 2000000 in
theorem refChild_any (x : Nd) (n0 : Int) (ao : Option Addr) (n c : Nat) (w : World) (hk : IsKs w ao n x.kids) (hr0 : -9223372036854775808 ≤ n0) (hr : n0 ≤ 9223372036854775807) :
    Calls Try.prog 18 #[aggN x.h x.text ao n c, .int .i64 n0] w fun e w' => e = .returned (tup3 (chooseN pB x n0)) ∧ Below w.heap.size w w' := by
  have HK := Lib.hid hk
  clear hk
  by_cases hi : (innerN x).2 = 0
  · obtain ⟨hc, hh, hin⟩ := innerN_ok hi
    have ht := formed_tame (checkN_zero hc).1
    have hlen := HK.out.1
    have HI := Lib.hid hi
    by_cases h1 : n0 < 0
    · have e : chooseN pB x n0 = (0, 0, 3) := chooseN_out (.inl rfl : isPart pB) hi (.inl h1)
      rw [e]
      clear e hi hc hh hin ht hlen
      unfold tup3 aggN
      go_enter Try.func18, Try.ntmps18
      go_wp2_with fail
      refine (inner_any x ao n c _ (HK.out.box _)).mono ?_; rintro e w1 ⟨rfl, hb⟩
      try rw [HI.out]
      obtain ⟨hbw, hb0⟩ := box_later hb
      unfold aggM
      (have q0 := block_cell hb0 0; have q1 := block_cell hb0 1; have q2 := block_cell hb0 2; have f0 := block_free hb0 0; have f1 := block_free hb0 1; have f2 := block_free hb0 2; have hz := block_lt hb0; simp at q0 q1 q2)
      have HB0 := Lib.hid hb0
      have HBW := Lib.hid hbw
      clear hb hb0 hbw
      go_wp2_with fail
      go_ret3
      exact ⟨rfl, HBW.out.alloc HBW.out.size _⟩
    · by_cases h2 : (innerN x).1.1 ≤ n0
      · have e : chooseN pB x n0 = (0, 0, 3) := chooseN_out (.inl rfl : isPart pB) hi (.inr h2)
        rw [e]
        clear e hi hc hh hin ht hlen
        unfold tup3 aggN
        go_enter Try.func18, Try.ntmps18
        go_wp2_with fail
        refine (inner_any x ao n c _ (HK.out.box _)).mono ?_; rintro e w1 ⟨rfl, hb⟩
        try rw [HI.out]
        obtain ⟨hbw, hb0⟩ := box_later hb
        unfold aggM
        (have q0 := block_cell hb0 0; have q1 := block_cell hb0 1; have q2 := block_cell hb0 2; have f0 := block_free hb0 0; have f1 := block_free hb0 1; have f2 := block_free hb0 2; have hz := block_lt hb0; simp at q0 q1 q2)
        have HB0 := Lib.hid hb0
        have HBW := Lib.hid hbw
        clear hb hb0 hbw
        go_wp2_with fail
        go_ret3
        exact ⟨rfl, HBW.out.alloc HBW.out.size _⟩
      · have hlast : ¬ (sumM (msTo x.kids x.kids.length)).1 ≤ n0 := by rw [msTo_end, ← hin]; exact h2
        have hpos : 0 < x.kids.length := by
          rcases Nat.eq_zero_or_pos x.kids.length with e | e
          · rw [e] at hlast
            exact absurd (show (sumM (msTo x.kids 0)).1 ≤ n0 by show (0 : Int) ≤ n0; omega) hlast
          · exact e
        have HLAST := Lib.hid hlast
        have HT := Lib.hid ht
        have HLEN := Lib.hid hlen
        have HFO := Lib.hid (checkN_zero hc).1
        clear hlast hi hc hh hin ht hlen
        unfold tup3 aggN
        go_enter Try.func18, Try.ntmps18
        go_wp2_with fail
        refine (inner_any x ao n c _ (HK.out.box _)).mono ?_; rintro e w1 ⟨rfl, hb⟩
        try rw [HI.out]
        obtain ⟨hbw, hb0⟩ := box_later hb
        unfold aggM
        (have q0 := block_cell hb0 0; have q1 := block_cell hb0 1; have q2 := block_cell hb0 2; have f0 := block_free hb0 0; have f1 := block_free hb0 1; have f2 := block_free hb0 2; have hz := block_lt hb0; simp at q0 q1 q2)
        have HB0 := Lib.hid hb0
        have HBW := Lib.hid hbw
        clear hb hb0 hbw
        go_wp2_with fail
        have hq := block_alloc HB0.out (.cells #[.int .i64 (innerN x).1.1, .int .i64 (innerN x).1.2.1, .int .i64 (innerN x).1.2.2] 27)
        have HQ := Lib.hid hq
        clear hq
        go_loopw [9] (fun i wr => ∃ k : Nat, k < x.kids.length ∧ i = .int .i64 k ∧ (sumM (msTo x.kids k)).1 ≤ n0 ∧ Below w.heap.size w wr ∧ wr.heap[w.heap.size]? = some (.cells #[.int .i64 x.h, .string x.text, .slice ao n c] 24 (0, 0))) (fun i _ => x.kids.length - (intOf i).toNat)
        case atStart => exact ⟨0, hpos, rfl, by show (0 : Int) ≤ n0; omega, HBW.out.alloc HBW.out.size _, HQ.out⟩
        case round =>
          obtain ⟨k, hk, rfl, hs, hbr, hb0⟩ := hrel
          (have q0 := block_cell hb0 0; have q1 := block_cell hb0 1; have q2 := block_cell hb0 2; have f0 := block_free hb0 0; have f1 := block_free hb0 1; have f2 := block_free hb0 2; have hz := block_lt hb0; simp at q0 q1 q2)
          have HBR := Lib.hid hbr
          have HB1 := Lib.hid hb0
          have hk4 : k < 4 := by have := HT.out.1; omega
          have hn4 : n ≤ 4 := by have := HT.out.1; have := HLEN.out; omega
          clear hbr hb0
          by_cases hgo : (sumM (msTo x.kids (k + 1))).1 ≤ n0
          · go_wp2_with fail
            refine (refSum_at _ x ao n c (k + 1) _ (by push_cast; rfl) (HK.out.later HBR.out) (by have := HLEN.out; omega) (by omega)).mono ?_; rintro e w2 ⟨rfl, hb⟩
            unfold aggM
            have hfl := run_field_bytes (sumM (msTo x.kids (k + 1))).1 (sumM (msTo x.kids (k + 1))).2.1 (sumM (msTo x.kids (k + 1))).2.2
            have HG := Lib.hid hgo
            have HB2 := Lib.hid hb
            clear hb
            go_wp2_with fail
            go_roundw
            case rel =>
              refine ⟨k + 1, ?_, by go_num, HG.out, below_step HBR.out HB2.out, block_below HB2.out HB1.out (block_lt HB1.out)⟩
              rcases Nat.lt_or_ge (k + 1) x.kids.length with h | h
              · exact h
              · obtain e : k + 1 = x.kids.length := by omega
                rw [← e] at HLAST
                have a := HG.out
                have b := HLAST.out
                omega
            case measure => simp [intOf]; omega
          · have hsl := part_le (p := pB) (.inl rfl : isPart pB) HT.out k (by omega)
            have hw : wrap64 (n0 - (sumM (msTo x.kids k)).1) = n0 - (sumM (msTo x.kids k)).1 := IntWalk.wrap64_in _ (by unfold pB at hsl; omega)
            have e : chooseN pB x n0 = ((k : Int), n0 - (sumM (msTo x.kids k)).1, 0) := by
              rw [chooseN_ok HI.out, if_neg (show ¬ n0 < 0 by omega)]
              exact find_at (.inl rfl : isPart pB) HT.out hk hs (show n0 < (sumM (msTo x.kids (k + 1))).1 by omega)
            have HE := Lib.hid e
            have HW := Lib.hid hw
            clear e hsl hw
            go_wp2_with fail
            refine (refSum_at _ x ao n c (k + 1) _ (by push_cast; rfl) (HK.out.later HBR.out) (by have := HLEN.out; omega) (by omega)).mono ?_; rintro e w2 ⟨rfl, hb⟩
            unfold aggM
            have hfl := run_field_bytes (sumM (msTo x.kids (k + 1))).1 (sumM (msTo x.kids (k + 1))).2.1 (sumM (msTo x.kids (k + 1))).2.2
            have HB2 := Lib.hid (below_step HBR.out hb)
            have hb0 := block_below hb HB1.out (block_lt HB1.out)
            (have q0 := block_cell hb0 0; have q1 := block_cell hb0 1; have q2 := block_cell hb0 2; have f0 := block_free hb0 0; have f1 := block_free hb0 1; have f2 := block_free hb0 2; have hz := block_lt hb0; simp at q0 q1 q2)
            clear hb hb0
            go_wp2_with fail
            refine (refSum_at _ x ao n c k _ rfl (HK.out.later HB2.out) (by have := HLEN.out; omega) (by omega)).mono ?_; rintro e w3 ⟨rfl, hb⟩
            unfold aggM
            have hfl := run_field_bytes (sumM (msTo x.kids k)).1 (sumM (msTo x.kids k)).2.1 (sumM (msTo x.kids k)).2.2
            have HB3 := Lib.hid (below_step HB2.out hb)
            clear hb
            go_wp2_with fail
            go_ret3
            exact ⟨by rw [HE.out]; exact congrArg (fun z => Ending.returned (.tuple #[.int .i64 (k : Int), .int .i64 z, .int .i64 0])) HW.out, HB3.out⟩
  · have e : chooseN pB x n0 = (0, 0, (innerN x).2) := chooseN_err hi
    rw [e]
    have hi' : ((innerN x).2 == 0) = false := by simpa using hi
    have HI := Lib.hid hi'
    clear e hi
    unfold tup3 aggN
    go_enter Try.func18, Try.ntmps18
    go_wp2_with fail
    refine (inner_any x ao n c _ (HK.out.box _)).mono ?_; rintro e w1 ⟨rfl, hb⟩
    try rw [HI.out]
    obtain ⟨hbw, hb0⟩ := box_later hb
    unfold aggM
    (have q0 := block_cell hb0 0; have q1 := block_cell hb0 1; have q2 := block_cell hb0 2; have f0 := block_free hb0 0; have f1 := block_free hb0 1; have f2 := block_free hb0 2; have hz := block_lt hb0; simp at q0 q1 q2)
    have HB0 := Lib.hid hb0
    have HBW := Lib.hid hbw
    clear hb hb0 hbw
    go_wp2_with fail
    go_ret3
    exact ⟨rfl, HBW.out.alloc HBW.out.size _⟩

set_option maxRecDepth 100000 in
set_option maxHeartbeats 2000000 in
theorem refRune_any (x : Nd) (n0 : Int) (ao : Option Addr) (n c : Nat) (w : World) (hk : IsKs w ao n x.kids) (hr0 : -9223372036854775808 ≤ n0) (hr : n0 ≤ 9223372036854775807) :
    Calls Try.prog 20 #[aggN x.h x.text ao n c, .int .i64 n0] w fun e w' => e = .returned (tup3 (chooseN pR x n0)) ∧ Below w.heap.size w w' := by
  have HK := Lib.hid hk
  clear hk
  by_cases hi : (innerN x).2 = 0
  · obtain ⟨hc, hh, hin⟩ := innerN_ok hi
    have ht := formed_tame (checkN_zero hc).1
    have hlen := HK.out.1
    have HI := Lib.hid hi
    by_cases h1 : n0 < 0
    · have e : chooseN pR x n0 = (0, 0, 3) := chooseN_out (.inr (.inl rfl) : isPart pR) hi (.inl h1)
      rw [e]
      clear e hi hc hh hin ht hlen
      unfold tup3 aggN
      go_enter Try.func20, Try.ntmps20
      go_wp2_with fail
      refine (inner_any x ao n c _ (HK.out.box _)).mono ?_; rintro e w1 ⟨rfl, hb⟩
      try rw [HI.out]
      obtain ⟨hbw, hb0⟩ := box_later hb
      unfold aggM
      (have q0 := block_cell hb0 0; have q1 := block_cell hb0 1; have q2 := block_cell hb0 2; have f0 := block_free hb0 0; have f1 := block_free hb0 1; have f2 := block_free hb0 2; have hz := block_lt hb0; simp at q0 q1 q2)
      have HB0 := Lib.hid hb0
      have HBW := Lib.hid hbw
      clear hb hb0 hbw
      go_wp2_with fail
      go_ret3
      exact ⟨rfl, HBW.out.alloc HBW.out.size _⟩
    · by_cases h2 : (innerN x).1.2.1 ≤ n0
      · have e : chooseN pR x n0 = (0, 0, 3) := chooseN_out (.inr (.inl rfl) : isPart pR) hi (.inr h2)
        rw [e]
        clear e hi hc hh hin ht hlen
        unfold tup3 aggN
        go_enter Try.func20, Try.ntmps20
        go_wp2_with fail
        refine (inner_any x ao n c _ (HK.out.box _)).mono ?_; rintro e w1 ⟨rfl, hb⟩
        try rw [HI.out]
        obtain ⟨hbw, hb0⟩ := box_later hb
        unfold aggM
        (have q0 := block_cell hb0 0; have q1 := block_cell hb0 1; have q2 := block_cell hb0 2; have f0 := block_free hb0 0; have f1 := block_free hb0 1; have f2 := block_free hb0 2; have hz := block_lt hb0; simp at q0 q1 q2)
        have HB0 := Lib.hid hb0
        have HBW := Lib.hid hbw
        clear hb hb0 hbw
        go_wp2_with fail
        go_ret3
        exact ⟨rfl, HBW.out.alloc HBW.out.size _⟩
      · have hlast : ¬ (sumM (msTo x.kids x.kids.length)).2.1 ≤ n0 := by rw [msTo_end, ← hin]; exact h2
        have hpos : 0 < x.kids.length := by
          rcases Nat.eq_zero_or_pos x.kids.length with e | e
          · rw [e] at hlast
            exact absurd (show (sumM (msTo x.kids 0)).2.1 ≤ n0 by show (0 : Int) ≤ n0; omega) hlast
          · exact e
        have HLAST := Lib.hid hlast
        have HT := Lib.hid ht
        have HLEN := Lib.hid hlen
        have HFO := Lib.hid (checkN_zero hc).1
        clear hlast hi hc hh hin ht hlen
        unfold tup3 aggN
        go_enter Try.func20, Try.ntmps20
        go_wp2_with fail
        refine (inner_any x ao n c _ (HK.out.box _)).mono ?_; rintro e w1 ⟨rfl, hb⟩
        try rw [HI.out]
        obtain ⟨hbw, hb0⟩ := box_later hb
        unfold aggM
        (have q0 := block_cell hb0 0; have q1 := block_cell hb0 1; have q2 := block_cell hb0 2; have f0 := block_free hb0 0; have f1 := block_free hb0 1; have f2 := block_free hb0 2; have hz := block_lt hb0; simp at q0 q1 q2)
        have HB0 := Lib.hid hb0
        have HBW := Lib.hid hbw
        clear hb hb0 hbw
        go_wp2_with fail
        have hq := block_alloc HB0.out (.cells #[.int .i64 (innerN x).1.1, .int .i64 (innerN x).1.2.1, .int .i64 (innerN x).1.2.2] 27)
        have HQ := Lib.hid hq
        clear hq
        go_loopw [9] (fun i wr => ∃ k : Nat, k < x.kids.length ∧ i = .int .i64 k ∧ (sumM (msTo x.kids k)).2.1 ≤ n0 ∧ Below w.heap.size w wr ∧ wr.heap[w.heap.size]? = some (.cells #[.int .i64 x.h, .string x.text, .slice ao n c] 24 (0, 0))) (fun i _ => x.kids.length - (intOf i).toNat)
        case atStart => exact ⟨0, hpos, rfl, by show (0 : Int) ≤ n0; omega, HBW.out.alloc HBW.out.size _, HQ.out⟩
        case round =>
          obtain ⟨k, hk, rfl, hs, hbr, hb0⟩ := hrel
          (have q0 := block_cell hb0 0; have q1 := block_cell hb0 1; have q2 := block_cell hb0 2; have f0 := block_free hb0 0; have f1 := block_free hb0 1; have f2 := block_free hb0 2; have hz := block_lt hb0; simp at q0 q1 q2)
          have HBR := Lib.hid hbr
          have HB1 := Lib.hid hb0
          have hk4 : k < 4 := by have := HT.out.1; omega
          have hn4 : n ≤ 4 := by have := HT.out.1; have := HLEN.out; omega
          clear hbr hb0
          by_cases hgo : (sumM (msTo x.kids (k + 1))).2.1 ≤ n0
          · go_wp2_with fail
            refine (refSum_at _ x ao n c (k + 1) _ (by push_cast; rfl) (HK.out.later HBR.out) (by have := HLEN.out; omega) (by omega)).mono ?_; rintro e w2 ⟨rfl, hb⟩
            unfold aggM
            have hfl := run_field_runes (sumM (msTo x.kids (k + 1))).1 (sumM (msTo x.kids (k + 1))).2.1 (sumM (msTo x.kids (k + 1))).2.2
            have HG := Lib.hid hgo
            have HB2 := Lib.hid hb
            clear hb
            go_wp2_with fail
            go_roundw
            case rel =>
              refine ⟨k + 1, ?_, by go_num, HG.out, below_step HBR.out HB2.out, block_below HB2.out HB1.out (block_lt HB1.out)⟩
              rcases Nat.lt_or_ge (k + 1) x.kids.length with h | h
              · exact h
              · obtain e : k + 1 = x.kids.length := by omega
                rw [← e] at HLAST
                have a := HG.out
                have b := HLAST.out
                omega
            case measure => simp [intOf]; omega
          · have hsl := part_le (p := pR) (.inr (.inl rfl) : isPart pR) HT.out k (by omega)
            have hw : wrap64 (n0 - (sumM (msTo x.kids k)).2.1) = n0 - (sumM (msTo x.kids k)).2.1 := IntWalk.wrap64_in _ (by unfold pR at hsl; omega)
            have e : chooseN pR x n0 = ((k : Int), n0 - (sumM (msTo x.kids k)).2.1, 0) := by
              rw [chooseN_ok HI.out, if_neg (show ¬ n0 < 0 by omega)]
              exact find_at (.inr (.inl rfl) : isPart pR) HT.out hk hs (show n0 < (sumM (msTo x.kids (k + 1))).2.1 by omega)
            have HE := Lib.hid e
            have HW := Lib.hid hw
            clear e hsl hw
            go_wp2_with fail
            refine (refSum_at _ x ao n c (k + 1) _ (by push_cast; rfl) (HK.out.later HBR.out) (by have := HLEN.out; omega) (by omega)).mono ?_; rintro e w2 ⟨rfl, hb⟩
            unfold aggM
            have hfl := run_field_runes (sumM (msTo x.kids (k + 1))).1 (sumM (msTo x.kids (k + 1))).2.1 (sumM (msTo x.kids (k + 1))).2.2
            have HB2 := Lib.hid (below_step HBR.out hb)
            have hb0 := block_below hb HB1.out (block_lt HB1.out)
            (have q0 := block_cell hb0 0; have q1 := block_cell hb0 1; have q2 := block_cell hb0 2; have f0 := block_free hb0 0; have f1 := block_free hb0 1; have f2 := block_free hb0 2; have hz := block_lt hb0; simp at q0 q1 q2)
            clear hb hb0
            go_wp2_with fail
            refine (refSum_at _ x ao n c k _ rfl (HK.out.later HB2.out) (by have := HLEN.out; omega) (by omega)).mono ?_; rintro e w3 ⟨rfl, hb⟩
            unfold aggM
            have hfl := run_field_runes (sumM (msTo x.kids k)).1 (sumM (msTo x.kids k)).2.1 (sumM (msTo x.kids k)).2.2
            have HB3 := Lib.hid (below_step HB2.out hb)
            clear hb
            go_wp2_with fail
            go_ret3
            exact ⟨by rw [HE.out]; exact congrArg (fun z => Ending.returned (.tuple #[.int .i64 (k : Int), .int .i64 z, .int .i64 0])) HW.out, HB3.out⟩
  · have e : chooseN pR x n0 = (0, 0, (innerN x).2) := chooseN_err hi
    rw [e]
    have hi' : ((innerN x).2 == 0) = false := by simpa using hi
    have HI := Lib.hid hi'
    clear e hi
    unfold tup3 aggN
    go_enter Try.func20, Try.ntmps20
    go_wp2_with fail
    refine (inner_any x ao n c _ (HK.out.box _)).mono ?_; rintro e w1 ⟨rfl, hb⟩
    try rw [HI.out]
    obtain ⟨hbw, hb0⟩ := box_later hb
    unfold aggM
    (have q0 := block_cell hb0 0; have q1 := block_cell hb0 1; have q2 := block_cell hb0 2; have f0 := block_free hb0 0; have f1 := block_free hb0 1; have f2 := block_free hb0 2; have hz := block_lt hb0; simp at q0 q1 q2)
    have HB0 := Lib.hid hb0
    have HBW := Lib.hid hbw
    clear hb hb0 hbw
    go_wp2_with fail
    go_ret3
    exact ⟨rfl, HBW.out.alloc HBW.out.size _⟩

set_option maxRecDepth 100000 in
set_option maxHeartbeats 2000000 in
theorem refLine_any (x : Nd) (n0 : Int) (ao : Option Addr) (n c : Nat) (w : World) (hk : IsKs w ao n x.kids) (hr0 : -9223372036854775808 ≤ n0) (hr : n0 ≤ 9223372036854775807) :
    Calls Try.prog 22 #[aggN x.h x.text ao n c, .int .i64 n0] w fun e w' => e = .returned (tup3 (lineN x n0)) ∧ Below w.heap.size w w' := by
  have HK := Lib.hid hk
  clear hk
  by_cases hi : (innerN x).2 = 0
  · obtain ⟨hc, hh, hin⟩ := innerN_ok hi
    have ht := formed_tame (checkN_zero hc).1
    have hlen := HK.out.1
    have HI := Lib.hid hi
    by_cases h1 : n0 < 1
    · have e : lineN x n0 = (0, 0, 3) := by unfold lineN; rw [if_pos hi, if_pos h1]
      rw [e]
      clear e hi hc hh hin ht hlen
      unfold tup3 aggN
      go_enter Try.func22, Try.ntmps22
      go_wp2_with fail
      refine (inner_any x ao n c _ (HK.out.box _)).mono ?_; rintro e w1 ⟨rfl, hb⟩
      try rw [HI.out]
      obtain ⟨hbw, hb0⟩ := box_later hb
      unfold aggM
      (have q0 := block_cell hb0 0; have q1 := block_cell hb0 1; have q2 := block_cell hb0 2; have f0 := block_free hb0 0; have f1 := block_free hb0 1; have f2 := block_free hb0 2; have hz := block_lt hb0; simp at q0 q1 q2)
      have HB0 := Lib.hid hb0
      have HBW := Lib.hid hbw
      clear hb hb0 hbw
      go_wp2_with fail
      go_ret3
      exact ⟨rfl, HBW.out.alloc HBW.out.size _⟩
    · by_cases h2 : (innerN x).1.2.2 < n0
      · have e : lineN x n0 = (0, 0, 3) := by unfold lineN; rw [if_pos hi, if_neg h1, chooseN_out (.inr (.inr rfl) : isPart pL) hi (.inr (show (innerN x).1.2.2 ≤ n0 - 1 by omega))]; rfl
        rw [e]
        clear e hi hc hh hin ht hlen
        unfold tup3 aggN
        go_enter Try.func22, Try.ntmps22
        go_wp2_with fail
        refine (inner_any x ao n c _ (HK.out.box _)).mono ?_; rintro e w1 ⟨rfl, hb⟩
        try rw [HI.out]
        obtain ⟨hbw, hb0⟩ := box_later hb
        unfold aggM
        (have q0 := block_cell hb0 0; have q1 := block_cell hb0 1; have q2 := block_cell hb0 2; have f0 := block_free hb0 0; have f1 := block_free hb0 1; have f2 := block_free hb0 2; have hz := block_lt hb0; simp at q0 q1 q2)
        have HB0 := Lib.hid hb0
        have HBW := Lib.hid hbw
        clear hb hb0 hbw
        go_wp2_with fail
        go_ret3
        exact ⟨rfl, HBW.out.alloc HBW.out.size _⟩
      · have hlast : ¬ (sumM (msTo x.kids x.kids.length)).2.2 < n0 := by rw [msTo_end, ← hin]; exact h2
        have hpos : 0 < x.kids.length := by
          rcases Nat.eq_zero_or_pos x.kids.length with e | e
          · rw [e] at hlast
            exact absurd (show (sumM (msTo x.kids 0)).2.2 < n0 by show (0 : Int) < n0; omega) hlast
          · exact e
        have HLAST := Lib.hid hlast
        have HT := Lib.hid ht
        have HLEN := Lib.hid hlen
        have HFO := Lib.hid (checkN_zero hc).1
        clear hlast hi hc hh hin ht hlen
        unfold tup3 aggN
        go_enter Try.func22, Try.ntmps22
        go_wp2_with fail
        refine (inner_any x ao n c _ (HK.out.box _)).mono ?_; rintro e w1 ⟨rfl, hb⟩
        try rw [HI.out]
        obtain ⟨hbw, hb0⟩ := box_later hb
        unfold aggM
        (have q0 := block_cell hb0 0; have q1 := block_cell hb0 1; have q2 := block_cell hb0 2; have f0 := block_free hb0 0; have f1 := block_free hb0 1; have f2 := block_free hb0 2; have hz := block_lt hb0; simp at q0 q1 q2)
        have HB0 := Lib.hid hb0
        have HBW := Lib.hid hbw
        clear hb hb0 hbw
        go_wp2_with fail
        have hq := block_alloc HB0.out (.cells #[.int .i64 (innerN x).1.1, .int .i64 (innerN x).1.2.1, .int .i64 (innerN x).1.2.2] 27)
        have HQ := Lib.hid hq
        clear hq
        go_loopw [9] (fun i wr => ∃ k : Nat, k < x.kids.length ∧ i = .int .i64 k ∧ (sumM (msTo x.kids k)).2.2 < n0 ∧ Below w.heap.size w wr ∧ wr.heap[w.heap.size]? = some (.cells #[.int .i64 x.h, .string x.text, .slice ao n c] 24 (0, 0))) (fun i _ => x.kids.length - (intOf i).toNat)
        case atStart => exact ⟨0, hpos, rfl, by show (0 : Int) < n0; omega, HBW.out.alloc HBW.out.size _, HQ.out⟩
        case round =>
          obtain ⟨k, hk, rfl, hs, hbr, hb0⟩ := hrel
          (have q0 := block_cell hb0 0; have q1 := block_cell hb0 1; have q2 := block_cell hb0 2; have f0 := block_free hb0 0; have f1 := block_free hb0 1; have f2 := block_free hb0 2; have hz := block_lt hb0; simp at q0 q1 q2)
          have HBR := Lib.hid hbr
          have HB1 := Lib.hid hb0
          have hk4 : k < 4 := by have := HT.out.1; omega
          have hn4 : n ≤ 4 := by have := HT.out.1; have := HLEN.out; omega
          clear hbr hb0
          by_cases hgo : (sumM (msTo x.kids (k + 1))).2.2 < n0
          · go_wp2_with fail
            refine (refSum_at _ x ao n c (k + 1) _ (by push_cast; rfl) (HK.out.later HBR.out) (by have := HLEN.out; omega) (by omega)).mono ?_; rintro e w2 ⟨rfl, hb⟩
            unfold aggM
            have hfl := run_field_lines (sumM (msTo x.kids (k + 1))).1 (sumM (msTo x.kids (k + 1))).2.1 (sumM (msTo x.kids (k + 1))).2.2
            have HG := Lib.hid hgo
            have HB2 := Lib.hid hb
            clear hb
            go_wp2_with fail
            go_roundw
            case rel =>
              refine ⟨k + 1, ?_, by go_num, HG.out, below_step HBR.out HB2.out, block_below HB2.out HB1.out (block_lt HB1.out)⟩
              rcases Nat.lt_or_ge (k + 1) x.kids.length with h | h
              · exact h
              · obtain e : k + 1 = x.kids.length := by omega
                rw [← e] at HLAST
                have a := HG.out
                have b := HLAST.out
                omega
            case measure => simp [intOf]; omega
          · have hsl := part_le (p := pL) (.inr (.inr rfl) : isPart pL) HT.out k (by omega)
            have hw : wrap64 (n0 - (sumM (msTo x.kids k)).2.2) = n0 - (sumM (msTo x.kids k)).2.2 := IntWalk.wrap64_in _ (by unfold pL at hsl; omega)
            have e : lineN x n0 = ((k : Int), n0 - (sumM (msTo x.kids k)).2.2, 0) := by
              have e1 : chooseN pL x (n0 - 1) = ((k : Int), n0 - 1 - pL (sumM (msTo x.kids k)), 0) := by
                rw [chooseN_ok HI.out, if_neg (show ¬ n0 - 1 < 0 by omega)]
                exact find_at (.inr (.inr rfl) : isPart pL) HT.out hk (show (sumM (msTo x.kids k)).2.2 ≤ n0 - 1 by omega) (show n0 - 1 < (sumM (msTo x.kids (k + 1))).2.2 by omega)
              unfold lineN
              rw [if_pos HI.out, if_neg (show ¬ n0 < 1 by omega), e1, if_pos rfl]
              show ((k : Int), n0 - 1 - (sumM (msTo x.kids k)).2.2 + 1, (0 : Int)) = _
              congr 2
              omega
            have HE := Lib.hid e
            have HW := Lib.hid hw
            clear e hsl hw
            go_wp2_with fail
            refine (refSum_at _ x ao n c (k + 1) _ (by push_cast; rfl) (HK.out.later HBR.out) (by have := HLEN.out; omega) (by omega)).mono ?_; rintro e w2 ⟨rfl, hb⟩
            unfold aggM
            have hfl := run_field_lines (sumM (msTo x.kids (k + 1))).1 (sumM (msTo x.kids (k + 1))).2.1 (sumM (msTo x.kids (k + 1))).2.2
            have HB2 := Lib.hid (below_step HBR.out hb)
            have hb0 := block_below hb HB1.out (block_lt HB1.out)
            (have q0 := block_cell hb0 0; have q1 := block_cell hb0 1; have q2 := block_cell hb0 2; have f0 := block_free hb0 0; have f1 := block_free hb0 1; have f2 := block_free hb0 2; have hz := block_lt hb0; simp at q0 q1 q2)
            clear hb hb0
            go_wp2_with fail
            refine (refSum_at _ x ao n c k _ rfl (HK.out.later HB2.out) (by have := HLEN.out; omega) (by omega)).mono ?_; rintro e w3 ⟨rfl, hb⟩
            unfold aggM
            have hfl := run_field_lines (sumM (msTo x.kids k)).1 (sumM (msTo x.kids k)).2.1 (sumM (msTo x.kids k)).2.2
            have HB3 := Lib.hid (below_step HB2.out hb)
            clear hb
            go_wp2_with fail
            go_ret3
            exact ⟨by rw [HE.out]; exact congrArg (fun z => Ending.returned (.tuple #[.int .i64 (k : Int), .int .i64 z, .int .i64 0])) HW.out, HB3.out⟩
  · have e : lineN x n0 = (0, 0, (innerN x).2) := by unfold lineN; rw [if_neg hi]
    rw [e]
    have hi' : ((innerN x).2 == 0) = false := by simpa using hi
    have HI := Lib.hid hi'
    clear e hi
    unfold tup3 aggN
    go_enter Try.func22, Try.ntmps22
    go_wp2_with fail
    refine (inner_any x ao n c _ (HK.out.box _)).mono ?_; rintro e w1 ⟨rfl, hb⟩
    try rw [HI.out]
    obtain ⟨hbw, hb0⟩ := box_later hb
    unfold aggM
    (have q0 := block_cell hb0 0; have q1 := block_cell hb0 1; have q2 := block_cell hb0 2; have f0 := block_free hb0 0; have f1 := block_free hb0 1; have f2 := block_free hb0 2; have hz := block_lt hb0; simp at q0 q1 q2)
    have HB0 := Lib.hid hb0
    have HBW := Lib.hid hbw
    clear hb hb0 hbw
    go_wp2_with fail
    go_ret3
    exact ⟨rfl, HBW.out.alloc HBW.out.size _⟩

end Go.Proofs.Ytbodacjhhkjdfaa
