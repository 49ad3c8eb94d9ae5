/- The law NodeBack: its walk. -/
import Derived.Test.YtbodacjhhkjdfaaNo6
namespace Go.Proofs.Ytbodacjhhkjdfaa
open Go.RowKit

theorem encN_size {x : Nd} (hc : checkN x = 0) : (encN x).size ≤ 49 := by
  rcases formed_cases (checkN_zero hc).1 with ⟨h1, h2, h3, h4⟩ | ⟨h0, h1, h2, h3, h4, h5, h6⟩
  · have e : encN x = ⟨#[0]⟩ ++ x.text := by unfold encN; rw [if_pos hc, if_pos h1]
    rw [e, ByteArray.size_append]
    show 1 + x.text.size ≤ 49
    omega
  · have e : encN x = ⟨(encL x).toArray⟩ := by unfold encN; rw [if_pos hc, if_neg h0]
    rw [e]
    show (encL x).toArray.size ≤ 49
    rw [List.size_toArray]
    unfold encL
    rw [List.length_cons, flat_encK_len]; omega
theorem decode_enc (x : Nd) (hc : checkN x = 0) (w : World) :
    Calls Try.prog 27 #[.string (encN x)] w fun e w' => ∃ v, e = .returned (.tuple #[v, .int .i64 0]) ∧ OwnN w.heap.size w' v x ∧ Below w.heap.size w w' := by
  have h := decode_any (encN x) w (by have := encN_size hc; omega)
  rw [(decode_encode hc).1, (decode_encode hc).2] at h
  exact h
theorem encode_err (x : Nd) (hc : checkN x ≠ 0) (ao : Option Addr) (n c : Nat) (w : World) (hk : IsKs w ao n x.kids) :
    Calls Try.prog 23 #[aggN x.h x.text ao n c] w fun e w' => e = .returned (.tuple #[.string ⟨#[]⟩, .int .i64 (checkN x)]) ∧ Below w.heap.size w w' := by
  have h := encode_any x ao n c w hk
  rw [show encN x = ⟨#[]⟩ from if_neg hc] at h
  exact h
theorem encode_ok (x : Nd) (hc : checkN x = 0) (ao : Option Addr) (n c : Nat) (w : World) (hk : IsKs w ao n x.kids) :
    Calls Try.prog 23 #[aggN x.h x.text ao n c] w fun e w' => e = .returned (.tuple #[.string (encN x), .int .i64 0]) ∧ Below w.heap.size w w' := by
  have h := encode_any x ao n c w hk
  rw [hc] at h
  exact h
theorem check_ok (x : Nd) (hc : checkN x = 0) (ao : Option Addr) (n c : Nat) (w : World) (hk : IsKs w ao n x.kids) :
    Calls Try.prog 15 #[aggN x.h x.text ao n c] w fun e w' => e = .returned (.int .i64 0) ∧ Below w.heap.size w w' := by
  have h := check_any x ao n c w hk
  rw [hc] at h
  exact h
theorem encode_dec (s : ByteArray) (h : decOK s) (ao : Option Addr) (n c : Nat) (w : World) (hk : IsKs w ao n (decN s).kids) :
    Calls Try.prog 23 #[aggN (decN s).h (decN s).text ao n c] w fun e w' => e = .returned (.tuple #[.string s, .int .i64 0]) ∧ Below w.heap.size w w' := by
  have h' := encode_any (decN s) ao n c w hk
  rw [(encode_decode h).1, (encode_decode h).2] at h'
  exact h'
theorem decode_ok (s : ByteArray) (hs : s.size ≤ 4294967296) (h : decOK s) (w : World) :
    Calls Try.prog 27 #[.string s] w fun e w' => ∃ v, e = .returned (.tuple #[v, .int .i64 0]) ∧ OwnN w.heap.size w' v (decN s) ∧ Below w.heap.size w w' := by
  have h' := decode_any s w hs
  rw [(decN_ok h).2] at h'
  exact h'
theorem decode_no (s : ByteArray) (hs : s.size ≤ 4294967296) (h : ¬ decOK s) (w : World) :
    Calls Try.prog 27 #[.string s] w fun e w' => ∃ a c, e = .returned (.tuple #[.agg #[.int .i64 0, .string ⟨#[]⟩, .slice a 0 c], .int .i64 4]) ∧ Below w.heap.size w w' := by
  have h' := decode_any s w hs
  rw [(decN_no h).1, (decN_no h).2] at h'
  refine h'.mono ?_
  rintro e w1 ⟨v, rfl, ⟨t, rfl, ht⟩, hb⟩
  obtain ⟨a, c, rfl, _⟩ := ht.ks
  exact ⟨a, c, rfl, hb⟩
theorem equal_none (a : Option Addr) (c : Nat) (w : World) : Calls Try.prog 25 #[.agg #[.int .i64 0, .string ⟨#[]⟩, .slice a 0 c], .agg #[.int .i64 0, .string ⟨#[]⟩, .slice none 0 0]] w fun e w' => e = .returned (.bool true) ∧ Below w.heap.size w w' := by
  have h := equalNode_any ⟨0, ⟨#[]⟩, []⟩ ⟨0, ⟨#[]⟩, []⟩ a none 0 0 c 0 w (IsKs.none _ _) (IsKs.none _ _) (by decide)
  rwa [decide_eq_true rfl] at h
theorem equal_yes (x : Nd) (a a' : Option Addr) (n n' c c' : Nat) (w : World) (h : IsKs w a n x.kids) (h' : IsKs w a' n' x.kids) (hn63 : n ≤ 9223372036854775807) :
    Calls Try.prog 25 #[aggN x.h x.text a n c, aggN x.h x.text a' n' c'] w fun e w' => e = .returned (.bool true) ∧ Below w.heap.size w w' := by
  have h := equalNode_any x x a a' n n' c c' w h h' hn63
  rwa [decide_eq_true rfl] at h
theorem equal_ne (x y : Nd) (hne : x ≠ y) (a a' : Option Addr) (n n' c c' : Nat) (w : World) (h : IsKs w a n x.kids) (h' : IsKs w a' n' y.kids) (hn63 : n ≤ 9223372036854775807) :
    Calls Try.prog 25 #[aggN x.h x.text a n c, aggN y.h y.text a' n' c'] w fun e w' => e = .returned (.bool false) ∧ Below w.heap.size w w' := by
  have h := equalNode_any x y a a' n n' c c' w h h' hn63
  rwa [decide_eq_false hne] at h

set_option maxRecDepth 100000 in
set_option maxHeartbeats 4000000 in
theorem back_xe_s (x y : Nd) (s : ByteArray) (ao bo : Option Addr) (n c m d : Nat) (w : World) (hk : IsKs w ao n x.kids) (hm : IsKs w bo m y.kids) (hn63 : n ≤ 9223372036854775807) (hs : s.size ≤ 4294967296) (hx : checkN x ≠ 0) (hsd : decOK s) :
    Calls Try.prog 6 #[aggN x.h x.text ao n c, aggN y.h y.text bo m d, .string s] w fun e w' => e = .returned (.bool true) ∧ Below w.heap.size w w' := by
  have hxl : x.kids.length ≤ 9223372036854775807 := by rw [hk.1]; exact hn63
  have hcx : (checkN x == 0) = false := by simpa using hx
  have HK := Lib.hid hk
  have HM := Lib.hid hm
  have HX := Lib.hid hx
  have HSD := Lib.hid hsd
  clear hsd hx hm hk
  unfold aggN
  go_enter Try.func6, Try.ntmps6
  go_wp2_with fail
  refine (encode_err x HX.out ao n c _ ((HK.out.box _).box _)).mono ?_; rintro e w1 ⟨rfl, hb⟩
  have bw1 := below_step (((Below.refl _ _).alloc (Nat.le_refl _) _).alloc (by simp) _) hb
  have hx_w1 := block_below hb (block_alloc (block_new w (.cells #[.int .i64 x.h, .string x.text, .slice ao n c] 24)) _) (block_lt (block_alloc (block_new w (.cells #[.int .i64 x.h, .string x.text, .slice ao n c] 24)) _))
  have hy_w1 := block_below hb (block_new (w.alloc (.cells #[.int .i64 x.h, .string x.text, .slice ao n c] 24)) (.cells #[.int .i64 y.h, .string y.text, .slice bo m d] 24)) (block_lt (block_new (w.alloc (.cells #[.int .i64 x.h, .string x.text, .slice ao n c] 24)) (.cells #[.int .i64 y.h, .string y.text, .slice bo m d] 24)))
  have BW1 := Lib.hid bw1
  have HX_W1 := Lib.hid hx_w1
  have HY_W1 := Lib.hid hy_w1
  clear hy_w1 hx_w1 bw1
  clear hb
  have HKx := Lib.hid (HK.out.later BW1.out)
  have HKy := Lib.hid (HM.out.later BW1.out)
  have kk := HX_W1.out
  (have q0 := block_cell kk 0; have q1 := block_cell kk 1; have q2 := block_cell kk 2; have f0 := block_free kk 0; have f1 := block_free kk 1; have f2 := block_free kk 2; have hz := block_lt kk; simp at q0 q1 q2)
  clear kk
  have kk := HY_W1.out
  (have q0 := block_cell kk 0; have q1 := block_cell kk 1; have q2 := block_cell kk 2; have f0 := block_free kk 0; have f1 := block_free kk 1; have f2 := block_free kk 2; have hz := block_lt kk; simp at q0 q1 q2)
  clear kk
  go_wp2_with fail
  refine (encode_any y bo m d _ HKy.out).mono ?_; rintro e w2 ⟨rfl, hb⟩
  have bw2 := below_step (BW1.out) hb
  have hx_w2 := block_below hb HX_W1.out (block_lt HX_W1.out)
  have hy_w2 := block_below hb HY_W1.out (block_lt HY_W1.out)
  have BW2 := Lib.hid bw2
  have HX_W2 := Lib.hid hx_w2
  have HY_W2 := Lib.hid hy_w2
  clear hy_w2 hx_w2 bw2
  replace HKx := Lib.hid (HKx.out.later hb)
  replace HKy := Lib.hid (HKy.out.later hb)
  clear hb
  have kk := HX_W2.out
  (have q0 := block_cell kk 0; have q1 := block_cell kk 1; have q2 := block_cell kk 2; have f0 := block_free kk 0; have f1 := block_free kk 1; have f2 := block_free kk 2; have hz := block_lt kk; simp at q0 q1 q2)
  clear kk
  have kk := HY_W2.out
  (have q0 := block_cell kk 0; have q1 := block_cell kk 1; have q2 := block_cell kk 2; have f0 := block_free kk 0; have f1 := block_free kk 1; have f2 := block_free kk 2; have hz := block_lt kk; simp at q0 q1 q2)
  clear kk
  go_wp2_with fail
  refine (check_any x ao n c _ HKx.out).mono ?_; rintro e w3 ⟨rfl, hb⟩
  have bw3 := below_step (BW2.out) hb
  have hx_w3 := block_below hb HX_W2.out (block_lt HX_W2.out)
  have hy_w3 := block_below hb HY_W2.out (block_lt HY_W2.out)
  have BW3 := Lib.hid bw3
  have HX_W3 := Lib.hid hx_w3
  have HY_W3 := Lib.hid hy_w3
  clear hy_w3 hx_w3 bw3
  replace HKx := Lib.hid (HKx.out.later hb)
  replace HKy := Lib.hid (HKy.out.later hb)
  clear hb
  have kk := HX_W3.out
  (have q0 := block_cell kk 0; have q1 := block_cell kk 1; have q2 := block_cell kk 2; have f0 := block_free kk 0; have f1 := block_free kk 1; have f2 := block_free kk 2; have hz := block_lt kk; simp at q0 q1 q2)
  clear kk
  have kk := HY_W3.out
  (have q0 := block_cell kk 0; have q1 := block_cell kk 1; have q2 := block_cell kk 2; have f0 := block_free kk 0; have f1 := block_free kk 1; have f2 := block_free kk 2; have hz := block_lt kk; simp at q0 q1 q2)
  clear kk
  go_wp2_with fail
  refine (decode_ok s hs HSD.out _).mono ?_; rintro e w4 ⟨v, rfl, ⟨t, rfl, ht⟩, hb⟩
  have bw4 := below_step (BW3.out) hb
  have hx_w4 := block_below hb HX_W3.out (block_lt HX_W3.out)
  have hy_w4 := block_below hb HY_W3.out (block_lt HY_W3.out)
  have BW4 := Lib.hid bw4
  have HX_W4 := Lib.hid hx_w4
  have HY_W4 := Lib.hid hy_w4
  clear hy_w4 hx_w4 bw4
  clear hb
  obtain ⟨a8, c8, rfl, k8, _⟩ := ht.ks
  have K8 := Lib.hid k8
  clear k8 ht
  go_wp2_with fail
  refine (encode_dec s HSD.out a8 _ c8 _ (K8.out.box _)).mono ?_; rintro e w5 ⟨rfl, hb⟩
  have bw5 := below_step ((BW4.out).alloc BW4.out.size _) hb
  have hx_w5 := block_below hb (block_alloc HX_W4.out _) (block_lt (block_alloc HX_W4.out _))
  have hy_w5 := block_below hb (block_alloc HY_W4.out _) (block_lt (block_alloc HY_W4.out _))
  have hd_w5 := block_below hb (block_new w4 (.cells #[.int .i64 (decN s).h, .string (decN s).text, .slice a8 (decN s).kids.length c8] 24)) (block_lt (block_new w4 (.cells #[.int .i64 (decN s).h, .string (decN s).text, .slice a8 (decN s).kids.length c8] 24)))
  have BW5 := Lib.hid bw5
  have HX_W5 := Lib.hid hx_w5
  have HY_W5 := Lib.hid hy_w5
  have HD_W5 := Lib.hid hd_w5
  clear hd_w5 hy_w5 hx_w5 bw5
  replace K8 := Lib.hid ((K8.out.box _).later hb)
  clear hb
  have kk := HD_W5.out
  (have q0 := block_cell kk 0; have q1 := block_cell kk 1; have q2 := block_cell kk 2; have f0 := block_free kk 0; have f1 := block_free kk 1; have f2 := block_free kk 2; have hz := block_lt kk; simp at q0 q1 q2)
  clear kk
  go_wp2_with fail
  refine (check_ok (decN s) (encode_decode HSD.out).2 a8 _ c8 _ K8.out).mono ?_; rintro e w6 ⟨rfl, hb⟩
  have bw6 := below_step (BW5.out) hb
  have hx_w6 := block_below hb HX_W5.out (block_lt HX_W5.out)
  have hy_w6 := block_below hb HY_W5.out (block_lt HY_W5.out)
  have hd_w6 := block_below hb HD_W5.out (block_lt HD_W5.out)
  have BW6 := Lib.hid bw6
  have HX_W6 := Lib.hid hx_w6
  have HY_W6 := Lib.hid hy_w6
  have HD_W6 := Lib.hid hd_w6
  clear hd_w6 hy_w6 hx_w6 bw6
  clear hb
  go_wp2_with fail
  refine (awake_any _).mono ?_; rintro e w7 ⟨rfl, hb⟩
  have bw7 := below_step (BW6.out) hb
  have hx_w7 := block_below hb HX_W6.out (block_lt HX_W6.out)
  have hy_w7 := block_below hb HY_W6.out (block_lt HY_W6.out)
  have hd_w7 := block_below hb HD_W6.out (block_lt HD_W6.out)
  have BW7 := Lib.hid bw7
  have HX_W7 := Lib.hid hx_w7
  have HY_W7 := Lib.hid hy_w7
  have HD_W7 := Lib.hid hd_w7
  clear hd_w7 hy_w7 hx_w7 bw7
  clear hb
  go_wp2_with fail
  go_ret
  exact ⟨rfl, BW7.out⟩

set_option maxRecDepth 100000 in
set_option maxHeartbeats 4000000 in
theorem back_ye_s (x y : Nd) (s : ByteArray) (ao bo : Option Addr) (n c m d : Nat) (w : World) (hk : IsKs w ao n x.kids) (hm : IsKs w bo m y.kids) (hn63 : n ≤ 9223372036854775807) (hs : s.size ≤ 4294967296) (hx : checkN x = 0) (hy : checkN y ≠ 0) (hsd : decOK s) :
    Calls Try.prog 6 #[aggN x.h x.text ao n c, aggN y.h y.text bo m d, .string s] w fun e w' => e = .returned (.bool true) ∧ Below w.heap.size w w' := by
  have hxl : x.kids.length ≤ 9223372036854775807 := by rw [hk.1]; exact hn63
  have hcy : (checkN y == 0) = false := by simpa using hy
  have HK := Lib.hid hk
  have HM := Lib.hid hm
  have HX := Lib.hid hx
  have HY := Lib.hid hy
  have HSD := Lib.hid hsd
  clear hsd hy hx hm hk
  unfold aggN
  go_enter Try.func6, Try.ntmps6
  go_wp2_with fail
  refine (encode_ok x HX.out ao n c _ ((HK.out.box _).box _)).mono ?_; rintro e w1 ⟨rfl, hb⟩
  have bw1 := below_step (((Below.refl _ _).alloc (Nat.le_refl _) _).alloc (by simp) _) hb
  have hx_w1 := block_below hb (block_alloc (block_new w (.cells #[.int .i64 x.h, .string x.text, .slice ao n c] 24)) _) (block_lt (block_alloc (block_new w (.cells #[.int .i64 x.h, .string x.text, .slice ao n c] 24)) _))
  have hy_w1 := block_below hb (block_new (w.alloc (.cells #[.int .i64 x.h, .string x.text, .slice ao n c] 24)) (.cells #[.int .i64 y.h, .string y.text, .slice bo m d] 24)) (block_lt (block_new (w.alloc (.cells #[.int .i64 x.h, .string x.text, .slice ao n c] 24)) (.cells #[.int .i64 y.h, .string y.text, .slice bo m d] 24)))
  have BW1 := Lib.hid bw1
  have HX_W1 := Lib.hid hx_w1
  have HY_W1 := Lib.hid hy_w1
  clear hy_w1 hx_w1 bw1
  clear hb
  have HKx := Lib.hid (HK.out.later BW1.out)
  have HKy := Lib.hid (HM.out.later BW1.out)
  have kk := HX_W1.out
  (have q0 := block_cell kk 0; have q1 := block_cell kk 1; have q2 := block_cell kk 2; have f0 := block_free kk 0; have f1 := block_free kk 1; have f2 := block_free kk 2; have hz := block_lt kk; simp at q0 q1 q2)
  clear kk
  have kk := HY_W1.out
  (have q0 := block_cell kk 0; have q1 := block_cell kk 1; have q2 := block_cell kk 2; have f0 := block_free kk 0; have f1 := block_free kk 1; have f2 := block_free kk 2; have hz := block_lt kk; simp at q0 q1 q2)
  clear kk
  go_wp2_with fail
  refine (encode_err y HY.out bo m d _ HKy.out).mono ?_; rintro e w2 ⟨rfl, hb⟩
  have bw2 := below_step (BW1.out) hb
  have hx_w2 := block_below hb HX_W1.out (block_lt HX_W1.out)
  have hy_w2 := block_below hb HY_W1.out (block_lt HY_W1.out)
  have BW2 := Lib.hid bw2
  have HX_W2 := Lib.hid hx_w2
  have HY_W2 := Lib.hid hy_w2
  clear hy_w2 hx_w2 bw2
  replace HKx := Lib.hid (HKx.out.later hb)
  replace HKy := Lib.hid (HKy.out.later hb)
  clear hb
  have kk := HX_W2.out
  (have q0 := block_cell kk 0; have q1 := block_cell kk 1; have q2 := block_cell kk 2; have f0 := block_free kk 0; have f1 := block_free kk 1; have f2 := block_free kk 2; have hz := block_lt kk; simp at q0 q1 q2)
  clear kk
  have kk := HY_W2.out
  (have q0 := block_cell kk 0; have q1 := block_cell kk 1; have q2 := block_cell kk 2; have f0 := block_free kk 0; have f1 := block_free kk 1; have f2 := block_free kk 2; have hz := block_lt kk; simp at q0 q1 q2)
  clear kk
  go_wp2_with fail
  refine (check_ok x HX.out ao n c _ HKx.out).mono ?_; rintro e w3 ⟨rfl, hb⟩
  have bw3 := below_step (BW2.out) hb
  have hx_w3 := block_below hb HX_W2.out (block_lt HX_W2.out)
  have hy_w3 := block_below hb HY_W2.out (block_lt HY_W2.out)
  have BW3 := Lib.hid bw3
  have HX_W3 := Lib.hid hx_w3
  have HY_W3 := Lib.hid hy_w3
  clear hy_w3 hx_w3 bw3
  replace HKx := Lib.hid (HKx.out.later hb)
  replace HKy := Lib.hid (HKy.out.later hb)
  clear hb
  have kk := HX_W3.out
  (have q0 := block_cell kk 0; have q1 := block_cell kk 1; have q2 := block_cell kk 2; have f0 := block_free kk 0; have f1 := block_free kk 1; have f2 := block_free kk 2; have hz := block_lt kk; simp at q0 q1 q2)
  clear kk
  have kk := HY_W3.out
  (have q0 := block_cell kk 0; have q1 := block_cell kk 1; have q2 := block_cell kk 2; have f0 := block_free kk 0; have f1 := block_free kk 1; have f2 := block_free kk 2; have hz := block_lt kk; simp at q0 q1 q2)
  clear kk
  go_wp2_with fail
  refine (decode_enc x HX.out _).mono ?_; rintro e w4 ⟨v, rfl, ⟨t, rfl, ht⟩, hb⟩
  have bw4 := below_step (BW3.out) hb
  have hx_w4 := block_below hb HX_W3.out (block_lt HX_W3.out)
  have hy_w4 := block_below hb HY_W3.out (block_lt HY_W3.out)
  have BW4 := Lib.hid bw4
  have HX_W4 := Lib.hid hx_w4
  have HY_W4 := Lib.hid hy_w4
  clear hy_w4 hx_w4 bw4
  replace HKx := Lib.hid (HKx.out.later hb)
  replace HKy := Lib.hid (HKy.out.later hb)
  clear hb
  obtain ⟨a5, c5, rfl, k5, _⟩ := ht.ks
  have K5 := Lib.hid k5
  clear k5 ht
  have kk := HX_W4.out
  (have q0 := block_cell kk 0; have q1 := block_cell kk 1; have q2 := block_cell kk 2; have f0 := block_free kk 0; have f1 := block_free kk 1; have f2 := block_free kk 2; have hz := block_lt kk; simp at q0 q1 q2)
  clear kk
  have kk := HY_W4.out
  (have q0 := block_cell kk 0; have q1 := block_cell kk 1; have q2 := block_cell kk 2; have f0 := block_free kk 0; have f1 := block_free kk 1; have f2 := block_free kk 2; have hz := block_lt kk; simp at q0 q1 q2)
  clear kk
  go_wp2_with fail
  have kk := (block_alloc HX_W4.out (.cells #[.int .i64 x.h, .string x.text, .slice a5 x.kids.length c5] 24))
  (have q0 := block_cell kk 0; have q1 := block_cell kk 1; have q2 := block_cell kk 2; have f0 := block_free kk 0; have f1 := block_free kk 1; have f2 := block_free kk 2; have hz := block_lt kk; simp at q0 q1 q2)
  clear kk
  refine (equal_yes x a5 ao _ n c5 c _ (K5.out.box _) (HKx.out.box _) hxl).mono ?_; rintro e w5 ⟨rfl, hb⟩
  have bw5 := below_step ((BW4.out).alloc BW4.out.size _) hb
  have hx_w5 := block_below hb (block_alloc HX_W4.out _) (block_lt (block_alloc HX_W4.out _))
  have hy_w5 := block_below hb (block_alloc HY_W4.out _) (block_lt (block_alloc HY_W4.out _))
  have hc_w5 := block_below hb (block_new w4 (.cells #[.int .i64 x.h, .string x.text, .slice a5 x.kids.length c5] 24)) (block_lt (block_new w4 (.cells #[.int .i64 x.h, .string x.text, .slice a5 x.kids.length c5] 24)))
  have BW5 := Lib.hid bw5
  have HX_W5 := Lib.hid hx_w5
  have HY_W5 := Lib.hid hy_w5
  have HC_W5 := Lib.hid hc_w5
  clear hc_w5 hy_w5 hx_w5 bw5
  clear hb
  have kk := HX_W5.out
  (have q0 := block_cell kk 0; have q1 := block_cell kk 1; have q2 := block_cell kk 2; have f0 := block_free kk 0; have f1 := block_free kk 1; have f2 := block_free kk 2; have hz := block_lt kk; simp at q0 q1 q2)
  clear kk
  have kk := HY_W5.out
  (have q0 := block_cell kk 0; have q1 := block_cell kk 1; have q2 := block_cell kk 2; have f0 := block_free kk 0; have f1 := block_free kk 1; have f2 := block_free kk 2; have hz := block_lt kk; simp at q0 q1 q2)
  clear kk
  go_wp2_with fail
  refine (decode_ok s hs HSD.out _).mono ?_; rintro e w6 ⟨v, rfl, ⟨t, rfl, ht⟩, hb⟩
  have bw6 := below_step (BW5.out) hb
  have hx_w6 := block_below hb HX_W5.out (block_lt HX_W5.out)
  have hy_w6 := block_below hb HY_W5.out (block_lt HY_W5.out)
  have hc_w6 := block_below hb HC_W5.out (block_lt HC_W5.out)
  have BW6 := Lib.hid bw6
  have HX_W6 := Lib.hid hx_w6
  have HY_W6 := Lib.hid hy_w6
  have HC_W6 := Lib.hid hc_w6
  clear hc_w6 hy_w6 hx_w6 bw6
  clear hb
  obtain ⟨a8, c8, rfl, k8, _⟩ := ht.ks
  have K8 := Lib.hid k8
  clear k8 ht
  go_wp2_with fail
  refine (encode_dec s HSD.out a8 _ c8 _ (K8.out.box _)).mono ?_; rintro e w7 ⟨rfl, hb⟩
  have bw7 := below_step ((BW6.out).alloc BW6.out.size _) hb
  have hx_w7 := block_below hb (block_alloc HX_W6.out _) (block_lt (block_alloc HX_W6.out _))
  have hy_w7 := block_below hb (block_alloc HY_W6.out _) (block_lt (block_alloc HY_W6.out _))
  have hc_w7 := block_below hb (block_alloc HC_W6.out _) (block_lt (block_alloc HC_W6.out _))
  have hd_w7 := block_below hb (block_new w6 (.cells #[.int .i64 (decN s).h, .string (decN s).text, .slice a8 (decN s).kids.length c8] 24)) (block_lt (block_new w6 (.cells #[.int .i64 (decN s).h, .string (decN s).text, .slice a8 (decN s).kids.length c8] 24)))
  have BW7 := Lib.hid bw7
  have HX_W7 := Lib.hid hx_w7
  have HY_W7 := Lib.hid hy_w7
  have HC_W7 := Lib.hid hc_w7
  have HD_W7 := Lib.hid hd_w7
  clear hd_w7 hc_w7 hy_w7 hx_w7 bw7
  replace K8 := Lib.hid ((K8.out.box _).later hb)
  clear hb
  have kk := HD_W7.out
  (have q0 := block_cell kk 0; have q1 := block_cell kk 1; have q2 := block_cell kk 2; have f0 := block_free kk 0; have f1 := block_free kk 1; have f2 := block_free kk 2; have hz := block_lt kk; simp at q0 q1 q2)
  clear kk
  go_wp2_with fail
  refine (check_ok (decN s) (encode_decode HSD.out).2 a8 _ c8 _ K8.out).mono ?_; rintro e w8 ⟨rfl, hb⟩
  have bw8 := below_step (BW7.out) hb
  have hx_w8 := block_below hb HX_W7.out (block_lt HX_W7.out)
  have hy_w8 := block_below hb HY_W7.out (block_lt HY_W7.out)
  have hc_w8 := block_below hb HC_W7.out (block_lt HC_W7.out)
  have hd_w8 := block_below hb HD_W7.out (block_lt HD_W7.out)
  have BW8 := Lib.hid bw8
  have HX_W8 := Lib.hid hx_w8
  have HY_W8 := Lib.hid hy_w8
  have HC_W8 := Lib.hid hc_w8
  have HD_W8 := Lib.hid hd_w8
  clear hd_w8 hc_w8 hy_w8 hx_w8 bw8
  clear hb
  go_wp2_with fail
  refine (awake_any _).mono ?_; rintro e w9 ⟨rfl, hb⟩
  have bw9 := below_step (BW8.out) hb
  have hx_w9 := block_below hb HX_W8.out (block_lt HX_W8.out)
  have hy_w9 := block_below hb HY_W8.out (block_lt HY_W8.out)
  have hc_w9 := block_below hb HC_W8.out (block_lt HC_W8.out)
  have hd_w9 := block_below hb HD_W8.out (block_lt HD_W8.out)
  have BW9 := Lib.hid bw9
  have HX_W9 := Lib.hid hx_w9
  have HY_W9 := Lib.hid hy_w9
  have HC_W9 := Lib.hid hc_w9
  have HD_W9 := Lib.hid hd_w9
  clear hd_w9 hc_w9 hy_w9 hx_w9 bw9
  clear hb
  go_wp2_with fail
  go_ret
  exact ⟨rfl, BW9.out⟩

set_option maxRecDepth 100000 in
set_option maxHeartbeats 4000000 in
theorem back_eq_s (x : Nd) (s : ByteArray) (ao bo : Option Addr) (n c m d : Nat) (w : World) (hk : IsKs w ao n x.kids) (hm : IsKs w bo m x.kids) (hn63 : n ≤ 9223372036854775807) (hs : s.size ≤ 4294967296) (hx : checkN x = 0) (hy : checkN x = 0) (hsd : decOK s) :
    Calls Try.prog 6 #[aggN x.h x.text ao n c, aggN x.h x.text bo m d, .string s] w fun e w' => e = .returned (.bool true) ∧ Below w.heap.size w w' := by
  have hxl : x.kids.length ≤ 9223372036854775807 := by rw [hk.1]; exact hn63
  have HK := Lib.hid hk
  have HM := Lib.hid hm
  have HX := Lib.hid hx
  have HY := Lib.hid hy
  have HSD := Lib.hid hsd
  clear hsd hy hx hm hk
  unfold aggN
  go_enter Try.func6, Try.ntmps6
  go_wp2_with fail
  refine (encode_ok x HX.out ao n c _ ((HK.out.box _).box _)).mono ?_; rintro e w1 ⟨rfl, hb⟩
  have bw1 := below_step (((Below.refl _ _).alloc (Nat.le_refl _) _).alloc (by simp) _) hb
  have hx_w1 := block_below hb (block_alloc (block_new w (.cells #[.int .i64 x.h, .string x.text, .slice ao n c] 24)) _) (block_lt (block_alloc (block_new w (.cells #[.int .i64 x.h, .string x.text, .slice ao n c] 24)) _))
  have hy_w1 := block_below hb (block_new (w.alloc (.cells #[.int .i64 x.h, .string x.text, .slice ao n c] 24)) (.cells #[.int .i64 x.h, .string x.text, .slice bo m d] 24)) (block_lt (block_new (w.alloc (.cells #[.int .i64 x.h, .string x.text, .slice ao n c] 24)) (.cells #[.int .i64 x.h, .string x.text, .slice bo m d] 24)))
  have BW1 := Lib.hid bw1
  have HX_W1 := Lib.hid hx_w1
  have HY_W1 := Lib.hid hy_w1
  clear hy_w1 hx_w1 bw1
  clear hb
  have HKx := Lib.hid (HK.out.later BW1.out)
  have HKy := Lib.hid (HM.out.later BW1.out)
  have kk := HX_W1.out
  (have q0 := block_cell kk 0; have q1 := block_cell kk 1; have q2 := block_cell kk 2; have f0 := block_free kk 0; have f1 := block_free kk 1; have f2 := block_free kk 2; have hz := block_lt kk; simp at q0 q1 q2)
  clear kk
  have kk := HY_W1.out
  (have q0 := block_cell kk 0; have q1 := block_cell kk 1; have q2 := block_cell kk 2; have f0 := block_free kk 0; have f1 := block_free kk 1; have f2 := block_free kk 2; have hz := block_lt kk; simp at q0 q1 q2)
  clear kk
  go_wp2_with fail
  refine (encode_ok x HY.out bo m d _ HKy.out).mono ?_; rintro e w2 ⟨rfl, hb⟩
  have bw2 := below_step (BW1.out) hb
  have hx_w2 := block_below hb HX_W1.out (block_lt HX_W1.out)
  have hy_w2 := block_below hb HY_W1.out (block_lt HY_W1.out)
  have BW2 := Lib.hid bw2
  have HX_W2 := Lib.hid hx_w2
  have HY_W2 := Lib.hid hy_w2
  clear hy_w2 hx_w2 bw2
  replace HKx := Lib.hid (HKx.out.later hb)
  replace HKy := Lib.hid (HKy.out.later hb)
  clear hb
  have kk := HX_W2.out
  (have q0 := block_cell kk 0; have q1 := block_cell kk 1; have q2 := block_cell kk 2; have f0 := block_free kk 0; have f1 := block_free kk 1; have f2 := block_free kk 2; have hz := block_lt kk; simp at q0 q1 q2)
  clear kk
  have kk := HY_W2.out
  (have q0 := block_cell kk 0; have q1 := block_cell kk 1; have q2 := block_cell kk 2; have f0 := block_free kk 0; have f1 := block_free kk 1; have f2 := block_free kk 2; have hz := block_lt kk; simp at q0 q1 q2)
  clear kk
  go_wp2_with fail
  refine (check_ok x HX.out ao n c _ HKx.out).mono ?_; rintro e w3 ⟨rfl, hb⟩
  have bw3 := below_step (BW2.out) hb
  have hx_w3 := block_below hb HX_W2.out (block_lt HX_W2.out)
  have hy_w3 := block_below hb HY_W2.out (block_lt HY_W2.out)
  have BW3 := Lib.hid bw3
  have HX_W3 := Lib.hid hx_w3
  have HY_W3 := Lib.hid hy_w3
  clear hy_w3 hx_w3 bw3
  replace HKx := Lib.hid (HKx.out.later hb)
  replace HKy := Lib.hid (HKy.out.later hb)
  clear hb
  have kk := HX_W3.out
  (have q0 := block_cell kk 0; have q1 := block_cell kk 1; have q2 := block_cell kk 2; have f0 := block_free kk 0; have f1 := block_free kk 1; have f2 := block_free kk 2; have hz := block_lt kk; simp at q0 q1 q2)
  clear kk
  have kk := HY_W3.out
  (have q0 := block_cell kk 0; have q1 := block_cell kk 1; have q2 := block_cell kk 2; have f0 := block_free kk 0; have f1 := block_free kk 1; have f2 := block_free kk 2; have hz := block_lt kk; simp at q0 q1 q2)
  clear kk
  go_wp2_with fail
  refine (equal_yes x ao bo n m c d _ HKx.out HKy.out hn63).mono ?_; rintro e w4 ⟨rfl, hb⟩
  have bw4 := below_step (BW3.out) hb
  have hx_w4 := block_below hb HX_W3.out (block_lt HX_W3.out)
  have hy_w4 := block_below hb HY_W3.out (block_lt HY_W3.out)
  have BW4 := Lib.hid bw4
  have HX_W4 := Lib.hid hx_w4
  have HY_W4 := Lib.hid hy_w4
  clear hy_w4 hx_w4 bw4
  replace HKx := Lib.hid (HKx.out.later hb)
  replace HKy := Lib.hid (HKy.out.later hb)
  clear hb
  have kk := HX_W4.out
  (have q0 := block_cell kk 0; have q1 := block_cell kk 1; have q2 := block_cell kk 2; have f0 := block_free kk 0; have f1 := block_free kk 1; have f2 := block_free kk 2; have hz := block_lt kk; simp at q0 q1 q2)
  clear kk
  have kk := HY_W4.out
  (have q0 := block_cell kk 0; have q1 := block_cell kk 1; have q2 := block_cell kk 2; have f0 := block_free kk 0; have f1 := block_free kk 1; have f2 := block_free kk 2; have hz := block_lt kk; simp at q0 q1 q2)
  clear kk
  go_wp2_with fail
  refine (decode_enc x HX.out _).mono ?_; rintro e w5 ⟨v, rfl, ⟨t, rfl, ht⟩, hb⟩
  have bw5 := below_step (BW4.out) hb
  have hx_w5 := block_below hb HX_W4.out (block_lt HX_W4.out)
  have hy_w5 := block_below hb HY_W4.out (block_lt HY_W4.out)
  have BW5 := Lib.hid bw5
  have HX_W5 := Lib.hid hx_w5
  have HY_W5 := Lib.hid hy_w5
  clear hy_w5 hx_w5 bw5
  replace HKx := Lib.hid (HKx.out.later hb)
  replace HKy := Lib.hid (HKy.out.later hb)
  clear hb
  obtain ⟨a5, c5, rfl, k5, _⟩ := ht.ks
  have K5 := Lib.hid k5
  clear k5 ht
  have kk := HX_W5.out
  (have q0 := block_cell kk 0; have q1 := block_cell kk 1; have q2 := block_cell kk 2; have f0 := block_free kk 0; have f1 := block_free kk 1; have f2 := block_free kk 2; have hz := block_lt kk; simp at q0 q1 q2)
  clear kk
  have kk := HY_W5.out
  (have q0 := block_cell kk 0; have q1 := block_cell kk 1; have q2 := block_cell kk 2; have f0 := block_free kk 0; have f1 := block_free kk 1; have f2 := block_free kk 2; have hz := block_lt kk; simp at q0 q1 q2)
  clear kk
  go_wp2_with fail
  have kk := (block_alloc HX_W5.out (.cells #[.int .i64 x.h, .string x.text, .slice a5 x.kids.length c5] 24))
  (have q0 := block_cell kk 0; have q1 := block_cell kk 1; have q2 := block_cell kk 2; have f0 := block_free kk 0; have f1 := block_free kk 1; have f2 := block_free kk 2; have hz := block_lt kk; simp at q0 q1 q2)
  clear kk
  refine (equal_yes x a5 ao _ n c5 c _ (K5.out.box _) (HKx.out.box _) hxl).mono ?_; rintro e w6 ⟨rfl, hb⟩
  have bw6 := below_step ((BW5.out).alloc BW5.out.size _) hb
  have hx_w6 := block_below hb (block_alloc HX_W5.out _) (block_lt (block_alloc HX_W5.out _))
  have hy_w6 := block_below hb (block_alloc HY_W5.out _) (block_lt (block_alloc HY_W5.out _))
  have hc_w6 := block_below hb (block_new w5 (.cells #[.int .i64 x.h, .string x.text, .slice a5 x.kids.length c5] 24)) (block_lt (block_new w5 (.cells #[.int .i64 x.h, .string x.text, .slice a5 x.kids.length c5] 24)))
  have BW6 := Lib.hid bw6
  have HX_W6 := Lib.hid hx_w6
  have HY_W6 := Lib.hid hy_w6
  have HC_W6 := Lib.hid hc_w6
  clear hc_w6 hy_w6 hx_w6 bw6
  clear hb
  have kk := HX_W6.out
  (have q0 := block_cell kk 0; have q1 := block_cell kk 1; have q2 := block_cell kk 2; have f0 := block_free kk 0; have f1 := block_free kk 1; have f2 := block_free kk 2; have hz := block_lt kk; simp at q0 q1 q2)
  clear kk
  have kk := HY_W6.out
  (have q0 := block_cell kk 0; have q1 := block_cell kk 1; have q2 := block_cell kk 2; have f0 := block_free kk 0; have f1 := block_free kk 1; have f2 := block_free kk 2; have hz := block_lt kk; simp at q0 q1 q2)
  clear kk
  go_wp2_with fail
  refine (decode_ok s hs HSD.out _).mono ?_; rintro e w7 ⟨v, rfl, ⟨t, rfl, ht⟩, hb⟩
  have bw7 := below_step (BW6.out) hb
  have hx_w7 := block_below hb HX_W6.out (block_lt HX_W6.out)
  have hy_w7 := block_below hb HY_W6.out (block_lt HY_W6.out)
  have hc_w7 := block_below hb HC_W6.out (block_lt HC_W6.out)
  have BW7 := Lib.hid bw7
  have HX_W7 := Lib.hid hx_w7
  have HY_W7 := Lib.hid hy_w7
  have HC_W7 := Lib.hid hc_w7
  clear hc_w7 hy_w7 hx_w7 bw7
  clear hb
  obtain ⟨a8, c8, rfl, k8, _⟩ := ht.ks
  have K8 := Lib.hid k8
  clear k8 ht
  go_wp2_with fail
  refine (encode_dec s HSD.out a8 _ c8 _ (K8.out.box _)).mono ?_; rintro e w8 ⟨rfl, hb⟩
  have bw8 := below_step ((BW7.out).alloc BW7.out.size _) hb
  have hx_w8 := block_below hb (block_alloc HX_W7.out _) (block_lt (block_alloc HX_W7.out _))
  have hy_w8 := block_below hb (block_alloc HY_W7.out _) (block_lt (block_alloc HY_W7.out _))
  have hc_w8 := block_below hb (block_alloc HC_W7.out _) (block_lt (block_alloc HC_W7.out _))
  have hd_w8 := block_below hb (block_new w7 (.cells #[.int .i64 (decN s).h, .string (decN s).text, .slice a8 (decN s).kids.length c8] 24)) (block_lt (block_new w7 (.cells #[.int .i64 (decN s).h, .string (decN s).text, .slice a8 (decN s).kids.length c8] 24)))
  have BW8 := Lib.hid bw8
  have HX_W8 := Lib.hid hx_w8
  have HY_W8 := Lib.hid hy_w8
  have HC_W8 := Lib.hid hc_w8
  have HD_W8 := Lib.hid hd_w8
  clear hd_w8 hc_w8 hy_w8 hx_w8 bw8
  replace K8 := Lib.hid ((K8.out.box _).later hb)
  clear hb
  have kk := HD_W8.out
  (have q0 := block_cell kk 0; have q1 := block_cell kk 1; have q2 := block_cell kk 2; have f0 := block_free kk 0; have f1 := block_free kk 1; have f2 := block_free kk 2; have hz := block_lt kk; simp at q0 q1 q2)
  clear kk
  go_wp2_with fail
  refine (check_ok (decN s) (encode_decode HSD.out).2 a8 _ c8 _ K8.out).mono ?_; rintro e w9 ⟨rfl, hb⟩
  have bw9 := below_step (BW8.out) hb
  have hx_w9 := block_below hb HX_W8.out (block_lt HX_W8.out)
  have hy_w9 := block_below hb HY_W8.out (block_lt HY_W8.out)
  have hc_w9 := block_below hb HC_W8.out (block_lt HC_W8.out)
  have hd_w9 := block_below hb HD_W8.out (block_lt HD_W8.out)
  have BW9 := Lib.hid bw9
  have HX_W9 := Lib.hid hx_w9
  have HY_W9 := Lib.hid hy_w9
  have HC_W9 := Lib.hid hc_w9
  have HD_W9 := Lib.hid hd_w9
  clear hd_w9 hc_w9 hy_w9 hx_w9 bw9
  clear hb
  go_wp2_with fail
  refine (awake_any _).mono ?_; rintro e w10 ⟨rfl, hb⟩
  have bw10 := below_step (BW9.out) hb
  have hx_w10 := block_below hb HX_W9.out (block_lt HX_W9.out)
  have hy_w10 := block_below hb HY_W9.out (block_lt HY_W9.out)
  have hc_w10 := block_below hb HC_W9.out (block_lt HC_W9.out)
  have hd_w10 := block_below hb HD_W9.out (block_lt HD_W9.out)
  have BW10 := Lib.hid bw10
  have HX_W10 := Lib.hid hx_w10
  have HY_W10 := Lib.hid hy_w10
  have HC_W10 := Lib.hid hc_w10
  have HD_W10 := Lib.hid hd_w10
  clear hd_w10 hc_w10 hy_w10 hx_w10 bw10
  clear hb
  go_wp2_with fail
  go_ret
  exact ⟨rfl, BW10.out⟩

set_option maxRecDepth 100000 in
set_option maxHeartbeats 4000000 in
theorem back_ne_s (x y : Nd) (s : ByteArray) (ao bo : Option Addr) (n c m d : Nat) (w : World) (hk : IsKs w ao n x.kids) (hm : IsKs w bo m y.kids) (hn63 : n ≤ 9223372036854775807) (hs : s.size ≤ 4294967296) (hx : checkN x = 0) (hy : checkN y = 0) (hne : x ≠ y) (hsd : decOK s) :
    Calls Try.prog 6 #[aggN x.h x.text ao n c, aggN y.h y.text bo m d, .string s] w fun e w' => e = .returned (.bool true) ∧ Below w.heap.size w w' := by
  have hxl : x.kids.length ≤ 9223372036854775807 := by rw [hk.1]; exact hn63
  have hse : ((encN x).toList == (encN y).toList) = false := by
    rw [Bool.eq_false_iff]
    intro h
    rw [beq_iff_eq, ByteArray.toList_eq, ByteArray.toList_eq] at h
    exact hne ((encode_inj hx hy).1 (ba_ext h))
  have HK := Lib.hid hk
  have HM := Lib.hid hm
  have HX := Lib.hid hx
  have HY := Lib.hid hy
  have HNE := Lib.hid hne
  have HSD := Lib.hid hsd
  clear hsd hne hy hx hm hk
  unfold aggN
  go_enter Try.func6, Try.ntmps6
  go_wp2_with fail
  refine (encode_ok x HX.out ao n c _ ((HK.out.box _).box _)).mono ?_; rintro e w1 ⟨rfl, hb⟩
  have bw1 := below_step (((Below.refl _ _).alloc (Nat.le_refl _) _).alloc (by simp) _) hb
  have hx_w1 := block_below hb (block_alloc (block_new w (.cells #[.int .i64 x.h, .string x.text, .slice ao n c] 24)) _) (block_lt (block_alloc (block_new w (.cells #[.int .i64 x.h, .string x.text, .slice ao n c] 24)) _))
  have hy_w1 := block_below hb (block_new (w.alloc (.cells #[.int .i64 x.h, .string x.text, .slice ao n c] 24)) (.cells #[.int .i64 y.h, .string y.text, .slice bo m d] 24)) (block_lt (block_new (w.alloc (.cells #[.int .i64 x.h, .string x.text, .slice ao n c] 24)) (.cells #[.int .i64 y.h, .string y.text, .slice bo m d] 24)))
  have BW1 := Lib.hid bw1
  have HX_W1 := Lib.hid hx_w1
  have HY_W1 := Lib.hid hy_w1
  clear hy_w1 hx_w1 bw1
  clear hb
  have HKx := Lib.hid (HK.out.later BW1.out)
  have HKy := Lib.hid (HM.out.later BW1.out)
  have kk := HX_W1.out
  (have q0 := block_cell kk 0; have q1 := block_cell kk 1; have q2 := block_cell kk 2; have f0 := block_free kk 0; have f1 := block_free kk 1; have f2 := block_free kk 2; have hz := block_lt kk; simp at q0 q1 q2)
  clear kk
  have kk := HY_W1.out
  (have q0 := block_cell kk 0; have q1 := block_cell kk 1; have q2 := block_cell kk 2; have f0 := block_free kk 0; have f1 := block_free kk 1; have f2 := block_free kk 2; have hz := block_lt kk; simp at q0 q1 q2)
  clear kk
  go_wp2_with fail
  refine (encode_ok y HY.out bo m d _ HKy.out).mono ?_; rintro e w2 ⟨rfl, hb⟩
  have bw2 := below_step (BW1.out) hb
  have hx_w2 := block_below hb HX_W1.out (block_lt HX_W1.out)
  have hy_w2 := block_below hb HY_W1.out (block_lt HY_W1.out)
  have BW2 := Lib.hid bw2
  have HX_W2 := Lib.hid hx_w2
  have HY_W2 := Lib.hid hy_w2
  clear hy_w2 hx_w2 bw2
  replace HKx := Lib.hid (HKx.out.later hb)
  replace HKy := Lib.hid (HKy.out.later hb)
  clear hb
  have kk := HX_W2.out
  (have q0 := block_cell kk 0; have q1 := block_cell kk 1; have q2 := block_cell kk 2; have f0 := block_free kk 0; have f1 := block_free kk 1; have f2 := block_free kk 2; have hz := block_lt kk; simp at q0 q1 q2)
  clear kk
  have kk := HY_W2.out
  (have q0 := block_cell kk 0; have q1 := block_cell kk 1; have q2 := block_cell kk 2; have f0 := block_free kk 0; have f1 := block_free kk 1; have f2 := block_free kk 2; have hz := block_lt kk; simp at q0 q1 q2)
  clear kk
  go_wp2_with fail
  refine (check_ok x HX.out ao n c _ HKx.out).mono ?_; rintro e w3 ⟨rfl, hb⟩
  have bw3 := below_step (BW2.out) hb
  have hx_w3 := block_below hb HX_W2.out (block_lt HX_W2.out)
  have hy_w3 := block_below hb HY_W2.out (block_lt HY_W2.out)
  have BW3 := Lib.hid bw3
  have HX_W3 := Lib.hid hx_w3
  have HY_W3 := Lib.hid hy_w3
  clear hy_w3 hx_w3 bw3
  replace HKx := Lib.hid (HKx.out.later hb)
  replace HKy := Lib.hid (HKy.out.later hb)
  clear hb
  have kk := HX_W3.out
  (have q0 := block_cell kk 0; have q1 := block_cell kk 1; have q2 := block_cell kk 2; have f0 := block_free kk 0; have f1 := block_free kk 1; have f2 := block_free kk 2; have hz := block_lt kk; simp at q0 q1 q2)
  clear kk
  have kk := HY_W3.out
  (have q0 := block_cell kk 0; have q1 := block_cell kk 1; have q2 := block_cell kk 2; have f0 := block_free kk 0; have f1 := block_free kk 1; have f2 := block_free kk 2; have hz := block_lt kk; simp at q0 q1 q2)
  clear kk
  go_wp2_with fail
  refine (equal_ne x y HNE.out ao bo n m c d _ HKx.out HKy.out hn63).mono ?_; rintro e w4 ⟨rfl, hb⟩
  have bw4 := below_step (BW3.out) hb
  have hx_w4 := block_below hb HX_W3.out (block_lt HX_W3.out)
  have hy_w4 := block_below hb HY_W3.out (block_lt HY_W3.out)
  have BW4 := Lib.hid bw4
  have HX_W4 := Lib.hid hx_w4
  have HY_W4 := Lib.hid hy_w4
  clear hy_w4 hx_w4 bw4
  replace HKx := Lib.hid (HKx.out.later hb)
  replace HKy := Lib.hid (HKy.out.later hb)
  clear hb
  have kk := HX_W4.out
  (have q0 := block_cell kk 0; have q1 := block_cell kk 1; have q2 := block_cell kk 2; have f0 := block_free kk 0; have f1 := block_free kk 1; have f2 := block_free kk 2; have hz := block_lt kk; simp at q0 q1 q2)
  clear kk
  have kk := HY_W4.out
  (have q0 := block_cell kk 0; have q1 := block_cell kk 1; have q2 := block_cell kk 2; have f0 := block_free kk 0; have f1 := block_free kk 1; have f2 := block_free kk 2; have hz := block_lt kk; simp at q0 q1 q2)
  clear kk
  go_wp2_with fail
  refine (decode_enc x HX.out _).mono ?_; rintro e w5 ⟨v, rfl, ⟨t, rfl, ht⟩, hb⟩
  have bw5 := below_step (BW4.out) hb
  have hx_w5 := block_below hb HX_W4.out (block_lt HX_W4.out)
  have hy_w5 := block_below hb HY_W4.out (block_lt HY_W4.out)
  have BW5 := Lib.hid bw5
  have HX_W5 := Lib.hid hx_w5
  have HY_W5 := Lib.hid hy_w5
  clear hy_w5 hx_w5 bw5
  replace HKx := Lib.hid (HKx.out.later hb)
  replace HKy := Lib.hid (HKy.out.later hb)
  clear hb
  obtain ⟨a5, c5, rfl, k5, _⟩ := ht.ks
  have K5 := Lib.hid k5
  clear k5 ht
  have kk := HX_W5.out
  (have q0 := block_cell kk 0; have q1 := block_cell kk 1; have q2 := block_cell kk 2; have f0 := block_free kk 0; have f1 := block_free kk 1; have f2 := block_free kk 2; have hz := block_lt kk; simp at q0 q1 q2)
  clear kk
  have kk := HY_W5.out
  (have q0 := block_cell kk 0; have q1 := block_cell kk 1; have q2 := block_cell kk 2; have f0 := block_free kk 0; have f1 := block_free kk 1; have f2 := block_free kk 2; have hz := block_lt kk; simp at q0 q1 q2)
  clear kk
  go_wp2_with fail
  have kk := (block_alloc HX_W5.out (.cells #[.int .i64 x.h, .string x.text, .slice a5 x.kids.length c5] 24))
  (have q0 := block_cell kk 0; have q1 := block_cell kk 1; have q2 := block_cell kk 2; have f0 := block_free kk 0; have f1 := block_free kk 1; have f2 := block_free kk 2; have hz := block_lt kk; simp at q0 q1 q2)
  clear kk
  refine (equal_yes x a5 ao _ n c5 c _ (K5.out.box _) (HKx.out.box _) hxl).mono ?_; rintro e w6 ⟨rfl, hb⟩
  have bw6 := below_step ((BW5.out).alloc BW5.out.size _) hb
  have hx_w6 := block_below hb (block_alloc HX_W5.out _) (block_lt (block_alloc HX_W5.out _))
  have hy_w6 := block_below hb (block_alloc HY_W5.out _) (block_lt (block_alloc HY_W5.out _))
  have hc_w6 := block_below hb (block_new w5 (.cells #[.int .i64 x.h, .string x.text, .slice a5 x.kids.length c5] 24)) (block_lt (block_new w5 (.cells #[.int .i64 x.h, .string x.text, .slice a5 x.kids.length c5] 24)))
  have BW6 := Lib.hid bw6
  have HX_W6 := Lib.hid hx_w6
  have HY_W6 := Lib.hid hy_w6
  have HC_W6 := Lib.hid hc_w6
  clear hc_w6 hy_w6 hx_w6 bw6
  clear hb
  have kk := HX_W6.out
  (have q0 := block_cell kk 0; have q1 := block_cell kk 1; have q2 := block_cell kk 2; have f0 := block_free kk 0; have f1 := block_free kk 1; have f2 := block_free kk 2; have hz := block_lt kk; simp at q0 q1 q2)
  clear kk
  have kk := HY_W6.out
  (have q0 := block_cell kk 0; have q1 := block_cell kk 1; have q2 := block_cell kk 2; have f0 := block_free kk 0; have f1 := block_free kk 1; have f2 := block_free kk 2; have hz := block_lt kk; simp at q0 q1 q2)
  clear kk
  go_wp2_with fail
  refine (decode_ok s hs HSD.out _).mono ?_; rintro e w7 ⟨v, rfl, ⟨t, rfl, ht⟩, hb⟩
  have bw7 := below_step (BW6.out) hb
  have hx_w7 := block_below hb HX_W6.out (block_lt HX_W6.out)
  have hy_w7 := block_below hb HY_W6.out (block_lt HY_W6.out)
  have hc_w7 := block_below hb HC_W6.out (block_lt HC_W6.out)
  have BW7 := Lib.hid bw7
  have HX_W7 := Lib.hid hx_w7
  have HY_W7 := Lib.hid hy_w7
  have HC_W7 := Lib.hid hc_w7
  clear hc_w7 hy_w7 hx_w7 bw7
  clear hb
  obtain ⟨a8, c8, rfl, k8, _⟩ := ht.ks
  have K8 := Lib.hid k8
  clear k8 ht
  go_wp2_with fail
  refine (encode_dec s HSD.out a8 _ c8 _ (K8.out.box _)).mono ?_; rintro e w8 ⟨rfl, hb⟩
  have bw8 := below_step ((BW7.out).alloc BW7.out.size _) hb
  have hx_w8 := block_below hb (block_alloc HX_W7.out _) (block_lt (block_alloc HX_W7.out _))
  have hy_w8 := block_below hb (block_alloc HY_W7.out _) (block_lt (block_alloc HY_W7.out _))
  have hc_w8 := block_below hb (block_alloc HC_W7.out _) (block_lt (block_alloc HC_W7.out _))
  have hd_w8 := block_below hb (block_new w7 (.cells #[.int .i64 (decN s).h, .string (decN s).text, .slice a8 (decN s).kids.length c8] 24)) (block_lt (block_new w7 (.cells #[.int .i64 (decN s).h, .string (decN s).text, .slice a8 (decN s).kids.length c8] 24)))
  have BW8 := Lib.hid bw8
  have HX_W8 := Lib.hid hx_w8
  have HY_W8 := Lib.hid hy_w8
  have HC_W8 := Lib.hid hc_w8
  have HD_W8 := Lib.hid hd_w8
  clear hd_w8 hc_w8 hy_w8 hx_w8 bw8
  replace K8 := Lib.hid ((K8.out.box _).later hb)
  clear hb
  have kk := HD_W8.out
  (have q0 := block_cell kk 0; have q1 := block_cell kk 1; have q2 := block_cell kk 2; have f0 := block_free kk 0; have f1 := block_free kk 1; have f2 := block_free kk 2; have hz := block_lt kk; simp at q0 q1 q2)
  clear kk
  go_wp2_with fail
  refine (check_ok (decN s) (encode_decode HSD.out).2 a8 _ c8 _ K8.out).mono ?_; rintro e w9 ⟨rfl, hb⟩
  have bw9 := below_step (BW8.out) hb
  have hx_w9 := block_below hb HX_W8.out (block_lt HX_W8.out)
  have hy_w9 := block_below hb HY_W8.out (block_lt HY_W8.out)
  have hc_w9 := block_below hb HC_W8.out (block_lt HC_W8.out)
  have hd_w9 := block_below hb HD_W8.out (block_lt HD_W8.out)
  have BW9 := Lib.hid bw9
  have HX_W9 := Lib.hid hx_w9
  have HY_W9 := Lib.hid hy_w9
  have HC_W9 := Lib.hid hc_w9
  have HD_W9 := Lib.hid hd_w9
  clear hd_w9 hc_w9 hy_w9 hx_w9 bw9
  clear hb
  go_wp2_with fail
  refine (awake_any _).mono ?_; rintro e w10 ⟨rfl, hb⟩
  have bw10 := below_step (BW9.out) hb
  have hx_w10 := block_below hb HX_W9.out (block_lt HX_W9.out)
  have hy_w10 := block_below hb HY_W9.out (block_lt HY_W9.out)
  have hc_w10 := block_below hb HC_W9.out (block_lt HC_W9.out)
  have hd_w10 := block_below hb HD_W9.out (block_lt HD_W9.out)
  have BW10 := Lib.hid bw10
  have HX_W10 := Lib.hid hx_w10
  have HY_W10 := Lib.hid hy_w10
  have HC_W10 := Lib.hid hc_w10
  have HD_W10 := Lib.hid hd_w10
  clear hd_w10 hc_w10 hy_w10 hx_w10 bw10
  clear hb
  go_wp2_with fail
  go_ret
  exact ⟨rfl, BW10.out⟩

set_option maxRecDepth 100000 in
set_option maxHeartbeats 4000000 in
theorem back_xe_n (x y : Nd) (s : ByteArray) (ao bo : Option Addr) (n c m d : Nat) (w : World) (hk : IsKs w ao n x.kids) (hm : IsKs w bo m y.kids) (hn63 : n ≤ 9223372036854775807) (hs : s.size ≤ 4294967296) (hx : checkN x ≠ 0) (hsd : ¬ decOK s) :
    Calls Try.prog 6 #[aggN x.h x.text ao n c, aggN y.h y.text bo m d, .string s] w fun e w' => e = .returned (.bool true) ∧ Below w.heap.size w w' := by
  have hxl : x.kids.length ≤ 9223372036854775807 := by rw [hk.1]; exact hn63
  have hcx : (checkN x == 0) = false := by simpa using hx
  have HK := Lib.hid hk
  have HM := Lib.hid hm
  have HX := Lib.hid hx
  have HSD := Lib.hid hsd
  clear hsd hx hm hk
  unfold aggN
  go_enter Try.func6, Try.ntmps6
  go_wp2_with fail
  refine (encode_err x HX.out ao n c _ ((HK.out.box _).box _)).mono ?_; rintro e w1 ⟨rfl, hb⟩
  have bw1 := below_step (((Below.refl _ _).alloc (Nat.le_refl _) _).alloc (by simp) _) hb
  have hx_w1 := block_below hb (block_alloc (block_new w (.cells #[.int .i64 x.h, .string x.text, .slice ao n c] 24)) _) (block_lt (block_alloc (block_new w (.cells #[.int .i64 x.h, .string x.text, .slice ao n c] 24)) _))
  have hy_w1 := block_below hb (block_new (w.alloc (.cells #[.int .i64 x.h, .string x.text, .slice ao n c] 24)) (.cells #[.int .i64 y.h, .string y.text, .slice bo m d] 24)) (block_lt (block_new (w.alloc (.cells #[.int .i64 x.h, .string x.text, .slice ao n c] 24)) (.cells #[.int .i64 y.h, .string y.text, .slice bo m d] 24)))
  have BW1 := Lib.hid bw1
  have HX_W1 := Lib.hid hx_w1
  have HY_W1 := Lib.hid hy_w1
  clear hy_w1 hx_w1 bw1
  clear hb
  have HKx := Lib.hid (HK.out.later BW1.out)
  have HKy := Lib.hid (HM.out.later BW1.out)
  have kk := HX_W1.out
  (have q0 := block_cell kk 0; have q1 := block_cell kk 1; have q2 := block_cell kk 2; have f0 := block_free kk 0; have f1 := block_free kk 1; have f2 := block_free kk 2; have hz := block_lt kk; simp at q0 q1 q2)
  clear kk
  have kk := HY_W1.out
  (have q0 := block_cell kk 0; have q1 := block_cell kk 1; have q2 := block_cell kk 2; have f0 := block_free kk 0; have f1 := block_free kk 1; have f2 := block_free kk 2; have hz := block_lt kk; simp at q0 q1 q2)
  clear kk
  go_wp2_with fail
  refine (encode_any y bo m d _ HKy.out).mono ?_; rintro e w2 ⟨rfl, hb⟩
  have bw2 := below_step (BW1.out) hb
  have hx_w2 := block_below hb HX_W1.out (block_lt HX_W1.out)
  have hy_w2 := block_below hb HY_W1.out (block_lt HY_W1.out)
  have BW2 := Lib.hid bw2
  have HX_W2 := Lib.hid hx_w2
  have HY_W2 := Lib.hid hy_w2
  clear hy_w2 hx_w2 bw2
  replace HKx := Lib.hid (HKx.out.later hb)
  replace HKy := Lib.hid (HKy.out.later hb)
  clear hb
  have kk := HX_W2.out
  (have q0 := block_cell kk 0; have q1 := block_cell kk 1; have q2 := block_cell kk 2; have f0 := block_free kk 0; have f1 := block_free kk 1; have f2 := block_free kk 2; have hz := block_lt kk; simp at q0 q1 q2)
  clear kk
  have kk := HY_W2.out
  (have q0 := block_cell kk 0; have q1 := block_cell kk 1; have q2 := block_cell kk 2; have f0 := block_free kk 0; have f1 := block_free kk 1; have f2 := block_free kk 2; have hz := block_lt kk; simp at q0 q1 q2)
  clear kk
  go_wp2_with fail
  refine (check_any x ao n c _ HKx.out).mono ?_; rintro e w3 ⟨rfl, hb⟩
  have bw3 := below_step (BW2.out) hb
  have hx_w3 := block_below hb HX_W2.out (block_lt HX_W2.out)
  have hy_w3 := block_below hb HY_W2.out (block_lt HY_W2.out)
  have BW3 := Lib.hid bw3
  have HX_W3 := Lib.hid hx_w3
  have HY_W3 := Lib.hid hy_w3
  clear hy_w3 hx_w3 bw3
  replace HKx := Lib.hid (HKx.out.later hb)
  replace HKy := Lib.hid (HKy.out.later hb)
  clear hb
  have kk := HX_W3.out
  (have q0 := block_cell kk 0; have q1 := block_cell kk 1; have q2 := block_cell kk 2; have f0 := block_free kk 0; have f1 := block_free kk 1; have f2 := block_free kk 2; have hz := block_lt kk; simp at q0 q1 q2)
  clear kk
  have kk := HY_W3.out
  (have q0 := block_cell kk 0; have q1 := block_cell kk 1; have q2 := block_cell kk 2; have f0 := block_free kk 0; have f1 := block_free kk 1; have f2 := block_free kk 2; have hz := block_lt kk; simp at q0 q1 q2)
  clear kk
  go_wp2_with fail
  refine (decode_no s hs HSD.out _).mono ?_; rintro e w4 ⟨a8, c8, rfl, hb⟩
  have bw4 := below_step (BW3.out) hb
  have hx_w4 := block_below hb HX_W3.out (block_lt HX_W3.out)
  have hy_w4 := block_below hb HY_W3.out (block_lt HY_W3.out)
  have BW4 := Lib.hid bw4
  have HX_W4 := Lib.hid hx_w4
  have HY_W4 := Lib.hid hy_w4
  clear hy_w4 hx_w4 bw4
  clear hb
  go_wp2_with fail
  refine (equal_none a8 c8 _).mono ?_; rintro e w5 ⟨rfl, hb⟩
  have bw5 := below_step ((BW4.out).alloc BW4.out.size _) hb
  have hx_w5 := block_below hb (block_alloc HX_W4.out _) (block_lt (block_alloc HX_W4.out _))
  have hy_w5 := block_below hb (block_alloc HY_W4.out _) (block_lt (block_alloc HY_W4.out _))
  have hd_w5 := block_below hb (block_new w4 (.cells #[.int .i64 0, .string ⟨#[]⟩, .slice a8 0 c8] 24)) (block_lt (block_new w4 (.cells #[.int .i64 0, .string ⟨#[]⟩, .slice a8 0 c8] 24)))
  have BW5 := Lib.hid bw5
  have HX_W5 := Lib.hid hx_w5
  have HY_W5 := Lib.hid hy_w5
  have HD_W5 := Lib.hid hd_w5
  clear hd_w5 hy_w5 hx_w5 bw5
  clear hb
  go_wp2_with fail
  refine (awake_any _).mono ?_; rintro e w6 ⟨rfl, hb⟩
  have bw6 := below_step (BW5.out) hb
  have hx_w6 := block_below hb HX_W5.out (block_lt HX_W5.out)
  have hy_w6 := block_below hb HY_W5.out (block_lt HY_W5.out)
  have hd_w6 := block_below hb HD_W5.out (block_lt HD_W5.out)
  have BW6 := Lib.hid bw6
  have HX_W6 := Lib.hid hx_w6
  have HY_W6 := Lib.hid hy_w6
  have HD_W6 := Lib.hid hd_w6
  clear hd_w6 hy_w6 hx_w6 bw6
  clear hb
  go_wp2_with fail
  go_ret
  exact ⟨rfl, BW6.out⟩

set_option maxRecDepth 100000 in
set_option maxHeartbeats 4000000 in
theorem back_ye_n (x y : Nd) (s : ByteArray) (ao bo : Option Addr) (n c m d : Nat) (w : World) (hk : IsKs w ao n x.kids) (hm : IsKs w bo m y.kids) (hn63 : n ≤ 9223372036854775807) (hs : s.size ≤ 4294967296) (hx : checkN x = 0) (hy : checkN y ≠ 0) (hsd : ¬ decOK s) :
    Calls Try.prog 6 #[aggN x.h x.text ao n c, aggN y.h y.text bo m d, .string s] w fun e w' => e = .returned (.bool true) ∧ Below w.heap.size w w' := by
  have hxl : x.kids.length ≤ 9223372036854775807 := by rw [hk.1]; exact hn63
  have hcy : (checkN y == 0) = false := by simpa using hy
  have HK := Lib.hid hk
  have HM := Lib.hid hm
  have HX := Lib.hid hx
  have HY := Lib.hid hy
  have HSD := Lib.hid hsd
  clear hsd hy hx hm hk
  unfold aggN
  go_enter Try.func6, Try.ntmps6
  go_wp2_with fail
  refine (encode_ok x HX.out ao n c _ ((HK.out.box _).box _)).mono ?_; rintro e w1 ⟨rfl, hb⟩
  have bw1 := below_step (((Below.refl _ _).alloc (Nat.le_refl _) _).alloc (by simp) _) hb
  have hx_w1 := block_below hb (block_alloc (block_new w (.cells #[.int .i64 x.h, .string x.text, .slice ao n c] 24)) _) (block_lt (block_alloc (block_new w (.cells #[.int .i64 x.h, .string x.text, .slice ao n c] 24)) _))
  have hy_w1 := block_below hb (block_new (w.alloc (.cells #[.int .i64 x.h, .string x.text, .slice ao n c] 24)) (.cells #[.int .i64 y.h, .string y.text, .slice bo m d] 24)) (block_lt (block_new (w.alloc (.cells #[.int .i64 x.h, .string x.text, .slice ao n c] 24)) (.cells #[.int .i64 y.h, .string y.text, .slice bo m d] 24)))
  have BW1 := Lib.hid bw1
  have HX_W1 := Lib.hid hx_w1
  have HY_W1 := Lib.hid hy_w1
  clear hy_w1 hx_w1 bw1
  clear hb
  have HKx := Lib.hid (HK.out.later BW1.out)
  have HKy := Lib.hid (HM.out.later BW1.out)
  have kk := HX_W1.out
  (have q0 := block_cell kk 0; have q1 := block_cell kk 1; have q2 := block_cell kk 2; have f0 := block_free kk 0; have f1 := block_free kk 1; have f2 := block_free kk 2; have hz := block_lt kk; simp at q0 q1 q2)
  clear kk
  have kk := HY_W1.out
  (have q0 := block_cell kk 0; have q1 := block_cell kk 1; have q2 := block_cell kk 2; have f0 := block_free kk 0; have f1 := block_free kk 1; have f2 := block_free kk 2; have hz := block_lt kk; simp at q0 q1 q2)
  clear kk
  go_wp2_with fail
  refine (encode_err y HY.out bo m d _ HKy.out).mono ?_; rintro e w2 ⟨rfl, hb⟩
  have bw2 := below_step (BW1.out) hb
  have hx_w2 := block_below hb HX_W1.out (block_lt HX_W1.out)
  have hy_w2 := block_below hb HY_W1.out (block_lt HY_W1.out)
  have BW2 := Lib.hid bw2
  have HX_W2 := Lib.hid hx_w2
  have HY_W2 := Lib.hid hy_w2
  clear hy_w2 hx_w2 bw2
  replace HKx := Lib.hid (HKx.out.later hb)
  replace HKy := Lib.hid (HKy.out.later hb)
  clear hb
  have kk := HX_W2.out
  (have q0 := block_cell kk 0; have q1 := block_cell kk 1; have q2 := block_cell kk 2; have f0 := block_free kk 0; have f1 := block_free kk 1; have f2 := block_free kk 2; have hz := block_lt kk; simp at q0 q1 q2)
  clear kk
  have kk := HY_W2.out
  (have q0 := block_cell kk 0; have q1 := block_cell kk 1; have q2 := block_cell kk 2; have f0 := block_free kk 0; have f1 := block_free kk 1; have f2 := block_free kk 2; have hz := block_lt kk; simp at q0 q1 q2)
  clear kk
  go_wp2_with fail
  refine (check_ok x HX.out ao n c _ HKx.out).mono ?_; rintro e w3 ⟨rfl, hb⟩
  have bw3 := below_step (BW2.out) hb
  have hx_w3 := block_below hb HX_W2.out (block_lt HX_W2.out)
  have hy_w3 := block_below hb HY_W2.out (block_lt HY_W2.out)
  have BW3 := Lib.hid bw3
  have HX_W3 := Lib.hid hx_w3
  have HY_W3 := Lib.hid hy_w3
  clear hy_w3 hx_w3 bw3
  replace HKx := Lib.hid (HKx.out.later hb)
  replace HKy := Lib.hid (HKy.out.later hb)
  clear hb
  have kk := HX_W3.out
  (have q0 := block_cell kk 0; have q1 := block_cell kk 1; have q2 := block_cell kk 2; have f0 := block_free kk 0; have f1 := block_free kk 1; have f2 := block_free kk 2; have hz := block_lt kk; simp at q0 q1 q2)
  clear kk
  have kk := HY_W3.out
  (have q0 := block_cell kk 0; have q1 := block_cell kk 1; have q2 := block_cell kk 2; have f0 := block_free kk 0; have f1 := block_free kk 1; have f2 := block_free kk 2; have hz := block_lt kk; simp at q0 q1 q2)
  clear kk
  go_wp2_with fail
  refine (decode_enc x HX.out _).mono ?_; rintro e w4 ⟨v, rfl, ⟨t, rfl, ht⟩, hb⟩
  have bw4 := below_step (BW3.out) hb
  have hx_w4 := block_below hb HX_W3.out (block_lt HX_W3.out)
  have hy_w4 := block_below hb HY_W3.out (block_lt HY_W3.out)
  have BW4 := Lib.hid bw4
  have HX_W4 := Lib.hid hx_w4
  have HY_W4 := Lib.hid hy_w4
  clear hy_w4 hx_w4 bw4
  replace HKx := Lib.hid (HKx.out.later hb)
  replace HKy := Lib.hid (HKy.out.later hb)
  clear hb
  obtain ⟨a5, c5, rfl, k5, _⟩ := ht.ks
  have K5 := Lib.hid k5
  clear k5 ht
  have kk := HX_W4.out
  (have q0 := block_cell kk 0; have q1 := block_cell kk 1; have q2 := block_cell kk 2; have f0 := block_free kk 0; have f1 := block_free kk 1; have f2 := block_free kk 2; have hz := block_lt kk; simp at q0 q1 q2)
  clear kk
  have kk := HY_W4.out
  (have q0 := block_cell kk 0; have q1 := block_cell kk 1; have q2 := block_cell kk 2; have f0 := block_free kk 0; have f1 := block_free kk 1; have f2 := block_free kk 2; have hz := block_lt kk; simp at q0 q1 q2)
  clear kk
  go_wp2_with fail
  have kk := (block_alloc HX_W4.out (.cells #[.int .i64 x.h, .string x.text, .slice a5 x.kids.length c5] 24))
  (have q0 := block_cell kk 0; have q1 := block_cell kk 1; have q2 := block_cell kk 2; have f0 := block_free kk 0; have f1 := block_free kk 1; have f2 := block_free kk 2; have hz := block_lt kk; simp at q0 q1 q2)
  clear kk
  refine (equal_yes x a5 ao _ n c5 c _ (K5.out.box _) (HKx.out.box _) hxl).mono ?_; rintro e w5 ⟨rfl, hb⟩
  have bw5 := below_step ((BW4.out).alloc BW4.out.size _) hb
  have hx_w5 := block_below hb (block_alloc HX_W4.out _) (block_lt (block_alloc HX_W4.out _))
  have hy_w5 := block_below hb (block_alloc HY_W4.out _) (block_lt (block_alloc HY_W4.out _))
  have hc_w5 := block_below hb (block_new w4 (.cells #[.int .i64 x.h, .string x.text, .slice a5 x.kids.length c5] 24)) (block_lt (block_new w4 (.cells #[.int .i64 x.h, .string x.text, .slice a5 x.kids.length c5] 24)))
  have BW5 := Lib.hid bw5
  have HX_W5 := Lib.hid hx_w5
  have HY_W5 := Lib.hid hy_w5
  have HC_W5 := Lib.hid hc_w5
  clear hc_w5 hy_w5 hx_w5 bw5
  clear hb
  have kk := HX_W5.out
  (have q0 := block_cell kk 0; have q1 := block_cell kk 1; have q2 := block_cell kk 2; have f0 := block_free kk 0; have f1 := block_free kk 1; have f2 := block_free kk 2; have hz := block_lt kk; simp at q0 q1 q2)
  clear kk
  have kk := HY_W5.out
  (have q0 := block_cell kk 0; have q1 := block_cell kk 1; have q2 := block_cell kk 2; have f0 := block_free kk 0; have f1 := block_free kk 1; have f2 := block_free kk 2; have hz := block_lt kk; simp at q0 q1 q2)
  clear kk
  go_wp2_with fail
  refine (decode_no s hs HSD.out _).mono ?_; rintro e w6 ⟨a8, c8, rfl, hb⟩
  have bw6 := below_step (BW5.out) hb
  have hx_w6 := block_below hb HX_W5.out (block_lt HX_W5.out)
  have hy_w6 := block_below hb HY_W5.out (block_lt HY_W5.out)
  have hc_w6 := block_below hb HC_W5.out (block_lt HC_W5.out)
  have BW6 := Lib.hid bw6
  have HX_W6 := Lib.hid hx_w6
  have HY_W6 := Lib.hid hy_w6
  have HC_W6 := Lib.hid hc_w6
  clear hc_w6 hy_w6 hx_w6 bw6
  clear hb
  go_wp2_with fail
  refine (equal_none a8 c8 _).mono ?_; rintro e w7 ⟨rfl, hb⟩
  have bw7 := below_step ((BW6.out).alloc BW6.out.size _) hb
  have hx_w7 := block_below hb (block_alloc HX_W6.out _) (block_lt (block_alloc HX_W6.out _))
  have hy_w7 := block_below hb (block_alloc HY_W6.out _) (block_lt (block_alloc HY_W6.out _))
  have hc_w7 := block_below hb (block_alloc HC_W6.out _) (block_lt (block_alloc HC_W6.out _))
  have hd_w7 := block_below hb (block_new w6 (.cells #[.int .i64 0, .string ⟨#[]⟩, .slice a8 0 c8] 24)) (block_lt (block_new w6 (.cells #[.int .i64 0, .string ⟨#[]⟩, .slice a8 0 c8] 24)))
  have BW7 := Lib.hid bw7
  have HX_W7 := Lib.hid hx_w7
  have HY_W7 := Lib.hid hy_w7
  have HC_W7 := Lib.hid hc_w7
  have HD_W7 := Lib.hid hd_w7
  clear hd_w7 hc_w7 hy_w7 hx_w7 bw7
  clear hb
  go_wp2_with fail
  refine (awake_any _).mono ?_; rintro e w8 ⟨rfl, hb⟩
  have bw8 := below_step (BW7.out) hb
  have hx_w8 := block_below hb HX_W7.out (block_lt HX_W7.out)
  have hy_w8 := block_below hb HY_W7.out (block_lt HY_W7.out)
  have hc_w8 := block_below hb HC_W7.out (block_lt HC_W7.out)
  have hd_w8 := block_below hb HD_W7.out (block_lt HD_W7.out)
  have BW8 := Lib.hid bw8
  have HX_W8 := Lib.hid hx_w8
  have HY_W8 := Lib.hid hy_w8
  have HC_W8 := Lib.hid hc_w8
  have HD_W8 := Lib.hid hd_w8
  clear hd_w8 hc_w8 hy_w8 hx_w8 bw8
  clear hb
  go_wp2_with fail
  go_ret
  exact ⟨rfl, BW8.out⟩

set_option maxRecDepth 100000 in
set_option maxHeartbeats 4000000 in
theorem back_eq_n (x : Nd) (s : ByteArray) (ao bo : Option Addr) (n c m d : Nat) (w : World) (hk : IsKs w ao n x.kids) (hm : IsKs w bo m x.kids) (hn63 : n ≤ 9223372036854775807) (hs : s.size ≤ 4294967296) (hx : checkN x = 0) (hy : checkN x = 0) (hsd : ¬ decOK s) :
    Calls Try.prog 6 #[aggN x.h x.text ao n c, aggN x.h x.text bo m d, .string s] w fun e w' => e = .returned (.bool true) ∧ Below w.heap.size w w' := by
  have hxl : x.kids.length ≤ 9223372036854775807 := by rw [hk.1]; exact hn63
  have HK := Lib.hid hk
  have HM := Lib.hid hm
  have HX := Lib.hid hx
  have HY := Lib.hid hy
  have HSD := Lib.hid hsd
  clear hsd hy hx hm hk
  unfold aggN
  go_enter Try.func6, Try.ntmps6
  go_wp2_with fail
  refine (encode_ok x HX.out ao n c _ ((HK.out.box _).box _)).mono ?_; rintro e w1 ⟨rfl, hb⟩
  have bw1 := below_step (((Below.refl _ _).alloc (Nat.le_refl _) _).alloc (by simp) _) hb
  have hx_w1 := block_below hb (block_alloc (block_new w (.cells #[.int .i64 x.h, .string x.text, .slice ao n c] 24)) _) (block_lt (block_alloc (block_new w (.cells #[.int .i64 x.h, .string x.text, .slice ao n c] 24)) _))
  have hy_w1 := block_below hb (block_new (w.alloc (.cells #[.int .i64 x.h, .string x.text, .slice ao n c] 24)) (.cells #[.int .i64 x.h, .string x.text, .slice bo m d] 24)) (block_lt (block_new (w.alloc (.cells #[.int .i64 x.h, .string x.text, .slice ao n c] 24)) (.cells #[.int .i64 x.h, .string x.text, .slice bo m d] 24)))
  have BW1 := Lib.hid bw1
  have HX_W1 := Lib.hid hx_w1
  have HY_W1 := Lib.hid hy_w1
  clear hy_w1 hx_w1 bw1
  clear hb
  have HKx := Lib.hid (HK.out.later BW1.out)
  have HKy := Lib.hid (HM.out.later BW1.out)
  have kk := HX_W1.out
  (have q0 := block_cell kk 0; have q1 := block_cell kk 1; have q2 := block_cell kk 2; have f0 := block_free kk 0; have f1 := block_free kk 1; have f2 := block_free kk 2; have hz := block_lt kk; simp at q0 q1 q2)
  clear kk
  have kk := HY_W1.out
  (have q0 := block_cell kk 0; have q1 := block_cell kk 1; have q2 := block_cell kk 2; have f0 := block_free kk 0; have f1 := block_free kk 1; have f2 := block_free kk 2; have hz := block_lt kk; simp at q0 q1 q2)
  clear kk
  go_wp2_with fail
  refine (encode_ok x HY.out bo m d _ HKy.out).mono ?_; rintro e w2 ⟨rfl, hb⟩
  have bw2 := below_step (BW1.out) hb
  have hx_w2 := block_below hb HX_W1.out (block_lt HX_W1.out)
  have hy_w2 := block_below hb HY_W1.out (block_lt HY_W1.out)
  have BW2 := Lib.hid bw2
  have HX_W2 := Lib.hid hx_w2
  have HY_W2 := Lib.hid hy_w2
  clear hy_w2 hx_w2 bw2
  replace HKx := Lib.hid (HKx.out.later hb)
  replace HKy := Lib.hid (HKy.out.later hb)
  clear hb
  have kk := HX_W2.out
  (have q0 := block_cell kk 0; have q1 := block_cell kk 1; have q2 := block_cell kk 2; have f0 := block_free kk 0; have f1 := block_free kk 1; have f2 := block_free kk 2; have hz := block_lt kk; simp at q0 q1 q2)
  clear kk
  have kk := HY_W2.out
  (have q0 := block_cell kk 0; have q1 := block_cell kk 1; have q2 := block_cell kk 2; have f0 := block_free kk 0; have f1 := block_free kk 1; have f2 := block_free kk 2; have hz := block_lt kk; simp at q0 q1 q2)
  clear kk
  go_wp2_with fail
  refine (check_ok x HX.out ao n c _ HKx.out).mono ?_; rintro e w3 ⟨rfl, hb⟩
  have bw3 := below_step (BW2.out) hb
  have hx_w3 := block_below hb HX_W2.out (block_lt HX_W2.out)
  have hy_w3 := block_below hb HY_W2.out (block_lt HY_W2.out)
  have BW3 := Lib.hid bw3
  have HX_W3 := Lib.hid hx_w3
  have HY_W3 := Lib.hid hy_w3
  clear hy_w3 hx_w3 bw3
  replace HKx := Lib.hid (HKx.out.later hb)
  replace HKy := Lib.hid (HKy.out.later hb)
  clear hb
  have kk := HX_W3.out
  (have q0 := block_cell kk 0; have q1 := block_cell kk 1; have q2 := block_cell kk 2; have f0 := block_free kk 0; have f1 := block_free kk 1; have f2 := block_free kk 2; have hz := block_lt kk; simp at q0 q1 q2)
  clear kk
  have kk := HY_W3.out
  (have q0 := block_cell kk 0; have q1 := block_cell kk 1; have q2 := block_cell kk 2; have f0 := block_free kk 0; have f1 := block_free kk 1; have f2 := block_free kk 2; have hz := block_lt kk; simp at q0 q1 q2)
  clear kk
  go_wp2_with fail
  refine (equal_yes x ao bo n m c d _ HKx.out HKy.out hn63).mono ?_; rintro e w4 ⟨rfl, hb⟩
  have bw4 := below_step (BW3.out) hb
  have hx_w4 := block_below hb HX_W3.out (block_lt HX_W3.out)
  have hy_w4 := block_below hb HY_W3.out (block_lt HY_W3.out)
  have BW4 := Lib.hid bw4
  have HX_W4 := Lib.hid hx_w4
  have HY_W4 := Lib.hid hy_w4
  clear hy_w4 hx_w4 bw4
  replace HKx := Lib.hid (HKx.out.later hb)
  replace HKy := Lib.hid (HKy.out.later hb)
  clear hb
  have kk := HX_W4.out
  (have q0 := block_cell kk 0; have q1 := block_cell kk 1; have q2 := block_cell kk 2; have f0 := block_free kk 0; have f1 := block_free kk 1; have f2 := block_free kk 2; have hz := block_lt kk; simp at q0 q1 q2)
  clear kk
  have kk := HY_W4.out
  (have q0 := block_cell kk 0; have q1 := block_cell kk 1; have q2 := block_cell kk 2; have f0 := block_free kk 0; have f1 := block_free kk 1; have f2 := block_free kk 2; have hz := block_lt kk; simp at q0 q1 q2)
  clear kk
  go_wp2_with fail
  refine (decode_enc x HX.out _).mono ?_; rintro e w5 ⟨v, rfl, ⟨t, rfl, ht⟩, hb⟩
  have bw5 := below_step (BW4.out) hb
  have hx_w5 := block_below hb HX_W4.out (block_lt HX_W4.out)
  have hy_w5 := block_below hb HY_W4.out (block_lt HY_W4.out)
  have BW5 := Lib.hid bw5
  have HX_W5 := Lib.hid hx_w5
  have HY_W5 := Lib.hid hy_w5
  clear hy_w5 hx_w5 bw5
  replace HKx := Lib.hid (HKx.out.later hb)
  replace HKy := Lib.hid (HKy.out.later hb)
  clear hb
  obtain ⟨a5, c5, rfl, k5, _⟩ := ht.ks
  have K5 := Lib.hid k5
  clear k5 ht
  have kk := HX_W5.out
  (have q0 := block_cell kk 0; have q1 := block_cell kk 1; have q2 := block_cell kk 2; have f0 := block_free kk 0; have f1 := block_free kk 1; have f2 := block_free kk 2; have hz := block_lt kk; simp at q0 q1 q2)
  clear kk
  have kk := HY_W5.out
  (have q0 := block_cell kk 0; have q1 := block_cell kk 1; have q2 := block_cell kk 2; have f0 := block_free kk 0; have f1 := block_free kk 1; have f2 := block_free kk 2; have hz := block_lt kk; simp at q0 q1 q2)
  clear kk
  go_wp2_with fail
  have kk := (block_alloc HX_W5.out (.cells #[.int .i64 x.h, .string x.text, .slice a5 x.kids.length c5] 24))
  (have q0 := block_cell kk 0; have q1 := block_cell kk 1; have q2 := block_cell kk 2; have f0 := block_free kk 0; have f1 := block_free kk 1; have f2 := block_free kk 2; have hz := block_lt kk; simp at q0 q1 q2)
  clear kk
  refine (equal_yes x a5 ao _ n c5 c _ (K5.out.box _) (HKx.out.box _) hxl).mono ?_; rintro e w6 ⟨rfl, hb⟩
  have bw6 := below_step ((BW5.out).alloc BW5.out.size _) hb
  have hx_w6 := block_below hb (block_alloc HX_W5.out _) (block_lt (block_alloc HX_W5.out _))
  have hy_w6 := block_below hb (block_alloc HY_W5.out _) (block_lt (block_alloc HY_W5.out _))
  have hc_w6 := block_below hb (block_new w5 (.cells #[.int .i64 x.h, .string x.text, .slice a5 x.kids.length c5] 24)) (block_lt (block_new w5 (.cells #[.int .i64 x.h, .string x.text, .slice a5 x.kids.length c5] 24)))
  have BW6 := Lib.hid bw6
  have HX_W6 := Lib.hid hx_w6
  have HY_W6 := Lib.hid hy_w6
  have HC_W6 := Lib.hid hc_w6
  clear hc_w6 hy_w6 hx_w6 bw6
  clear hb
  have kk := HX_W6.out
  (have q0 := block_cell kk 0; have q1 := block_cell kk 1; have q2 := block_cell kk 2; have f0 := block_free kk 0; have f1 := block_free kk 1; have f2 := block_free kk 2; have hz := block_lt kk; simp at q0 q1 q2)
  clear kk
  have kk := HY_W6.out
  (have q0 := block_cell kk 0; have q1 := block_cell kk 1; have q2 := block_cell kk 2; have f0 := block_free kk 0; have f1 := block_free kk 1; have f2 := block_free kk 2; have hz := block_lt kk; simp at q0 q1 q2)
  clear kk
  go_wp2_with fail
  refine (decode_no s hs HSD.out _).mono ?_; rintro e w7 ⟨a8, c8, rfl, hb⟩
  have bw7 := below_step (BW6.out) hb
  have hx_w7 := block_below hb HX_W6.out (block_lt HX_W6.out)
  have hy_w7 := block_below hb HY_W6.out (block_lt HY_W6.out)
  have hc_w7 := block_below hb HC_W6.out (block_lt HC_W6.out)
  have BW7 := Lib.hid bw7
  have HX_W7 := Lib.hid hx_w7
  have HY_W7 := Lib.hid hy_w7
  have HC_W7 := Lib.hid hc_w7
  clear hc_w7 hy_w7 hx_w7 bw7
  clear hb
  go_wp2_with fail
  refine (equal_none a8 c8 _).mono ?_; rintro e w8 ⟨rfl, hb⟩
  have bw8 := below_step ((BW7.out).alloc BW7.out.size _) hb
  have hx_w8 := block_below hb (block_alloc HX_W7.out _) (block_lt (block_alloc HX_W7.out _))
  have hy_w8 := block_below hb (block_alloc HY_W7.out _) (block_lt (block_alloc HY_W7.out _))
  have hc_w8 := block_below hb (block_alloc HC_W7.out _) (block_lt (block_alloc HC_W7.out _))
  have hd_w8 := block_below hb (block_new w7 (.cells #[.int .i64 0, .string ⟨#[]⟩, .slice a8 0 c8] 24)) (block_lt (block_new w7 (.cells #[.int .i64 0, .string ⟨#[]⟩, .slice a8 0 c8] 24)))
  have BW8 := Lib.hid bw8
  have HX_W8 := Lib.hid hx_w8
  have HY_W8 := Lib.hid hy_w8
  have HC_W8 := Lib.hid hc_w8
  have HD_W8 := Lib.hid hd_w8
  clear hd_w8 hc_w8 hy_w8 hx_w8 bw8
  clear hb
  go_wp2_with fail
  refine (awake_any _).mono ?_; rintro e w9 ⟨rfl, hb⟩
  have bw9 := below_step (BW8.out) hb
  have hx_w9 := block_below hb HX_W8.out (block_lt HX_W8.out)
  have hy_w9 := block_below hb HY_W8.out (block_lt HY_W8.out)
  have hc_w9 := block_below hb HC_W8.out (block_lt HC_W8.out)
  have hd_w9 := block_below hb HD_W8.out (block_lt HD_W8.out)
  have BW9 := Lib.hid bw9
  have HX_W9 := Lib.hid hx_w9
  have HY_W9 := Lib.hid hy_w9
  have HC_W9 := Lib.hid hc_w9
  have HD_W9 := Lib.hid hd_w9
  clear hd_w9 hc_w9 hy_w9 hx_w9 bw9
  clear hb
  go_wp2_with fail
  go_ret
  exact ⟨rfl, BW9.out⟩

set_option maxRecDepth 100000 in
set_option maxHeartbeats 4000000 in
theorem back_ne_n (x y : Nd) (s : ByteArray) (ao bo : Option Addr) (n c m d : Nat) (w : World) (hk : IsKs w ao n x.kids) (hm : IsKs w bo m y.kids) (hn63 : n ≤ 9223372036854775807) (hs : s.size ≤ 4294967296) (hx : checkN x = 0) (hy : checkN y = 0) (hne : x ≠ y) (hsd : ¬ decOK s) :
    Calls Try.prog 6 #[aggN x.h x.text ao n c, aggN y.h y.text bo m d, .string s] w fun e w' => e = .returned (.bool true) ∧ Below w.heap.size w w' := by
  have hxl : x.kids.length ≤ 9223372036854775807 := by rw [hk.1]; exact hn63
  have hse : ((encN x).toList == (encN y).toList) = false := by
    rw [Bool.eq_false_iff]
    intro h
    rw [beq_iff_eq, ByteArray.toList_eq, ByteArray.toList_eq] at h
    exact hne ((encode_inj hx hy).1 (ba_ext h))
  have HK := Lib.hid hk
  have HM := Lib.hid hm
  have HX := Lib.hid hx
  have HY := Lib.hid hy
  have HNE := Lib.hid hne
  have HSD := Lib.hid hsd
  clear hsd hne hy hx hm hk
  unfold aggN
  go_enter Try.func6, Try.ntmps6
  go_wp2_with fail
  refine (encode_ok x HX.out ao n c _ ((HK.out.box _).box _)).mono ?_; rintro e w1 ⟨rfl, hb⟩
  have bw1 := below_step (((Below.refl _ _).alloc (Nat.le_refl _) _).alloc (by simp) _) hb
  have hx_w1 := block_below hb (block_alloc (block_new w (.cells #[.int .i64 x.h, .string x.text, .slice ao n c] 24)) _) (block_lt (block_alloc (block_new w (.cells #[.int .i64 x.h, .string x.text, .slice ao n c] 24)) _))
  have hy_w1 := block_below hb (block_new (w.alloc (.cells #[.int .i64 x.h, .string x.text, .slice ao n c] 24)) (.cells #[.int .i64 y.h, .string y.text, .slice bo m d] 24)) (block_lt (block_new (w.alloc (.cells #[.int .i64 x.h, .string x.text, .slice ao n c] 24)) (.cells #[.int .i64 y.h, .string y.text, .slice bo m d] 24)))
  have BW1 := Lib.hid bw1
  have HX_W1 := Lib.hid hx_w1
  have HY_W1 := Lib.hid hy_w1
  clear hy_w1 hx_w1 bw1
  clear hb
  have HKx := Lib.hid (HK.out.later BW1.out)
  have HKy := Lib.hid (HM.out.later BW1.out)
  have kk := HX_W1.out
  (have q0 := block_cell kk 0; have q1 := block_cell kk 1; have q2 := block_cell kk 2; have f0 := block_free kk 0; have f1 := block_free kk 1; have f2 := block_free kk 2; have hz := block_lt kk; simp at q0 q1 q2)
  clear kk
  have kk := HY_W1.out
  (have q0 := block_cell kk 0; have q1 := block_cell kk 1; have q2 := block_cell kk 2; have f0 := block_free kk 0; have f1 := block_free kk 1; have f2 := block_free kk 2; have hz := block_lt kk; simp at q0 q1 q2)
  clear kk
  go_wp2_with fail
  refine (encode_ok y HY.out bo m d _ HKy.out).mono ?_; rintro e w2 ⟨rfl, hb⟩
  have bw2 := below_step (BW1.out) hb
  have hx_w2 := block_below hb HX_W1.out (block_lt HX_W1.out)
  have hy_w2 := block_below hb HY_W1.out (block_lt HY_W1.out)
  have BW2 := Lib.hid bw2
  have HX_W2 := Lib.hid hx_w2
  have HY_W2 := Lib.hid hy_w2
  clear hy_w2 hx_w2 bw2
  replace HKx := Lib.hid (HKx.out.later hb)
  replace HKy := Lib.hid (HKy.out.later hb)
  clear hb
  have kk := HX_W2.out
  (have q0 := block_cell kk 0; have q1 := block_cell kk 1; have q2 := block_cell kk 2; have f0 := block_free kk 0; have f1 := block_free kk 1; have f2 := block_free kk 2; have hz := block_lt kk; simp at q0 q1 q2)
  clear kk
  have kk := HY_W2.out
  (have q0 := block_cell kk 0; have q1 := block_cell kk 1; have q2 := block_cell kk 2; have f0 := block_free kk 0; have f1 := block_free kk 1; have f2 := block_free kk 2; have hz := block_lt kk; simp at q0 q1 q2)
  clear kk
  go_wp2_with fail
  refine (check_ok x HX.out ao n c _ HKx.out).mono ?_; rintro e w3 ⟨rfl, hb⟩
  have bw3 := below_step (BW2.out) hb
  have hx_w3 := block_below hb HX_W2.out (block_lt HX_W2.out)
  have hy_w3 := block_below hb HY_W2.out (block_lt HY_W2.out)
  have BW3 := Lib.hid bw3
  have HX_W3 := Lib.hid hx_w3
  have HY_W3 := Lib.hid hy_w3
  clear hy_w3 hx_w3 bw3
  replace HKx := Lib.hid (HKx.out.later hb)
  replace HKy := Lib.hid (HKy.out.later hb)
  clear hb
  have kk := HX_W3.out
  (have q0 := block_cell kk 0; have q1 := block_cell kk 1; have q2 := block_cell kk 2; have f0 := block_free kk 0; have f1 := block_free kk 1; have f2 := block_free kk 2; have hz := block_lt kk; simp at q0 q1 q2)
  clear kk
  have kk := HY_W3.out
  (have q0 := block_cell kk 0; have q1 := block_cell kk 1; have q2 := block_cell kk 2; have f0 := block_free kk 0; have f1 := block_free kk 1; have f2 := block_free kk 2; have hz := block_lt kk; simp at q0 q1 q2)
  clear kk
  go_wp2_with fail
  refine (equal_ne x y HNE.out ao bo n m c d _ HKx.out HKy.out hn63).mono ?_; rintro e w4 ⟨rfl, hb⟩
  have bw4 := below_step (BW3.out) hb
  have hx_w4 := block_below hb HX_W3.out (block_lt HX_W3.out)
  have hy_w4 := block_below hb HY_W3.out (block_lt HY_W3.out)
  have BW4 := Lib.hid bw4
  have HX_W4 := Lib.hid hx_w4
  have HY_W4 := Lib.hid hy_w4
  clear hy_w4 hx_w4 bw4
  replace HKx := Lib.hid (HKx.out.later hb)
  replace HKy := Lib.hid (HKy.out.later hb)
  clear hb
  have kk := HX_W4.out
  (have q0 := block_cell kk 0; have q1 := block_cell kk 1; have q2 := block_cell kk 2; have f0 := block_free kk 0; have f1 := block_free kk 1; have f2 := block_free kk 2; have hz := block_lt kk; simp at q0 q1 q2)
  clear kk
  have kk := HY_W4.out
  (have q0 := block_cell kk 0; have q1 := block_cell kk 1; have q2 := block_cell kk 2; have f0 := block_free kk 0; have f1 := block_free kk 1; have f2 := block_free kk 2; have hz := block_lt kk; simp at q0 q1 q2)
  clear kk
  go_wp2_with fail
  refine (decode_enc x HX.out _).mono ?_; rintro e w5 ⟨v, rfl, ⟨t, rfl, ht⟩, hb⟩
  have bw5 := below_step (BW4.out) hb
  have hx_w5 := block_below hb HX_W4.out (block_lt HX_W4.out)
  have hy_w5 := block_below hb HY_W4.out (block_lt HY_W4.out)
  have BW5 := Lib.hid bw5
  have HX_W5 := Lib.hid hx_w5
  have HY_W5 := Lib.hid hy_w5
  clear hy_w5 hx_w5 bw5
  replace HKx := Lib.hid (HKx.out.later hb)
  replace HKy := Lib.hid (HKy.out.later hb)
  clear hb
  obtain ⟨a5, c5, rfl, k5, _⟩ := ht.ks
  have K5 := Lib.hid k5
  clear k5 ht
  have kk := HX_W5.out
  (have q0 := block_cell kk 0; have q1 := block_cell kk 1; have q2 := block_cell kk 2; have f0 := block_free kk 0; have f1 := block_free kk 1; have f2 := block_free kk 2; have hz := block_lt kk; simp at q0 q1 q2)
  clear kk
  have kk := HY_W5.out
  (have q0 := block_cell kk 0; have q1 := block_cell kk 1; have q2 := block_cell kk 2; have f0 := block_free kk 0; have f1 := block_free kk 1; have f2 := block_free kk 2; have hz := block_lt kk; simp at q0 q1 q2)
  clear kk
  go_wp2_with fail
  have kk := (block_alloc HX_W5.out (.cells #[.int .i64 x.h, .string x.text, .slice a5 x.kids.length c5] 24))
  (have q0 := block_cell kk 0; have q1 := block_cell kk 1; have q2 := block_cell kk 2; have f0 := block_free kk 0; have f1 := block_free kk 1; have f2 := block_free kk 2; have hz := block_lt kk; simp at q0 q1 q2)
  clear kk
  refine (equal_yes x a5 ao _ n c5 c _ (K5.out.box _) (HKx.out.box _) hxl).mono ?_; rintro e w6 ⟨rfl, hb⟩
  have bw6 := below_step ((BW5.out).alloc BW5.out.size _) hb
  have hx_w6 := block_below hb (block_alloc HX_W5.out _) (block_lt (block_alloc HX_W5.out _))
  have hy_w6 := block_below hb (block_alloc HY_W5.out _) (block_lt (block_alloc HY_W5.out _))
  have hc_w6 := block_below hb (block_new w5 (.cells #[.int .i64 x.h, .string x.text, .slice a5 x.kids.length c5] 24)) (block_lt (block_new w5 (.cells #[.int .i64 x.h, .string x.text, .slice a5 x.kids.length c5] 24)))
  have BW6 := Lib.hid bw6
  have HX_W6 := Lib.hid hx_w6
  have HY_W6 := Lib.hid hy_w6
  have HC_W6 := Lib.hid hc_w6
  clear hc_w6 hy_w6 hx_w6 bw6
  clear hb
  have kk := HX_W6.out
  (have q0 := block_cell kk 0; have q1 := block_cell kk 1; have q2 := block_cell kk 2; have f0 := block_free kk 0; have f1 := block_free kk 1; have f2 := block_free kk 2; have hz := block_lt kk; simp at q0 q1 q2)
  clear kk
  have kk := HY_W6.out
  (have q0 := block_cell kk 0; have q1 := block_cell kk 1; have q2 := block_cell kk 2; have f0 := block_free kk 0; have f1 := block_free kk 1; have f2 := block_free kk 2; have hz := block_lt kk; simp at q0 q1 q2)
  clear kk
  go_wp2_with fail
  refine (decode_no s hs HSD.out _).mono ?_; rintro e w7 ⟨a8, c8, rfl, hb⟩
  have bw7 := below_step (BW6.out) hb
  have hx_w7 := block_below hb HX_W6.out (block_lt HX_W6.out)
  have hy_w7 := block_below hb HY_W6.out (block_lt HY_W6.out)
  have hc_w7 := block_below hb HC_W6.out (block_lt HC_W6.out)
  have BW7 := Lib.hid bw7
  have HX_W7 := Lib.hid hx_w7
  have HY_W7 := Lib.hid hy_w7
  have HC_W7 := Lib.hid hc_w7
  clear hc_w7 hy_w7 hx_w7 bw7
  clear hb
  go_wp2_with fail
  refine (equal_none a8 c8 _).mono ?_; rintro e w8 ⟨rfl, hb⟩
  have bw8 := below_step ((BW7.out).alloc BW7.out.size _) hb
  have hx_w8 := block_below hb (block_alloc HX_W7.out _) (block_lt (block_alloc HX_W7.out _))
  have hy_w8 := block_below hb (block_alloc HY_W7.out _) (block_lt (block_alloc HY_W7.out _))
  have hc_w8 := block_below hb (block_alloc HC_W7.out _) (block_lt (block_alloc HC_W7.out _))
  have hd_w8 := block_below hb (block_new w7 (.cells #[.int .i64 0, .string ⟨#[]⟩, .slice a8 0 c8] 24)) (block_lt (block_new w7 (.cells #[.int .i64 0, .string ⟨#[]⟩, .slice a8 0 c8] 24)))
  have BW8 := Lib.hid bw8
  have HX_W8 := Lib.hid hx_w8
  have HY_W8 := Lib.hid hy_w8
  have HC_W8 := Lib.hid hc_w8
  have HD_W8 := Lib.hid hd_w8
  clear hd_w8 hc_w8 hy_w8 hx_w8 bw8
  clear hb
  go_wp2_with fail
  refine (awake_any _).mono ?_; rintro e w9 ⟨rfl, hb⟩
  have bw9 := below_step (BW8.out) hb
  have hx_w9 := block_below hb HX_W8.out (block_lt HX_W8.out)
  have hy_w9 := block_below hb HY_W8.out (block_lt HY_W8.out)
  have hc_w9 := block_below hb HC_W8.out (block_lt HC_W8.out)
  have hd_w9 := block_below hb HD_W8.out (block_lt HD_W8.out)
  have BW9 := Lib.hid bw9
  have HX_W9 := Lib.hid hx_w9
  have HY_W9 := Lib.hid hy_w9
  have HC_W9 := Lib.hid hc_w9
  have HD_W9 := Lib.hid hd_w9
  clear hd_w9 hc_w9 hy_w9 hx_w9 bw9
  clear hb
  go_wp2_with fail
  go_ret
  exact ⟨rfl, BW9.out⟩

theorem walk_back (x y : Nd) (s : ByteArray) (ao bo : Option Addr) (n c m d : Nat) (w : World) (hk : IsKs w ao n x.kids) (hm : IsKs w bo m y.kids) (hn63 : n ≤ 9223372036854775807) (hs : s.size ≤ 4294967296) :
    Calls Try.prog 6 #[aggN x.h x.text ao n c, aggN y.h y.text bo m d, .string s] w fun e w' => e = .returned (.bool true) ∧ Below w.heap.size w w' := by
  by_cases hsd : decOK s
  · by_cases hx : checkN x = 0
    · by_cases hy : checkN y = 0
      · by_cases e : x = y
        · subst e; exact back_eq_s x s ao bo n c m d w hk hm hn63 hs hx hy hsd
        · exact back_ne_s x y s ao bo n c m d w hk hm hn63 hs hx hy e hsd
      · exact back_ye_s x y s ao bo n c m d w hk hm hn63 hs hx hy hsd
    · exact back_xe_s x y s ao bo n c m d w hk hm hn63 hs hx hsd
  · by_cases hx : checkN x = 0
    · by_cases hy : checkN y = 0
      · by_cases e : x = y
        · subst e; exact back_eq_n x s ao bo n c m d w hk hm hn63 hs hx hy hsd
        · exact back_ne_n x y s ao bo n c m d w hk hm hn63 hs hx hy e hsd
      · exact back_ye_n x y s ao bo n c m d w hk hm hn63 hs hx hy hsd
    · exact back_xe_n x y s ao bo n c m d w hk hm hn63 hs hx hsd
end Go.Proofs.Ytbodacjhhkjdfaa
