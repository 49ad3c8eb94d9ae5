/- The law NodeMakes: its walk. -/
import Derived.Test.YtbodacjhhkjdfaaNy
namespace Go.Proofs.Ytbodacjhhkjdfaa
open Go.RowKit

theorem OwnKs.box {base : Nat} {w : World} {v : Value} {n : Nat} {l : List Kid} (h : OwnKs base w v n l) (O : Obj) : OwnKs base (w.alloc O) v n l := ⟨h.1, h.2.1, h.2.2.alloc O⟩
theorem resN_len (x : Nd) (n : Nat) (h : x.kids.length = n) (hn : n ≤ 9223372036854775807) : (resN x).kids.length ≤ 9223372036854775807 := by
  unfold resN
  by_cases c : checkN x = 0
  · rw [if_pos c, h]; exact hn
  · rw [if_neg c]; exact Nat.zero_le _

set_option maxRecDepth 100000 in
set_option maxHeartbeats 8000000 in
theorem walk_makes (s : ByteArray) (h0 : Int) (l : List Kid) (ao : Option Addr) (n c : Nat) (w : World) (hk : IsKs w ao n l) (hreach : n * 32 ≤ 140737488351232) :
    Calls Try.prog 10 #[.string s, .int .i64 h0, .slice ao n c] w fun e w' => e = .returned (.bool true) ∧ Below w.heap.size w w' := by
  have hn63 : n ≤ 9223372036854775807 := by omega
  have hXn : (resN ⟨0, s, []⟩).kids.length ≤ 9223372036854775807 := resN_len _ 0 rfl (by omega)
  have hYn : (resN ⟨h0, ⟨#[]⟩, l⟩).kids.length ≤ 9223372036854775807 := resN_len _ n hk.1 hn63
  have HK := Lib.hid hk
  clear hk
  go_enter Try.func10, Try.ntmps10
  go_wp2_with fail
  refine (leaf_any s _).mono ?_; rintro e w1 ⟨v, rfl, ⟨t, rfl, ht⟩, hb⟩
  have bw1 := below_step (Below.refl _ _) hb
  have BW1 := Lib.hid bw1
  clear bw1
  clear hb
  obtain ⟨a1, c1, rfl, k1, _⟩ := ht.ks
  have K1 := Lib.hid k1
  clear k1 ht
  go_wp2_with fail
  refine (refLeaf_any s _).mono ?_; rintro e w2 ⟨v, rfl, ⟨t, rfl, ht⟩, hb⟩
  have bw2 := below_step ((BW1.out).alloc BW1.out.size _) hb
  have ha_w2 := block_below hb (block_new w1 (.cells #[.int .i64 (resN ⟨0, s, []⟩).h, .string (resN ⟨0, s, []⟩).text, .slice a1 (resN ⟨0, s, []⟩).kids.length c1] 24)) (block_lt (block_new w1 (.cells #[.int .i64 (resN ⟨0, s, []⟩).h, .string (resN ⟨0, s, []⟩).text, .slice a1 (resN ⟨0, s, []⟩).kids.length c1] 24)))
  have BW2 := Lib.hid bw2
  have HA_W2 := Lib.hid ha_w2
  clear ha_w2 bw2
  replace K1 := Lib.hid ((K1.out.box _).later hb)
  clear hb
  obtain ⟨a2, c2, rfl, k2, _⟩ := ht.ks
  have K2 := Lib.hid k2
  clear k2 ht
  have kk := HA_W2.out
  (have q0 := block_cell kk 0; have q1 := block_cell kk 1; have q2 := block_cell kk 2; have f0 := block_free kk 0; have f1 := block_free kk 1; have f2 := block_free kk 2; have hz := block_lt kk; simp at q0 q1 q2)
  clear kk
  go_wp2_with fail
  refine (equalNode_any (resN ⟨0, s, []⟩) (resN ⟨0, s, []⟩) a1 a2 _ _ c1 c2 _ (K1.out.box _) (K2.out.box _) hXn).mono ?_; rintro e w3 ⟨rfl, hb⟩
  have bw3 := below_step ((BW2.out).alloc BW2.out.size _) hb
  have ha_w3 := block_below hb (block_alloc HA_W2.out _) (block_lt (block_alloc HA_W2.out _))
  have hb2_w3 := block_below hb (block_new w2 (.cells #[.int .i64 (resN ⟨0, s, []⟩).h, .string (resN ⟨0, s, []⟩).text, .slice a2 (resN ⟨0, s, []⟩).kids.length c2] 24)) (block_lt (block_new w2 (.cells #[.int .i64 (resN ⟨0, s, []⟩).h, .string (resN ⟨0, s, []⟩).text, .slice a2 (resN ⟨0, s, []⟩).kids.length c2] 24)))
  have BW3 := Lib.hid bw3
  have HA_W3 := Lib.hid ha_w3
  have HB2_W3 := Lib.hid hb2_w3
  clear hb2_w3 ha_w3 bw3
  clear hb
  rw [decide_eq_true rfl]
  go_wp2_with fail
  refine (copyKids_any l ao n c _ ((((HK.out.later BW3.out)))) hreach).mono ?_; rintro e w4 ⟨v, rfl, ht, hb⟩
  have bw4 := below_step (BW3.out) hb
  have ha_w4 := block_below hb HA_W3.out (block_lt HA_W3.out)
  have hb2_w4 := block_below hb HB2_W3.out (block_lt HB2_W3.out)
  have BW4 := Lib.hid bw4
  have HA_W4 := Lib.hid ha_w4
  have HB2_W4 := Lib.hid hb2_w4
  clear hb2_w4 ha_w4 bw4
  clear hb
  obtain ⟨a3, c3, rfl, k3, hno3, hg3⟩ := ht.ks
  have K3 := Lib.hid k3
  have HG3 := Lib.hid (show 0 < n → ∃ g, a3 = some ⟨g, 0, none⟩ ∧ g < w4.heap.size from fun h => by obtain ⟨g, e, _, hg⟩ := hg3 h; exact ⟨g, e, hg⟩)
  have HNO3 := Lib.hid (fun e => (hno3 e).2)
  clear k3 ht hno3 hg3
  go_wp2_with fail
  refine (inner_make h0 l a3 n c3 _ K3.out HNO3.out hreach).mono ?_; rintro e w5 ⟨v, rfl, ⟨t, rfl, ht⟩, hb⟩
  have HS5 := Lib.hid (hb.size)
  have bw5 := below_step (BW4.out) hb
  have ha_w5 := block_below hb HA_W4.out (block_lt HA_W4.out)
  have hb2_w5 := block_below hb HB2_W4.out (block_lt HB2_W4.out)
  have BW5 := Lib.hid bw5
  have HA_W5 := Lib.hid ha_w5
  have HB2_W5 := Lib.hid hb2_w5
  clear hb2_w5 ha_w5 bw5
  replace K3 := Lib.hid (K3.out.later hb)
  clear hb
  obtain ⟨a4, c4, rfl, k4, _⟩ := ht.ks
  have K4 := Lib.hid k4
  have HT := Lib.hid ht
  clear k4 ht
  go_wp2_with fail
  refine (refInner_make h0 l ao n c _ ((HK.out.later BW5.out).box _) hreach).mono ?_; rintro e w6 ⟨v, rfl, ⟨t, rfl, ht⟩, hb⟩
  have HS6 := Lib.hid (Nat.le_trans HS5.out (Nat.le_trans (by simp) hb.size))
  have bw6 := below_step ((BW5.out).alloc BW5.out.size _) hb
  have ha_w6 := block_below hb (block_alloc HA_W5.out _) (block_lt (block_alloc HA_W5.out _))
  have hb2_w6 := block_below hb (block_alloc HB2_W5.out _) (block_lt (block_alloc HB2_W5.out _))
  have hc_w6 := block_below hb (block_new w5 (.cells #[.int .i64 (resN ⟨h0, ⟨#[]⟩, l⟩).h, .string (resN ⟨h0, ⟨#[]⟩, l⟩).text, .slice a4 (resN ⟨h0, ⟨#[]⟩, l⟩).kids.length c4] 24)) (block_lt (block_new w5 (.cells #[.int .i64 (resN ⟨h0, ⟨#[]⟩, l⟩).h, .string (resN ⟨h0, ⟨#[]⟩, l⟩).text, .slice a4 (resN ⟨h0, ⟨#[]⟩, l⟩).kids.length c4] 24)))
  have BW6 := Lib.hid bw6
  have HA_W6 := Lib.hid ha_w6
  have HB2_W6 := Lib.hid hb2_w6
  have HC_W6 := Lib.hid hc_w6
  clear hc_w6 hb2_w6 ha_w6 bw6
  replace K3 := Lib.hid ((K3.out.box _).later hb)
  replace K4 := Lib.hid ((K4.out.box _).later hb)
  replace HT := Lib.hid ((OwnKs.box HT.out _).later hb)
  clear hb
  obtain ⟨a5, c5, rfl, k5, _⟩ := ht.ks
  have K5 := Lib.hid k5
  clear k5 ht
  have kk := HC_W6.out
  (have q0 := block_cell kk 0; have q1 := block_cell kk 1; have q2 := block_cell kk 2; have f0 := block_free kk 0; have f1 := block_free kk 1; have f2 := block_free kk 2; have hz := block_lt kk; simp at q0 q1 q2)
  clear kk
  go_wp2_with fail
  refine (equalNode_any (resN ⟨h0, ⟨#[]⟩, l⟩) (resN ⟨h0, ⟨#[]⟩, l⟩) a4 a5 _ _ c4 c5 _ (K4.out.box _) (K5.out.box _) hYn).mono ?_; rintro e w7 ⟨rfl, hb⟩
  have HS7 := Lib.hid (Nat.le_trans HS6.out (Nat.le_trans (by simp) hb.size))
  have bw7 := below_step ((BW6.out).alloc BW6.out.size _) hb
  have ha_w7 := block_below hb (block_alloc HA_W6.out _) (block_lt (block_alloc HA_W6.out _))
  have hb2_w7 := block_below hb (block_alloc HB2_W6.out _) (block_lt (block_alloc HB2_W6.out _))
  have hc_w7 := block_below hb (block_alloc HC_W6.out _) (block_lt (block_alloc HC_W6.out _))
  have hd_w7 := block_below hb (block_new w6 (.cells #[.int .i64 (resN ⟨h0, ⟨#[]⟩, l⟩).h, .string (resN ⟨h0, ⟨#[]⟩, l⟩).text, .slice a5 (resN ⟨h0, ⟨#[]⟩, l⟩).kids.length c5] 24)) (block_lt (block_new w6 (.cells #[.int .i64 (resN ⟨h0, ⟨#[]⟩, l⟩).h, .string (resN ⟨h0, ⟨#[]⟩, l⟩).text, .slice a5 (resN ⟨h0, ⟨#[]⟩, l⟩).kids.length c5] 24)))
  have BW7 := Lib.hid bw7
  have HA_W7 := Lib.hid ha_w7
  have HB2_W7 := Lib.hid hb2_w7
  have HC_W7 := Lib.hid hc_w7
  have HD_W7 := Lib.hid hd_w7
  clear hd_w7 hc_w7 hb2_w7 ha_w7 bw7
  replace K3 := Lib.hid ((K3.out.box _).later hb)
  replace HT := Lib.hid ((OwnKs.box HT.out _).later hb)
  clear hb
  rw [decide_eq_true rfl]
  have kk := HC_W7.out
  (have q0 := block_cell kk 0; have q1 := block_cell kk 1; have q2 := block_cell kk 2; have f0 := block_free kk 0; have f1 := block_free kk 1; have f2 := block_free kk 2; have hz := block_lt kk; simp at q0 q1 q2)
  clear kk
  go_wp2_with fail
  refine (spoil_any _ _ _ _ c4 a4 _ w4.heap.size _ rfl HS7.out HT.out hYn).mono ?_; rintro e w8 ⟨rfl, hb⟩
  have K6 := Lib.hid (K3.out.below hb (fun b o e h => by obtain ⟨g, e1, hg⟩ := HG3.out h; rw [e] at e1; injection e1 with e1; injection e1 with e1; omega))
  have BW8 := Lib.hid (BW7.out.trans (hb.mono BW4.out.size))
  clear hb
  go_wp2_with fail
  refine (equalKids_any l l a3 ao n n c3 c _ K6.out (HK.out.later BW8.out) hn63).mono ?_; rintro e w9 ⟨rfl, hb⟩
  rw [decide_eq_true rfl]
  have BW9 := Lib.hid (below_step BW8.out hb)
  clear hb
  go_wp2_with fail
  refine (awake_any _).mono ?_; rintro e w10 ⟨rfl, hb⟩
  have BW10 := Lib.hid (below_step BW9.out hb)
  clear hb
  go_wp2_with fail
  go_ret
  exact ⟨rfl, BW10.out⟩
end Go.Proofs.Ytbodacjhhkjdfaa
