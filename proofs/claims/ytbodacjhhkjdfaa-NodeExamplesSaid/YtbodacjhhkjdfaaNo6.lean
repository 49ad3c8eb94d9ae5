/- The laws NodeDecodes and NodeBack: their walks. -/
import Derived.Test.YtbodacjhhkjdfaaNo3
import Derived.Test.YtbodacjhhkjdfaaNo4
import Derived.Test.YtbodacjhhkjdfaaNo5
import Derived.Test.YtbodacjhhkjdfaaNz
namespace Go.Proofs.Ytbodacjhhkjdfaa
open Go.RowKit

theorem OwnKs.box2 {base : Nat} {w : World} {v : Value} {n : Nat} {l : List Kid} (h : OwnKs base w v n l) (O : Obj) : OwnKs base (w.alloc O) v n l := ⟨h.1, h.2.1, h.2.2.alloc O⟩
theorem ownKs_block {base : Nat} {w : World} {a : Option Addr} {n m c : Nat} {l : List Kid} (h : OwnKs base w (.slice a m c) n l) : ∀ q o, a = some ⟨q, o, none⟩ → base ≤ q ∧ q < w.heap.size := by
  rintro q o rfl
  obtain ⟨_, _, _, h⟩ := h
  rcases h with ⟨e, _⟩ | ⟨g, cap, cur, e, hg, hh, _⟩
  · injection e with e; cases e
  · injection e with e
    injection e with e
    injection e with e
    subst e
    exact ⟨hg, block_lt hh⟩
theorem isKs_same {w w' : World} {a : Option Addr} {n : Nat} {l : List Kid} (h : IsKs w a n l) (hq : ∀ q o, a = some ⟨q, o, none⟩ → w'.heap[q]? = w.heap[q]?) : IsKs w' a n l := by
  obtain ⟨h1, h2, h3⟩ := h
  refine ⟨h1, h2, fun hn => ?_⟩
  obtain ⟨b, off, e, h4⟩ := h3 hn
  refine ⟨b, off, e, fun k hk => ?_⟩
  have hc : ∀ o, w'.cell? ⟨b, o, none⟩ = w.cell? ⟨b, o, none⟩ := fun o => World.cell?_of_block (w := w) (a := ⟨b, o, none⟩) (hq b off e)
  obtain ⟨c0, c1, c2, c3⟩ := h4 k hk
  exact ⟨(hc _).trans c0, (hc _).trans c1, (hc _).trans c2, (hc _).trans c3⟩
theorem decN_len (s : ByteArray) (hs : s.size ≤ 4294967296) : (decN s).kids.length ≤ 9223372036854775807 := by
  unfold decN
  by_cases h : decOK s
  · rw [if_pos h]
    unfold decX
    by_cases c : hdN s = 0
    · rw [if_pos c]; exact Nat.zero_le _
    · rw [if_neg c]; show (kidsTo s _).length ≤ _; rw [kidsTo_len]; omega
  · rw [if_neg h]; exact Nat.zero_le _

set_option maxRecDepth 100000 in
set_option maxHeartbeats 4000000 in
theorem walk_decodes (s : ByteArray) (w : World) (hs : s.size ≤ 4294967296) :
    Calls Try.prog 4 #[.string s] w fun e w' => e = .returned (.bool true) ∧ Below w.heap.size w w' := by
  have hXn := decN_len s hs
  go_enter Try.func4, Try.ntmps4
  go_wp2_with fail
  refine (decode_any s _ hs).mono ?_; rintro e w1 ⟨v, rfl, ⟨t, rfl, ht⟩, hb⟩
  have bw1 := below_step (Below.refl _ _) hb
  have BW1 := Lib.hid bw1
  clear bw1
  clear hb
  obtain ⟨a1, c1, rfl, k1, _, hg1⟩ := ht.ks
  have K1 := Lib.hid k1
  have HT := Lib.hid ht
  have HG1 := Lib.hid (show ∀ q o, a1 = some ⟨q, o, none⟩ → 0 < (decN s).kids.length → q < w1.heap.size from fun q o e h => by obtain ⟨g, e1, _, hg⟩ := hg1 h; rw [e] at e1; injection e1 with e1; injection e1 with e1; omega)
  have HG1n := Lib.hid (show ∀ q o, a1 = some ⟨q, o, none⟩ → w.heap.size ≤ q ∧ q < w1.heap.size from ownKs_block HT.out)
  clear k1 ht hg1
  go_wp2_with fail
  refine (refDecode_any s _ hs).mono ?_; rintro e w2 ⟨v, rfl, ⟨t, rfl, ht⟩, hb⟩
  have bw2 := below_step ((BW1.out).alloc BW1.out.size _) hb
  have ha_w2 := block_below hb (block_new w1 (.cells #[.int .i64 (decN s).h, .string (decN s).text, .slice a1 (decN s).kids.length c1] 24)) (block_lt (block_new w1 (.cells #[.int .i64 (decN s).h, .string (decN s).text, .slice a1 (decN s).kids.length c1] 24)))
  have BW2 := Lib.hid bw2
  have HA_W2 := Lib.hid ha_w2
  clear ha_w2 bw2
  replace K1 := Lib.hid ((K1.out.box _).later hb)
  replace HT := Lib.hid ((OwnKs.box2 HT.out _).later hb)
  have hsz12 := hb.size
  clear hb
  obtain ⟨a2, c2, rfl, k2, _, hg2⟩ := ht.ks
  have K2 := Lib.hid k2
  have HG2 := Lib.hid (show ∀ q o, a2 = some ⟨q, o, none⟩ → w1.heap.size ≤ q ∧ q < w2.heap.size from fun q o e => by obtain ⟨x, y⟩ := ownKs_block ht q o e; simp at x; omega)
  clear k2 ht hg2
  simp at hsz12
  have kk := HA_W2.out
  (have q0 := block_cell kk 0; have q1 := block_cell kk 1; have q2 := block_cell kk 2; have f0 := block_free kk 0; have f1 := block_free kk 1; have f2 := block_free kk 2; have hz := block_lt kk; simp at q0 q1 q2)
  clear kk
  go_wp2_with fail
  refine (equalNode_any (decN s) (decN s) a1 a2 _ _ c1 c2 _ (K1.out.box _) (K2.out.box _) hXn).mono ?_; rintro e w3 ⟨rfl, hb⟩
  have bw3 := below_step ((BW2.out).alloc BW2.out.size _) hb
  have ha_w3 := block_below hb (block_alloc HA_W2.out _) (block_lt (block_alloc HA_W2.out _))
  have hb2_w3 := block_below hb (block_new w2 (.cells #[.int .i64 (decN s).h, .string (decN s).text, .slice a2 (decN s).kids.length c2] 24)) (block_lt (block_new w2 (.cells #[.int .i64 (decN s).h, .string (decN s).text, .slice a2 (decN s).kids.length c2] 24)))
  have BW3 := Lib.hid bw3
  have HA_W3 := Lib.hid ha_w3
  have HB2_W3 := Lib.hid hb2_w3
  clear hb2_w3 ha_w3 bw3
  replace K2 := Lib.hid ((K2.out.box _).later hb)
  replace HT := Lib.hid ((OwnKs.box2 HT.out _).later hb)
  have hsz23 := hb.size
  simp at hsz23
  clear hb
  rw [decide_eq_true rfl]
  have kk := HA_W3.out
  (have q0 := block_cell kk 0; have q1 := block_cell kk 1; have q2 := block_cell kk 2; have f0 := block_free kk 0; have f1 := block_free kk 1; have f2 := block_free kk 2; have hz := block_lt kk; simp at q0 q1 q2)
  clear kk
  go_wp2_with fail
  refine (spoil_fine _ _ _ _ c1 a1 _ w.heap.size _ rfl BW3.out.size HT.out hXn).mono ?_; rintro e w4 ⟨rfl, hb, hq⟩
  have BW4 := Lib.hid (BW3.out.trans hb)
  have hb2_w4 := (hq w2.heap.size (block_lt HB2_W3.out) (fun o e => by have := (HG1n.out _ o e).2; omega)).trans HB2_W3.out
  have K4 := Lib.hid (isKs_same K2.out (fun q o e => hq q (by have := (HG2.out q o e).2; omega) (fun o' e' => by have h1 := (HG1n.out q o' e').2; have h2 := (HG2.out q o e).1; omega)))
  have HB2_W4 := Lib.hid hb2_w4
  clear hb hq hb2_w4
  go_wp2_with fail
  refine (decode_any s _ hs).mono ?_; rintro e w5 ⟨v, rfl, ⟨t, rfl, ht⟩, hb⟩
  have bw5 := below_step (BW4.out) hb
  have hb2_w5 := block_below hb HB2_W4.out (block_lt HB2_W4.out)
  have BW5 := Lib.hid bw5
  have HB2_W5 := Lib.hid hb2_w5
  clear hb2_w5 bw5
  have K5 := Lib.hid (K4.out.later hb)
  clear hb
  obtain ⟨a3, c3, rfl, k3, _⟩ := ht.ks
  have K3 := Lib.hid k3
  clear k3 ht
  have kk := HB2_W5.out
  (have q0 := block_cell kk 0; have q1 := block_cell kk 1; have q2 := block_cell kk 2; have f0 := block_free kk 0; have f1 := block_free kk 1; have f2 := block_free kk 2; have hz := block_lt kk; simp at q0 q1 q2)
  clear kk
  go_wp2_with fail
  have kk := (block_alloc HB2_W5.out (.cells #[.int .i64 (decN s).h, .string (decN s).text, .slice a3 (decN s).kids.length c3] 24))
  (have q0 := block_cell kk 0; have q1 := block_cell kk 1; have q2 := block_cell kk 2; have f0 := block_free kk 0; have f1 := block_free kk 1; have f2 := block_free kk 2; have hz := block_lt kk; simp at q0 q1 q2)
  clear kk
  refine (equalNode_any (decN s) (decN s) a3 a2 _ _ c3 c2 _ (K3.out.box _) (K5.out.box _) hXn).mono ?_; rintro e w6 ⟨rfl, hb⟩
  have bw6 := below_step ((BW5.out).alloc BW5.out.size _) hb
  have hb2_w6 := block_below hb (block_alloc HB2_W5.out _) (block_lt (block_alloc HB2_W5.out _))
  have hc_w6 := block_below hb (block_new w5 (.cells #[.int .i64 (decN s).h, .string (decN s).text, .slice a3 (decN s).kids.length c3] 24)) (block_lt (block_new w5 (.cells #[.int .i64 (decN s).h, .string (decN s).text, .slice a3 (decN s).kids.length c3] 24)))
  have BW6 := Lib.hid bw6
  have HB2_W6 := Lib.hid hb2_w6
  have HC_W6 := Lib.hid hc_w6
  clear hc_w6 hb2_w6 bw6
  clear hb
  rw [decide_eq_true rfl]
  go_wp2_with fail
  refine (awake_any _).mono ?_; rintro e w7 ⟨rfl, hb⟩
  have bw7 := below_step (BW6.out) hb
  have hb2_w7 := block_below hb HB2_W6.out (block_lt HB2_W6.out)
  have hc_w7 := block_below hb HC_W6.out (block_lt HC_W6.out)
  have BW7 := Lib.hid bw7
  have HB2_W7 := Lib.hid hb2_w7
  have HC_W7 := Lib.hid hc_w7
  clear hc_w7 hb2_w7 bw7
  clear hb
  go_wp2_with fail
  go_ret
  exact ⟨rfl, BW7.out⟩
end Go.Proofs.Ytbodacjhhkjdfaa
