/- The freelist: the law FreelistStack. -/
import Derived.Test.YtpcpjmgkdbgopaaDoorGf
namespace Go.Proofs.YtpcpjmgkdbgopaaDoor
open Go.RowKit

/-- the top slot of the stack -/
def topS (x : FL) : Nat := x.sk (x.m - 1)
theorem top_live {x : FL} (hf : FInv x) (hm : x.m ≠ 0) : liveL (takeL x) (hMk (topS x) (x.gn (topS x))) := by
  have hl := hf.lo (x.m - 1) (by omega)
  refine (liveL_mk (mkOK_of hf hl.1)).2 ⟨hl.1, ?_, rfl⟩
  show updN x.st (x.sk (x.m - 1)) 1 (x.sk (x.m - 1)) = 1
  exact updN_same _ _ _
theorem top_slot {x : FL} (hf : FInv x) (hm : x.m ≠ 0) : slotOf (hMk (topS x) (x.gn (topS x))) = topS x := slotOf_mk (mkOK_of hf (hf.lo (x.m - 1) (by omega)).1)
theorem top_last {x : FL} (hf : FInv x) (hm : x.m ≠ 0) (hg : x.gn (topS x) = x.most) : giveR (takeL x) (hMk (topS x) (x.gn (topS x))) = (true, 0) ∧ giveS (takeL x) (hMk (topS x) (x.gn (topS x))) = giveL (takeL x) (topS x) := by
  unfold giveR giveS
  rw [if_pos (top_live hf hm), if_pos (top_live hf hm), top_slot hf hm]
  exact ⟨by rw [show decide ((takeL x).gn (topS x) = (takeL x).most) = true from decide_eq_true hg], rfl⟩
theorem top_push {x : FL} (hf : FInv x) (hm : x.m ≠ 0) (hg : x.gn (topS x) ≠ x.most) : giveR (takeL x) (hMk (topS x) (x.gn (topS x))) = (false, 0) ∧ giveS (takeL x) (hMk (topS x) (x.gn (topS x))) = giveL (takeL x) (topS x) := by
  unfold giveR giveS
  rw [if_pos (top_live hf hm), if_pos (top_live hf hm), top_slot hf hm]
  exact ⟨by rw [show decide ((takeL x).gn (topS x) = (takeL x).most) = false from decide_eq_false hg], rfl⟩
theorem last_free {x : FL} (hg : x.gn (topS x) = x.most) : (giveL (takeL x) (topS x)).m = (takeL x).m ∧ ∀ i, freeF (giveL (takeL x) (topS x)) i = freeF (takeL x) i := by
  have e : giveL (takeL x) (topS x) = { takeL x with st := updN (takeL x).st (topS x) 2 } := by unfold giveL; exact if_pos hg
  rw [e]
  exact ⟨rfl, fun _ => rfl⟩
theorem push_take {x : FL} (hg : x.gn (topS x) ≠ x.most) :
    takeR (giveL (takeL x) (topS x)) = (hMk (topS x) (x.gn (topS x) + 1), 0) ∧ (takeS (giveL (takeL x) (topS x))).m = (takeL x).m ∧ ∀ i, i < (takeL x).m → freeF (takeS (giveL (takeL x) (topS x))) i = freeF (takeL x) i := by
  have e : giveL (takeL x) (topS x) = { takeL x with m := (takeL x).m + 1, sk := updN (takeL x).sk (takeL x).m (topS x), st := updN (takeL x).st (topS x) 0, gn := updN (takeL x).gn (topS x) ((takeL x).gn (topS x) + 1) } := by unfold giveL; exact if_neg hg
  rw [e]
  refine ⟨?_, rfl, fun i hi => ?_⟩
  · show (hMk (updN x.sk (x.m - 1) (topS x) (x.m - 1 + 1 - 1)) (updN x.gn (topS x) (x.gn (topS x) + 1) (updN x.sk (x.m - 1) (topS x) (x.m - 1 + 1 - 1))), (0 : Int)) = _
    rw [show x.m - 1 + 1 - 1 = x.m - 1 by omega, updN_same, updN_same]
  · have hi' : i < x.m - 1 := hi
    show updN x.sk (x.m - 1) (topS x) (x.m - 1 + 1 - 1 - 1 - i) = x.sk (x.m - 1 - 1 - i)
    rw [show x.m - 1 + 1 - 1 - 1 - i = x.m - 1 - 1 - i by omega, updN_other _ (by omega)]

theorem Rs.keepL {w w' : World} {B : Nat} {t : TypeId} {v : Value} {n : Nat} {f : Nat → Value} {b : LB} (h : Rs w B t v n f) (hb : b.p < B ∧ b.s < B ∧ b.t < B ∧ b.g < B) (k : KeepL b w w') : Rs w' B t v n f := by
  obtain ⟨ao, c, rfl, h⟩ := h
  refine ⟨ao, c, rfl, fun hn => ?_⟩
  obtain ⟨q, cap, e, hB, ha⟩ := h hn
  exact ⟨q, cap, e, hB, ha.keep (k.2 q ha.lt (by omega) (by omega) (by omega) (by omega))⟩
theorem IsL.lts {w : World} {b : LB} {x : FL} (h : IsL w b x) : b.p < w.heap.size ∧ b.s < w.heap.size ∧ b.t < w.heap.size ∧ b.g < w.heap.size := ⟨block_lt h.1, h.2.1.lt, h.2.2.1.lt, h.2.2.2.lt⟩
theorem free_solo {w0 w : World} {b : LB} {x : FL} (h : Solo w0 w b x) : Calls Tryd.prog 21 #[.pointer (some ⟨b.p, 0, none⟩)] w fun e w' => NewFs w x e w' :=
  free_any b x w h.1 (Nat.le_trans h.2.1.mn h.2.1.n2)

set_option maxRecDepth 100000 in
set_option maxHeartbeats 8000000 in
theorem stack_any (n g : Int) (ao : Option Addr) (len cap : Nat) (l : List Dd) (w : World) (hr : IsR ddF w ao len l) (hlen : len ≤ 9223372036854775807) :
    Calls Tryd.prog 9 #[.int .i64 n, .int .i64 g, .slice ao len cap] w fun e w' => e = .returned (.bool true) ∧ Below w.heap.size w w' := by
  obtain ⟨a, ha, hna⟩ := mod_nat n 8 (by decide)
  obtain ⟨c, hc, hgc⟩ := mod_nat g 4 (by decide)
  have HRUN := Lib.hid (run_any n g ao len cap l w a c hna hgc hr hlen)
  clear hna hgc hr
  go_enter Tryd.func9, Tryd.ntmps9
  go_wp2_with fail
  refine HRUN.out.mono ?_; rintro e w1 hh
  obtain ⟨b, x, v, hs, rfl, hso, -, -, -, -, -⟩ := hh
  have HQ := Lib.hid hso
  clear hso HRUN
  have hta := take_any b x w1 HQ.out.1 HQ.out.2.1
  rcases take_two x HQ.out.2.1 with ⟨hm0, htr, hts⟩ | ⟨hm0, htr, hts, hth⟩
  · rw [htr, hts] at hta
    have HTA := Lib.hid hta
    clear hta htr hts
    go_wp2_with fail
    refine HTA.out.mono ?_; rintro e w2 ⟨rfl, t1, k1⟩
    have HQ2 := Lib.hid (HQ.out.turn HQ.out.2.1 t1 k1)
    clear t1 k1
    go_wp2_with fail
    refine (free_solo HQ2.out).mono ?_; rintro e w3 ⟨va, rfl, ra, ba⟩
    obtain ⟨ao1, ca, rfl, -⟩ := ra
    have HQ3 := Lib.hid (HQ2.out.below ba)
    rw [hm0]
    clear ba
    go_wp2_with fail
    refine (awake_any _).mono ?_; rintro e w6 ⟨rfl, hb⟩
    have HB := Lib.hid (HQ3.out.below hb).2.2.2
    clear hb
    go_wp2_with fail
    go_ret
    exact ⟨rfl, HB.out⟩
  · have HFT := Lib.hid (takeL_inv HQ.out.2.1 (Nat.pos_of_ne_zero hm0))
    have hmx : (takeL x).m ≤ 9223372036854775807 := by have := HFT.out.mn; have := HFT.out.n2; omega
    have HTH := Lib.hid hth
    rw [htr, hts] at hta
    have HTA := Lib.hid hta
    have hgl : x.gn (topS x) ≤ x.most := (HQ.out.2.1.gn _ (HQ.out.2.1.lo (x.m - 1) (by omega)).1).2
    have hml := HQ.out.2.1.g2
    have HRG := Lib.hid (hMk_le hth)
    clear hta htr hts
    by_cases hg : x.gn (topS x) = x.most
    · have HLF := Lib.hid (last_free hg)
      have HGR := Lib.hid (top_last HQ.out.2.1 hm0 hg)
      have HGI := Lib.hid (giveS_inv HFT.out (hMk (topS x) (x.gn (topS x))))
      rw [HGR.out.2] at HGI
      have hga := fun w hl => give_any b (takeL x) (hMk (topS x) (x.gn (topS x))) w HRG.out.1 HRG.out.2 hl HFT.out
      rw [HGR.out.1, HGR.out.2] at hga
      have HGA := Lib.hid hga
      clear hga hm0 hg hth
      go_wp2_with fail
      refine HTA.out.mono ?_; rintro e w2 ⟨rfl, t1, k1⟩
      have HQ2 := Lib.hid (HQ.out.turn HFT.out t1 k1)
      clear t1 k1
      go_wp2_with fail
      refine (free_solo HQ2.out).mono ?_; rintro e w3 ⟨va, rfl, ra, ba⟩
      have HQ3 := Lib.hid (HQ2.out.below ba)
      have RA := Lib.hid ra
      clear ra ba
      go_wp2_with fail
      refine (HGA.out w3 HQ3.out.1).mono ?_; rintro e w4 ⟨rfl, t1, k1⟩
      have HQ4 := Lib.hid (HQ3.out.turn HGI.out t1 k1)
      have RA4 := Lib.hid (RA.out.keepL HQ2.out.1.lts k1)
      clear t1 k1
      go_wp2_with fail
      refine (free_solo HQ4.out).mono ?_; rintro e w5 ⟨vb, rfl, rb, bb⟩
      have HQF := Lib.hid (HQ4.out.below bb)
      have RAF := Lib.hid (RA4.out.keep bb (Nat.le_refl _)).sl
      rw [HLF.out.1] at rb
      have RBF := Lib.hid rb.sl
      clear rb bb
      go_wp2_with fail
      refine (equalInts_eq w5 vb va (takeL x).m (freeF (giveL (takeL x) (topS x))) (freeF (takeL x)) RBF.out RAF.out hmx (fun i _ => HLF.out.2 i)).mono ?_; rintro e w7 ⟨rfl, m7, rfl⟩
      have QQ := Lib.hid (HQF.out.drewN m7)
      generalize w5.drewN m7 = w7 at *
      go_wp2_with fail
      refine (awake_any _).mono ?_; rintro e w8 ⟨rfl, hb⟩
      have HB := Lib.hid (QQ.out.below hb).2.2.2
      clear hb
      go_wp2_with fail
      go_ret
      exact ⟨rfl, HB.out⟩
    · have hg2 : x.gn (topS x) < 4294967295 := by omega
      have HLF := Lib.hid (push_take hg)
      have HNX := Lib.hid (next_ok (topS x) (x.gn (topS x)) · hth hg2)
      have HGR := Lib.hid (top_push HQ.out.2.1 hm0 hg)
      have HGI := Lib.hid (giveS_inv HFT.out (hMk (topS x) (x.gn (topS x))))
      rw [HGR.out.2] at HGI
      have HTI := Lib.hid (takeS_inv HGI.out)
      have hga := fun w hl => give_any b (takeL x) (hMk (topS x) (x.gn (topS x))) w HRG.out.1 HRG.out.2 hl HFT.out
      rw [HGR.out.1, HGR.out.2] at hga
      have HGA := Lib.hid hga
      have htb := fun w hl => take_any b (giveL (takeL x) (topS x)) w hl HGI.out
      rw [HLF.out.1] at htb
      have HTB := Lib.hid htb
      clear hga hm0 hg hth htb
      go_wp2_with fail
      refine HTA.out.mono ?_; rintro e w2 ⟨rfl, t1, k1⟩
      have HQ2 := Lib.hid (HQ.out.turn HFT.out t1 k1)
      clear t1 k1
      go_wp2_with fail
      refine (free_solo HQ2.out).mono ?_; rintro e w3 ⟨va, rfl, ra, ba⟩
      have HQ3 := Lib.hid (HQ2.out.below ba)
      have RA := Lib.hid ra
      have HLT := Lib.hid HQ2.out.1.lts
      clear ra ba
      go_wp2_with fail
      refine (HGA.out w3 HQ3.out.1).mono ?_; rintro e w4 ⟨rfl, t1, k1⟩
      have HQ4 := Lib.hid (HQ3.out.turn HGI.out t1 k1)
      have RA4 := Lib.hid (RA.out.keepL HLT.out k1)
      clear t1 k1
      go_wp2_with fail
      refine (HTB.out w4 HQ4.out.1).mono ?_; rintro e w5 ⟨rfl, t1, k1⟩
      have HQ5 := Lib.hid (HQ4.out.turn HTI.out t1 k1)
      have RA5 := Lib.hid (RA4.out.keepL HLT.out k1)
      clear t1 k1
      go_wp2_with fail
      refine (HNX.out _).mono ?_; rintro e w5' ⟨rfl, rfl⟩
      go_wp2_with fail
      refine (free_solo HQ5.out).mono ?_; rintro e w6 ⟨vb, rfl, rb, bb⟩
      have HQF := Lib.hid (HQ5.out.below bb)
      have RAF := Lib.hid (RA5.out.keep bb (Nat.le_refl _)).sl
      rw [HLF.out.2.1] at rb
      have RBF := Lib.hid rb.sl
      clear rb bb
      go_wp2_with fail
      refine (equalInts_eq w6 vb va (takeL x).m (freeF (takeS (giveL (takeL x) (topS x)))) (freeF (takeL x)) RBF.out RAF.out hmx HLF.out.2.2).mono ?_; rintro e w7 ⟨rfl, m7, rfl⟩
      have QQ := Lib.hid (HQF.out.drewN m7)
      generalize w6.drewN m7 = w7 at *
      go_wp2_with fail
      refine (awake_any _).mono ?_; rintro e w8 ⟨rfl, hb⟩
      have HB := Lib.hid (QQ.out.below hb).2.2.2
      clear hb
      go_wp2_with fail
      go_ret
      exact ⟨rfl, HB.out⟩
end Go.Proofs.YtpcpjmgkdbgopaaDoor
