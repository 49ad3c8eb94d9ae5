/- Deltas: Join of the reference: its walk. -/
import Derived.Test.YtkocknhpnmkicaaDoorDyg
namespace Go.Proofs.YtkocknhpnmkicaaDoor
open Go.RowKit
set_option linter.unusedVariables false

set_option maxRecDepth 100000 in
set_option maxHeartbeats 4000000 in
theorem refJoin_any (ao : Option Addr) (m c : Nat) (ss : List Sl) (w : World) (h : IsLs w ao m ss) (hm : m ≤ 40) (hbg : ∀ s ∈ ss, s.n ≤ 9223372036854775807) :
    Calls Tryd.prog 37 #[.slice ao m c] w (Rowed w (joinS ss).1 (joinS ss).2) := by
  obtain ⟨i0, hi0, hz0, hz1, hz2⟩ := info_parts infoPc
  have hl := h.1.1
  have HA := Lib.hid h
  have HB := Lib.hid (Below.refl w.heap.size w)
  have HG := Lib.hid hbg
  clear h hbg
  go_enter Tryd.func37, Tryd.ntmps37
  go_wp2_with fail
  go_loopw [4, 5, 6] (fun s4 s _ wr => ∃ (j q : Nat), j ≤ m ∧ s = .int .i64 j ∧ badS (ss.take j) = 0 ∧ q = (catL (ss.take j)).length ∧ wr.ownsRow w.heap.size 38 3 s4 q (flatR fP (catL (ss.take j))) ∧ Below w.heap.size w wr) (fun _ s _ _ => m - (intOf s).toNat)
  case atStart => exact ⟨0, 0, Nat.zero_le _, rfl, rfl, rfl, ⟨rfl, .inl ⟨rfl, rfl⟩⟩, HB.out⟩
  case round =>
    obtain ⟨j, q, hj, rfl, hbad, hq, hown, hbr⟩ := hrel
    generalize wr = w3 at *
    have HB3 := Lib.hid hbr
    have HO := Lib.hid hown
    have HQ := Lib.hid hq
    have hsz := hbr.size
    have hqb : q ≤ 163840 := by
      have h1 := (catL_ok hbad).1
      rw [List.length_take] at h1
      rw [hq]
      omega
    by_cases hlt : j < m
    · have hjs : j < ss.length := by omega
      have hj1 : (j : Int) < (m : Int) := by omega
      have hj0 : (0 : Int) ≤ (j : Int) := by omega
      obtain ⟨bb, off, rfl, hat⟩ := HA.out.at hbr hlt
      obtain ⟨c0, hr, hnn⟩ := hat hjs
      have hbig := HG.out _ (List.getElem_mem hjs)
      by_cases hck : checkP ss[j].l = 0
      · have HN := Lib.hid (badS_ok hjs hbad hck)
        have hC := refCheck_pc ss[j].a ss[j].n ss[j].c ss[j].l w3 hr hbig
        rw [hck] at hC
        have HC := Lib.hid hC
        have HCT := Lib.hid (catL_take hjs)
        have hsl := (check_inv hck).1
        have HS := Lib.hid hr.1
        have hsn := hr.1
        have HR := Lib.hid hr
        have HNN := Lib.hid hnn
        clear hat hr hnn hck hbad hbr hown hq hC hbig
        generalize ss[j] = s at *
        obtain ⟨sa, sn, sc, sl⟩ := s
        have hsn2 : sn ≤ 4096 := by
          have h1 : sl.length = sn := hsn
          have h2 : sl.length ≤ 4096 := hsl
          omega
        have HS2 := Lib.hid (show sl.length = sn from HS.out)
        have HR2 := Lib.hid (show IsR fP w3 sa sn sl from HR.out)
        have HNN2 := Lib.hid (show sa = none → sn = 0 ∧ sc = 0 from HNN.out)
        have HCT2 := Lib.hid (show catL (ss.take (j + 1)) = catL (ss.take j) ++ sl from HCT.out)
        clear hsn hsl HS HR HNN HCT
        rcases sa with _ | ad
        · obtain ⟨e1, e2⟩ := HNN2.out rfl
          subst e1
          subst e2
          have HE := Lib.hid (show catL (ss.take (j + 1)) = catL (ss.take j) by
            rw [HCT2.out, show sl = [] from List.eq_nil_of_length_eq_zero HS2.out, List.append_nil])
          go_wp2_with fail
          refine (HC.out).mono ?_; rintro e w4 ⟨rfl, hb4⟩
          have HB4 := Lib.hid (below_two HB3.out hb4)
          have HO4 := Lib.hid (own_below HO.out hb4)
          have c0 := (hb4.cell (p := ⟨bb, off + j, none⟩) (block_lt_cell c0)).trans c0
          clear hb4 HC
          go_wp2_with (at_builtin; go_loud (refine wpList_append_own_none rfl _ _ 22 rfl w.heap.size 38 i0 3 Tryd.underlying22 hi0 _ q (flatR fP (catL (ss.take j))) rfl HO4.out rfl ?_))
          go_wp2_with fail
          go_roundw
          case rel => exact ⟨j + 1, q, by omega, by go_num, HN.out, by rw [HE.out]; exact HQ.out, by rw [HE.out]; exact HO4.out, HB4.out⟩
          case measure => simp [intOf]; omega
        · go_wp2_with fail
          refine (HC.out).mono ?_; rintro e w4 ⟨rfl, hb4⟩
          have HB4 := Lib.hid (below_two HB3.out hb4)
          have HO4 := Lib.hid (own_below HO.out hb4)
          have HR4 := Lib.hid (HR2.out.later hb4)
          have hsz4 := hb4.size
          have hszw : w.heap.size ≤ w4.heap.size := by omega
          have c0 := (hb4.cell (p := ⟨bb, off + j, none⟩) (block_lt_cell c0)).trans c0
          have HNW := Lib.hid (show ∀ i u, (flatR fP sl)[i]? = some u → w4.cell? (ad.add i) = some u from fun i u hi => by
            by_cases h0 : 0 < sn
            · exact HR4.out.news h0 i u hi
            · obtain rfl : sl = [] := List.eq_nil_of_length_eq_zero (by have := HS2.out; omega)
              simp [flatR] at hi)
          have HL := Lib.hid (show (flatR fP sl).length = sn * 3 by rw [flatR_len fP_len, HS2.out])
          clear hb4 HC
          go_wp2_with (at_builtin; go_loud (refine wpList_append_own _ rfl _ _ 22 rfl w.heap.size 38 i0 (.agg #[.int .u8 0, .int .i64 0, .string ByteArray.empty]) 3 32 Tryd.underlying22 hi0 hz0 hz1 hz2 rfl (by decide) _ q (flatR fP (catL (ss.take j))) rfl HO4.out ad sn sc (flatR fP sl) rfl HL.out HNW.out (flatP_one sl) (by unfold maxLen; omega) (by omega) (by omega) ?c1))
          case c1 =>
            intro v5 w5 hown5 hgrow5 hnil5
            have HO5 := Lib.hid (show w5.ownsRow w.heap.size 38 3 v5 (q + sn) (flatR fP (catL (ss.take (j + 1)))) by
              rw [HCT2.out, flatR_app]
              exact hown5)
            have HQ5 := Lib.hid (show q + sn = (catL (ss.take (j + 1))).length by rw [HCT2.out, List.length_append, ← HQ.out, HS2.out])
            have HB5 := Lib.hid (HB4.out.grown hgrow5 hszw fun q hq => (own_typS HO4.out hq).1)
            clear hown5 hgrow5 hnil5
            go_wp2_with fail
            go_roundw
            case rel => exact ⟨j + 1, q + sn, by omega, by go_num, HN.out, HQ5.out, HO5.out, HB5.out⟩
            case measure => simp [intOf]; omega
      · have HE := Lib.hid (show joinS ss = ([], checkP ss[j].l) by
          have e := badS_at hjs hbad hck
          unfold joinS
          rw [e, if_neg hck])
        have hc2 : (checkP ss[j].l == 0) = false := by rw [beq_eq_false_iff_ne]; exact hck
        have HC := Lib.hid (refCheck_pc ss[j].a ss[j].n ss[j].c ss[j].l w3 hr hbig)
        clear hat hr hnn hck hbad hbr hbig hq hown
        generalize ss[j] = s at *
        obtain ⟨sa, sn, sc, sl⟩ := s
        go_wp2_with fail
        refine (HC.out).mono ?_; rintro e w4 ⟨rfl, hb4⟩
        have HB4 := Lib.hid (below_two HB3.out hb4)
        clear hb4 HC
        go_wp2_with fail
        go_ret2
        exact ⟨.slice none 0 0, by rw [HE.out] <;> rfl, by rw [HE.out]; exact own_nil _ _, HB4.out⟩
    · obtain rfl : j = m := by omega
      have hb0 : badS ss = 0 := by rw [← hbad, List.take_of_length_le (by omega)]
      obtain ⟨k1, k2, k3, k4⟩ := catL_ok hb0
      have HBZ := Lib.hid hb0
      have hs3 : sIP (catL ss) ≤ 1000000000000 := by omega
      have hs4 : sOP (catL ss) ≤ 100000000000000 := by omega
      have hq4 : q = (catL ss).length := by rw [hq, List.take_of_length_le (by omega)]
      have hown4 : w3.ownsRow w.heap.size 38 3 u4 q (flatR fP (catL ss)) := by
        have h := hown
        rw [List.take_of_length_le (by omega)] at h
        exact h
      obtain ⟨ao4, cap4, rfl, hr4, -, -⟩ := IsR.owned (f := fP) (s := 3) fP_len (l := catL ss) (n := q) hq4.symm hown4
      have HF := Lib.hid (refForm_any ao4 q cap4 (catL ss) w3 hr4 (by omega) k2 hs3 hs4)
      have hj1 : ¬ ((j : Int) < (j : Int)) := by omega
      have hlen : (catL ss).length ≤ 163840 := by omega
      clear hbad hbr hb0 k1 k2 k3 k4 hq hown hown4 hr4 HO HQ hq4
      go_wp2_with fail
      refine (HF.out).mono ?_; rintro e w5 ⟨v5, rfl, hown5, hb5⟩
      have HB5 := Lib.hid (below_two HB3.out hb5)
      have HO5 := Lib.hid (own_mono hown5 (show w.heap.size ≤ w3.heap.size by omega))
      obtain ⟨ao5, cap5, rfl, hr5, -, -⟩ := IsR.owned (f := fP) (s := 3) fP_len (l := formP (catL ss)) (n := (formP (catL ss)).length) rfl hown5
      have hfl : (formP (catL ss)).length ≤ 300000 := by have := len_formP (catL ss); omega
      have HK5 := Lib.hid (refCheck_pc ao5 (formP (catL ss)).length cap5 (formP (catL ss)) w5 hr5 (by omega))
      clear hown5 hb5 hr5 HF
      go_wp2_with fail
      refine (HK5.out).mono ?_; rintro e w6 ⟨rfl, hb6⟩
      have HB6 := Lib.hid (below_two HB5.out hb6)
      have HO6 := Lib.hid (own_below HO5.out hb6)
      clear hb6 HK5
      by_cases hck : checkP (formP (catL ss)) = 0
      · have HE := Lib.hid (show joinS ss = (formP (catL ss), 0) by
          unfold joinS
          rw [if_pos HBZ.out, if_pos hck])
        rw [hck]
        clear hck
        go_wp2_with fail
        go_ret2
        exact ⟨_, by rw [HE.out] <;> rfl, by rw [HE.out]; exact HO6.out, HB6.out⟩
      · have HE := Lib.hid (show joinS ss = ([], 5) by
          unfold joinS
          rw [if_pos HBZ.out, if_neg hck])
        have hc2 : (checkP (formP (catL ss)) == 0) = false := by rw [beq_eq_false_iff_ne]; exact hck
        clear hck
        go_wp2_with fail
        go_ret2
        exact ⟨.slice none 0 0, by rw [HE.out] <;> rfl, by rw [HE.out]; exact own_nil _ _, HB6.out⟩

end Go.Proofs.YtkocknhpnmkicaaDoor
