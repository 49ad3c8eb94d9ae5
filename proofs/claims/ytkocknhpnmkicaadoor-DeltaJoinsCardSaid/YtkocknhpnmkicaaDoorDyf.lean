/- Deltas: Join of the program: its walk. -/
import Derived.Test.YtkocknhpnmkicaaDoorDye
namespace Go.Proofs.YtkocknhpnmkicaaDoor
open Go.RowKit
set_option linter.unusedVariables false

def badS : List Sl → Int
  | [] => 0
  | s :: r => if checkP s.l = 0 then badS r else checkP s.l
theorem badS_append : ∀ (u v : List Sl), badS (u ++ v) = if badS u = 0 then badS v else badS u
  | [], v => rfl
  | s :: u, v => by
    show (if checkP s.l = 0 then badS (u ++ v) else checkP s.l) = if (if checkP s.l = 0 then badS u else checkP s.l) = 0 then badS v else (if checkP s.l = 0 then badS u else checkP s.l)
    by_cases h : checkP s.l = 0
    · rw [if_pos h, if_pos h]
      exact badS_append u v
    · rw [if_neg h, if_neg h, if_neg h]
theorem badS_ok {ss : List Sl} {j : Nat} (h : j < ss.length) (h0 : badS (ss.take j) = 0) (h1 : checkP ss[j].l = 0) : badS (ss.take (j + 1)) = 0 := by
  rw [List.take_succ_eq_append_getElem h, badS_append, if_pos h0]
  show (if checkP ss[j].l = 0 then badS [] else checkP ss[j].l) = 0
  rw [if_pos h1]
  rfl
theorem badS_at {ss : List Sl} {j : Nat} (h : j < ss.length) (h0 : badS (ss.take j) = 0) (h1 : checkP ss[j].l ≠ 0) : badS ss = checkP ss[j].l := by
  have h2 := badS_append (ss.take j) (ss.drop j)
  rw [List.take_append_drop, if_pos h0, List.drop_eq_getElem_cons h] at h2
  exact h2.trans (if_neg h1)
theorem sIP_app (u v : List Pc) : sIP (u ++ v) = sIP u + sIP v := sIP_append u v
theorem catL_ok : ∀ {ss : List Sl}, badS ss = 0 → (catL ss).length ≤ 4096 * ss.length ∧ AllOk (catL ss) ∧ sIP (catL ss) ≤ 1048576 * ss.length ∧ sOP (catL ss) ≤ 1048576 * ss.length
  | [], _ => ⟨Nat.zero_le _, (fun _ h => nomatch h), Nat.zero_le _, Nat.zero_le _⟩
  | s :: r, h => by
    have h1 : checkP s.l = 0 := by
      by_cases h1 : checkP s.l = 0
      · exact h1
      · rw [show badS (s :: r) = checkP s.l from if_neg h1] at h
        exact h
    rw [show badS (s :: r) = badS r from if_pos h1] at h
    obtain ⟨a1, a2, a3, a4⟩ := catL_ok h
    obtain ⟨b1, b2, b3, b4⟩ := check_inv h1
    have e : catL (s :: r) = s.l ++ catL r := rfl
    rw [e, List.length_append, sIP_append, sOP_append, List.length_cons]
    refine ⟨by omega, fun p hp => ?_, by omega, by omega⟩
    rcases List.mem_append.1 hp with h | h
    · exact b2 p h
    · exact a2 p h
def joinS (ss : List Sl) : List Pc × Int := if badS ss = 0 then (if checkP (formP (catL ss)) = 0 then (formP (catL ss), 0) else ([], 5)) else ([], badS ss)

set_option maxRecDepth 100000 in
set_option maxHeartbeats 4000000 in
theorem join_any (ao : Option Addr) (m c : Nat) (ss : List Sl) (w : World) (h : IsLs w ao m ss) (hm : m ≤ 40) (hbg : ∀ s ∈ ss, s.n ≤ 9223372036854775807) :
    Calls Tryd.prog 36 #[.slice ao m c] w (Rowed w (joinS ss).1 (joinS ss).2) := by
  have hl := h.1.1
  have HA := Lib.hid h
  have HB := Lib.hid (Below.refl w.heap.size w)
  have HG := Lib.hid hbg
  clear h hbg
  go_enter Tryd.func36, Tryd.ntmps36
  go_wp2_with fail
  go_loopw [5, 6, 10] (fun _ _ s wr => ∃ (j : Nat), j ≤ m ∧ s = .int .i64 j ∧ badS (ss.take j) = 0 ∧ Below w.heap.size w wr) (fun _ _ s _ => m - (intOf s).toNat)
  case atStart => exact ⟨0, Nat.zero_le _, rfl, rfl, HB.out⟩
  case round =>
    obtain ⟨j, hj, rfl, hbad, hbr⟩ := hrel
    generalize wr = w3 at *
    have HBD := Lib.hid hbad
    have HB3 := Lib.hid hbr
    have hsz := hbr.size
    by_cases hlt : j < m
    · have hjs : j < ss.length := by omega
      have hj1 : (j : Int) < (m : Int) := by omega
      have hj0 : (0 : Int) ≤ (j : Int) := by omega
      obtain ⟨bb, off, rfl, hat⟩ := HA.out.at hbr hlt
      obtain ⟨c0, hr, hnn⟩ := hat hjs
      by_cases hck : checkP ss[j].l = 0
      · have HN := Lib.hid (badS_ok hjs hbad hck)
        have HC := Lib.hid (show Calls Tryd.prog 17 #[.slice ss[j].a ss[j].n ss[j].c] w3 fun e w' => e = .returned (.int .i64 0) ∧ Below w3.heap.size w3 w' by
          have h := check_any ss[j].a ss[j].n ss[j].c ss[j].l w3 hr (by
            have := (check_inv hck).1
            have := hr.1
            omega)
          rw [hck] at h
          exact h)
        clear hat hr hnn hck hbad hbr
        generalize ss[j] = s at *
        obtain ⟨sa, sn, sc, sl⟩ := s
        go_wp2_with fail
        refine (HC.out).mono ?_; rintro e w4 ⟨rfl, hb4⟩
        have HB4 := Lib.hid (below_two HB3.out hb4)
        clear hb4 HC
        go_wp2_with fail
        go_roundw
        case rel => exact ⟨j + 1, by omega, by go_num, HN.out, HB4.out⟩
        case measure => simp [intOf]; omega
      · have HE := Lib.hid (show joinS ss = ([], checkP ss[j].l) by
          have e := badS_at hjs hbad hck
          unfold joinS
          rw [e, if_neg hck])
        have hc2 : (checkP ss[j].l == 0) = false := by rw [beq_eq_false_iff_ne]; exact hck
        have hbig := HG.out _ (List.getElem_mem hjs)
        have HC := Lib.hid (check_any ss[j].a ss[j].n ss[j].c ss[j].l w3 hr hbig)
        clear hat hr hnn hck hbad hbr hbig
        generalize ss[j] = s at *
        obtain ⟨sa, sn, sc, sl⟩ := s
        go_wp2_with fail
        refine (HC.out).mono ?_; rintro e w4 ⟨rfl, hb4⟩
        have HB4 := Lib.hid (below_two HB3.out hb4)
        clear hb4 HC
        go_wp2_with fail
        go_ret2
        exact ⟨.slice none 0 0, by rw [HE.out] <;> rfl, by rw [HE.out]; exact own_nil _ _, HB4.out⟩
    · obtain rfl : j = m := by omega
      have hb0 : badS ss = 0 := by rw [← hbad, List.take_of_length_le (by omega)]
      obtain ⟨k1, k2, k3, k4⟩ := catL_ok hb0
      have HBZ := Lib.hid hb0
      have hlen : (catL ss).length ≤ 300000 := by omega
      have hs3 : sIP (catL ss) ≤ 1000000000000 := by omega
      have hs4 : sOP (catL ss) ≤ 100000000000000 := by omega
      have HC := Lib.hid (concat_any ao j c ss w3 (HA.out.later hbr) (by omega) (by omega))
      have HK := Lib.hid k2
      have hj1 : ¬ ((j : Int) < (j : Int)) := by omega
      clear hbad hbr hb0 k1 k2 k3 k4 HBD
      go_wp2_with fail
      refine (HC.out).mono ?_; rintro e w4 ⟨v4, rfl, hown4, hb4⟩
      have HB4 := Lib.hid (below_two HB3.out hb4)
      obtain ⟨ao4, cap4, rfl, hr4, -, -⟩ := IsR.owned (f := fP) (s := 3) fP_len (l := catL ss) (n := (catL ss).length) rfl hown4
      have HF := Lib.hid (form_any ao4 (catL ss).length cap4 (catL ss) w4 hr4 (by omega) HK.out hs3 hs4)
      have hs4z := hb4.size
      clear hown4 hb4 hr4 HC
      go_wp2_with fail
      refine (HF.out).mono ?_; rintro e w5 ⟨v5, rfl, hown5, hb5⟩
      have HB5 := Lib.hid (below_two HB4.out hb5)
      have HO5 := Lib.hid (own_mono hown5 (show w.heap.size ≤ w4.heap.size by omega))
      obtain ⟨ao5, cap5, rfl, hr5, -, -⟩ := IsR.owned (f := fP) (s := 3) fP_len (l := formP (catL ss)) (n := (formP (catL ss)).length) rfl hown5
      have hfl : (formP (catL ss)).length ≤ 300000 := by have := len_formP (catL ss); omega
      have HK5 := Lib.hid (check_any ao5 (formP (catL ss)).length cap5 (formP (catL ss)) w5 hr5 (by omega))
      clear hown5 hb5 hr5 HF
      go_wp2_with fail
      refine (HK5.out).mono ?_; rintro e w6 ⟨rfl, hb6⟩
      have HB6 := Lib.hid (below_two HB5.out hb6)
      have HO6 := Lib.hid (own_below HO5.out hb6)
      clear hb6 HK5
      by_cases hck : checkP (formP (catL ss)) = 0
      · have HE := Lib.hid (show joinS ss = (formP (catL ss), 0) by
          unfold joinS
          rw [if_pos HBZ.out, if_pos hck])
        rw [hck]
        clear hck
        go_wp2_with fail
        go_ret2
        exact ⟨_, by rw [HE.out] <;> rfl, by rw [HE.out]; exact HO6.out, HB6.out⟩
      · have HE := Lib.hid (show joinS ss = ([], 5) by
          unfold joinS
          rw [if_pos HBZ.out, if_neg hck])
        have hc2 : (checkP (formP (catL ss)) == 0) = false := by rw [beq_eq_false_iff_ne]; exact hck
        clear hck
        go_wp2_with fail
        go_ret2
        exact ⟨.slice none 0 0, by rw [HE.out] <;> rfl, by rw [HE.out]; exact own_nil _ _, HB6.out⟩

end Go.Proofs.YtkocknhpnmkicaaDoor
