/- Diff: the law Valid: its walk. -/
import Derived.Test.YtfbjbgknfdekfaaDoorHj
namespace Go.Proofs.YtfbjbgknfdekfaaDoor
open Go.RowKit
set_option linter.unusedVariables false

theorem allT_at {l : List Pc} {j : Nat} (h : allT (l.map ofP)) (hj : j < l.length) (hok : okP l[j] = true) : VL l[j].t.data.toList := by
  have e : l.map ofP = (l.take j).map ofP ++ (ofP l[j] :: (l.drop (j + 1)).map ofP) := by
    have : l = l.take j ++ l[j] :: l.drop (j + 1) := by rw [← List.drop_eq_getElem_cons hj, List.take_append_drop]
    conv => lhs; rw [this]
    rw [List.map_append]; rfl
  rw [e] at h
  have key : ∀ (u : List Dp) (p : Dp) (v : List Dp), allT (u ++ p :: v) → allT [p] := by
    intro u
    induction u with
    | nil => intro p v h; cases p <;> first | trivial | exact ⟨h.1, trivial⟩
    | cons q u ih => intro p v h; cases q <;> first | exact ih p v h | exact ih p v h.2
  have h2 := key _ _ _ h
  generalize l[j] = p at *
  obtain ⟨k, n, t⟩ := p
  rcases okP_cases hok with ⟨rfl, -, h3⟩ | ⟨rfl, -, h3⟩ | ⟨rfl, -, h3⟩
  · rw [str_empty h3]; exact .nil
  · rw [str_empty h3]; exact .nil
  · exact h2.1
theorem allI_at {E : Nat → Prop} {l : List Pc} {j : Nat} (h : allI E 0 (l.map ofP)) (hj : j < l.length) : E (sIP (l.take (j + 1))) := by
  have e : l = l.take (j + 1) ++ l.drop (j + 1) := (List.take_append_drop _ _).symm
  rw [e, List.map_append, allI_app] at h
  have h1 := h.1
  rw [List.take_succ_eq_append_getElem hj, List.map_append, allI_app, Nat.zero_add] at h1
  have h2 := h1.2.1
  rw [sIP_at hj]
  exact h2
theorem txt_le {l : List Pc} {j : Nat} (hj : j < l.length) (hok : okP l[j] = true) (hO : sOP l ≤ 1048576) : l[j].t.size ≤ 1048576 := by
  have h1 := (take_sums hj).2
  have h2 := (take_le (l := l) (j + 1)).2
  by_cases hk : l[j].k = 1
  · rw [(out_ret hok hk).2]; decide
  · rw [out_not hok hk] at h1; omega
structure VaI (a : ByteArray) (l : List Pc) (j at_ : Nat) : Prop where
  sum : at_ = sIP (l.take j)
  le : at_ ≤ a.size
  edge : bnd a at_ = true
set_option maxRecDepth 100000 in
set_option maxHeartbeats 8000000 in
theorem valid_law (a b : ByteArray) (w : World) (ha : a.size ≤ 140737488355328) (hb : b.size ≤ 140737488355328) : Calls Tryd.prog 10 #[.string a, .string b] w fun e w' => e = .returned (.bool true) ∧ Below w.heap.size w w' := by
  have HC := Lib.hid (between_any a b w ha hb)
  by_cases hT : 1048576 < a.size ∨ 1048576 < b.size
  · have hr : betR a b = ([], 5) := if_pos hT
    rw [hr] at HC
    clear hr hT
    go_enter Tryd.func10, Tryd.ntmps10
    go_wp2_with fail
    refine (HC.out).mono ?_; rintro e w1 ⟨v1, rfl, hown1, hb1⟩
    have HB1 := Lib.hid hb1
    clear hown1 hb1 HC
    have HK := Lib.hid (known_any w1)
    go_wp2_with fail
    refine (HK.out).mono ?_; rintro e w2 ⟨rfl, hb2⟩
    have HB2 := Lib.hid (below_two HB1.out hb2)
    clear hb2
    go_wp2_with fail
    go_ret
    exact ⟨rfl, HB2.out⟩
  · have hr : betR a b = (formP (betL a b), 0) := if_neg hT
    rw [hr] at HC
    have hsa : a.size ≤ 1048576 := by omega
    have hsb : b.size ≤ 1048576 := by omega
    have hbp := bet_props hsa hsb
    have hck := check_formP hbp.2.2.2.2
    obtain ⟨k1, k2, k3, k4⟩ := check_inv hck
    have HOK := Lib.hid k2
    have HO := Lib.hid k4
    have HLEN := Lib.hid k1
    have HGV := Lib.hid (fun (h1 : VL a.data.toList) (h2 : VL b.data.toList) => bet_good h1 h2)
    have HVA := Lib.hid (fun u => valid_str a u hsa)
    have HVB := Lib.hid (fun u => valid_str b u hsb)
    generalize formP (betL a b) = l at *
    clear hr hT hbp hck k2 k3 k4
    by_cases hva : VL a.data.toList
    · by_cases hvb : VL b.data.toList
      · obtain ⟨⟨hI, hTx⟩, hsum⟩ := HGV.out hva hvb
        have HI := Lib.hid hI
        have HTX := Lib.hid hTx
        have HSUM := Lib.hid hsum
        have HVLA := Lib.hid hva
        have HZ := Lib.hid (bnd_zero hva)
        rw [validB_iff.2 hva] at HVA
        rw [validB_iff.2 hvb] at HVB
        clear hva hvb hI hTx hsum
        obtain ⟨n, hn⟩ : ∃ n, n = l.length := ⟨_, rfl⟩
        have HN := Lib.hid hn
        have hn1 : n ≤ 4096 := by omega
        go_enter Tryd.func10, Tryd.ntmps10
        go_wp2_with fail
        refine (HC.out).mono ?_; rintro e w1 ⟨v1, rfl, hown1, hb1⟩
        obtain ⟨ao1, cap1, rfl, hr1, -, -⟩ := IsR.owned (f := fP) (s := 3) fP_len (l := l) (n := n) hn.symm (own_len hown1 hn.symm)
        have HB1 := Lib.hid hb1
        have HR1 := Lib.hid hr1
        clear hown1 hb1 HC hr1 hn
        go_wp2_with fail
        refine (HVA.out _).mono ?_; rintro e w2 ⟨rfl, rfl⟩
        go_wp2_with fail
        refine (HVB.out _).mono ?_; rintro e w2 ⟨rfl, rfl⟩
        go_wp2_with fail
        go_loop [7, 8] (fun s7 s8 => ∃ (j i : Nat), j ≤ n ∧ s7 = .int .i64 i ∧ s8 = .int .i64 j ∧ VaI a l j i) (fun _ s8 => n - (intOf s8).toNat)
        case atStart => exact ⟨0, 0, Nat.zero_le _, rfl, rfl, ⟨rfl, Nat.zero_le _, HZ.out⟩⟩
        case round =>
          obtain ⟨j, i, hj, rfl, rfl, hv⟩ := hrel
          have HV := Lib.hid hv
          have hile := hv.le
          clear hv
          by_cases hlt : j < n
          · as_aux_lemma =>
              have hlt' : (j : Int) < (n : Int) := by omega
              have hj0 : (0 : Int) ≤ (j : Int) := by omega
              have HJL := Lib.hid (show j < l.length by have := HN.out; omega)
              obtain ⟨bb, off, rfl, hbb, hcl⟩ := HR1.out.pc (Below.refl _ _) hlt
              obtain ⟨c0, c1, c2⟩ := hcl HJL.out
              have HPO := Lib.hid (HOK.out l[j] (List.getElem_mem HJL.out))
              obtain ⟨m, hm, hmi⟩ := inn_of HPO.out
              have HII := Lib.hid (show i + m = sIP (l.take (j + 1)) by rw [HV.out.sum, ← hmi]; exact (take_sums HJL.out).1.symm)
              have him : i + m ≤ a.size := by rw [HII.out, ← HSUM.out]; exact (take_le (j + 1)).1
              have HED := Lib.hid (show bnd a (i + m) = true by rw [HII.out]; exact allI_at HI.out HJL.out)
              have HTV := Lib.hid (allT_at HTX.out HJL.out HPO.out)
              have HTL := Lib.hid (txt_le HJL.out HPO.out HO.out)
              have HXV := Lib.hid (show VL (a.extract i (i + m)).data.toList by
                rw [ext_take]
                have h := HVLA.out.mid (p := i) (q := i + m) (by omega) ((bnd_list a _).1 HV.out.edge) ((bnd_list a _).1 HED.out)
                rw [Nat.add_sub_cancel_left] at h
                exact h)
              have HNX := Lib.hid (show VaI a l (j + 1) (i + m) from ⟨HII.out, him, HED.out⟩)
              clear hmi hcl
              generalize l[j]'HJL.out = p at *
              have HC1 := Lib.hid (show Calls Tryd.prog 27 #[.string (a.extract i (i + m))] w1 fun e w' => e = .returned (.bool true) ∧ w1 = w' by
                have h := valid_str (a.extract i (i + m)) w1 (by rw [ByteArray.size_extract]; omega)
                rw [validB_iff.2 HXV.out] at h
                exact h)
              have HC2 := Lib.hid (show Calls Tryd.prog 27 #[.string p.t] w1 fun e w' => e = .returned (.bool true) ∧ w1 = w' by
                have h := valid_str p.t w1 HTL.out
                rw [validB_iff.2 HTV.out] at h
                exact h)
              rw [hm] at c1
              clear hm
              have hm0 : ¬ ((m : Int) < 0) := by omega
              have hi0 : (0 : Int) ≤ (i : Int) := by omega
              have hi1 : (i : Int) ≤ (i : Int) + (m : Int) := by omega
              have hi2 : (i : Int) + (m : Int) ≤ (a.size : Int) := by omega
              have hw1 : IntKind.i64.wrap ((a.size : Int) - (i : Int)) = (a.size : Int) - (i : Int) := by rw [IntKind.wrap_i64]; omega
              have hw2 : IntKind.i64.wrap ((i : Int) + (m : Int)) = (i : Int) + (m : Int) := by rw [IntKind.wrap_i64]; omega
              have hg1 : ¬ ((a.size : Int) - (i : Int) < (m : Int)) := by omega
              have hg2 : decide ((a.size : Int) - (i : Int) < (m : Int)) = false := decide_eq_false hg1
              go_wp2_with fail
              refine (HC1.out).mono ?_; rintro e w2 ⟨rfl, rfl⟩
              go_wp2_with fail
              refine (HC2.out).mono ?_; rintro e w2 ⟨rfl, rfl⟩
              go_wp2_with fail
              go_round
              case rel => exact ⟨j + 1, i + m, by omega, by go_num, by go_num, HNX.out⟩
              case measure => (simp [intOf] <;> omega)
          · as_aux_lemma =>
              have hlt' : ¬ ((j : Int) < (n : Int)) := by omega
              have hin : i = a.size := by
                have h := HV.out.sum
                rw [show j = l.length by have := HN.out; omega, List.take_length, HSUM.out] at h
                exact h
              subst hin
              have HK := Lib.hid (known_any w1)
              clear hlt
              go_wp2_with fail
              refine (HK.out).mono ?_; rintro e w2 ⟨rfl, hb2⟩
              have HB2 := Lib.hid (below_two HB1.out hb2)
              clear hb2
              go_wp2_with fail
              go_ret
              exact ⟨rfl, HB2.out⟩
      · as_aux_lemma =>
        rw [validB_iff.2 hva] at HVA
        rw [Bool.eq_false_iff.2 (fun h => hvb (validB_iff.1 h))] at HVB
        clear hva hvb
        go_enter Tryd.func10, Tryd.ntmps10
        go_wp2_with fail
        refine (HC.out).mono ?_; rintro e w1 ⟨v1, rfl, hown1, hb1⟩
        have HB1 := Lib.hid hb1
        clear hown1 hb1 HC
        go_wp2_with fail
        refine (HVA.out _).mono ?_; rintro e w2 ⟨rfl, rfl⟩
        go_wp2_with fail
        refine (HVB.out _).mono ?_; rintro e w2 ⟨rfl, rfl⟩
        have HK := Lib.hid (known_any w1)
        go_wp2_with fail
        refine (HK.out).mono ?_; rintro e w2 ⟨rfl, hb2⟩
        have HB2 := Lib.hid (below_two HB1.out hb2)
        clear hb2
        go_wp2_with fail
        go_ret
        exact ⟨rfl, HB2.out⟩
    · as_aux_lemma =>
      rw [Bool.eq_false_iff.2 (fun h => hva (validB_iff.1 h))] at HVA
      clear hva
      go_enter Tryd.func10, Tryd.ntmps10
      go_wp2_with fail
      refine (HC.out).mono ?_; rintro e w1 ⟨v1, rfl, hown1, hb1⟩
      have HB1 := Lib.hid hb1
      clear hown1 hb1 HC
      go_wp2_with fail
      refine (HVA.out _).mono ?_; rintro e w2 ⟨rfl, rfl⟩
      have HK := Lib.hid (known_any w1)
      go_wp2_with fail
      refine (HK.out).mono ?_; rintro e w2 ⟨rfl, hb2⟩
      have HB2 := Lib.hid (below_two HB1.out hb2)
      clear hb2
      go_wp2_with fail
      go_ret
      exact ⟨rfl, HB2.out⟩
end Go.Proofs.YtfbjbgknfdekfaaDoor
