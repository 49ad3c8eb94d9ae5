/- Diff: the reference's TooLong and ByLines: their walks. -/
import Derived.Test.YtfbjbgknfdekfaaDoorHb
import Derived.Test.YtfbjbgknfdekfaaDoorHc
namespace Go.Proofs.YtfbjbgknfdekfaaDoor
open Go.RowKit
set_option linter.unusedVariables false

def edgesB (x y : List UInt8) : Nat → Nat → List Dp → Bool
  | _, _, [] => true
  | i, o, p :: l => (edgeB x (i + p.inn) && edgeB y (o + p.out)) && edgesB x y (i + p.inn) (o + p.out) l
def byB (a b : ByteArray) (l : List Pc) : Bool := if (appR a l).2 = 0 then (if (appR a l).1 = b then edgesB a.data.toList b.data.toList 0 0 (l.map ofP) else false) else false
theorem edgesB_iff {x y : List UInt8} : ∀ (l : List Dp) (i o : Nat), edgesB x y i o l = true ↔ allI (edgeT x) i l ∧ allO (edgeT y) o l
  | [], i, o => ⟨fun _ => ⟨trivial, trivial⟩, fun _ => rfl⟩
  | p :: l, i, o => by
    show ((edgeB x (i + p.inn) && edgeB y (o + p.out)) && edgesB x y (i + p.inn) (o + p.out) l) = true ↔ (edgeT x (i + p.inn) ∧ allI (edgeT x) (i + p.inn) l) ∧ (edgeT y (o + p.out) ∧ allO (edgeT y) (o + p.out) l)
    rw [Bool.and_eq_true, Bool.and_eq_true, edgeB_iff, edgeB_iff, edgesB_iff l]
    constructor
    · rintro ⟨⟨h1, h2⟩, h3, h4⟩
      exact ⟨⟨h1, h3⟩, h2, h4⟩
    · rintro ⟨⟨h1, h3⟩, h2, h4⟩
      exact ⟨⟨h1, h2⟩, h3, h4⟩
theorem appD_size : ∀ (l : List Dp) (s : List UInt8), Dp.sI l ≤ s.length → (appD s l).length = Dp.sO l
  | [], s, _ => rfl
  | .ret n :: l, s, h => by
    have h' : n + Dp.sI l ≤ s.length := h
    have := appD_size l (s.drop n) (by rw [List.length_drop]; omega)
    show (s.take n ++ appD (s.drop n) l).length = n + Dp.sO l
    rw [List.length_append, List.length_take, this]
    omega
  | .del n :: l, s, h => by
    have h' : n + Dp.sI l ≤ s.length := h
    have := appD_size l (s.drop n) (by rw [List.length_drop]; omega)
    show (appD (s.drop n) l).length = 0 + Dp.sO l
    rw [this]; omega
  | .ins t :: l, s, h => by
    have h' : 0 + Dp.sI l ≤ s.length := h
    have := appD_size l s (by omega)
    show (t ++ appD s l).length = t.length + Dp.sO l
    rw [List.length_append, this]
theorem app_ok {a b : ByteArray} {l : List Pc} (h1 : (appR a l).2 = 0) (h2 : (appR a l).1 = b) : checkP l = 0 ∧ sIP l = a.size ∧ appP a.data.toList l = b.data.toList ∧ sOP l = b.size := by
  unfold appR at h1 h2
  by_cases hf : fitE a.size l = 0
  · rw [if_pos hf] at h2
    obtain ⟨hc, hs⟩ := fitE_zero hf
    have e : appP a.data.toList l = b.data.toList := by rw [← h2]
    refine ⟨hc, hs, e, ?_⟩
    have h3 := appD_size (l.map ofP) a.data.toList (by
      rw [show a.data.toList.length = a.size from Array.length_toList ..]
      exact Nat.le_of_eq hs)
    have h4 := congrArg List.length e
    rw [show b.data.toList.length = b.size from Array.length_toList ..] at h4
    exact h3.symm.trans h4
  · rw [if_neg hf] at h1
    exact absurd h1 hf
theorem out_not {p : Pc} (h : okP p = true) (hk : p.k ≠ 1) : (ofP p).out = p.t.size := by
  obtain ⟨k, n, t⟩ := p
  rcases okP_cases h with ⟨h1, h2, h3⟩ | ⟨h1, h2, h3⟩ | ⟨h1, h2, h3⟩
  · exact absurd h1 hk
  · simp only at h1 h2 h3
    subst h1
    exact h3.symm
  · simp only at h1 h2 h3
    subst h1
    exact Array.length_toList ..
theorem out_ret {p : Pc} (h : okP p = true) (hk : p.k = 1) : (ofP p).out = (ofP p).inn ∧ p.t = ⟨#[]⟩ := by
  obtain ⟨k, n, t⟩ := p
  rcases okP_cases h with ⟨h1, h2, h3⟩ | ⟨h1, h2, h3⟩ | ⟨h1, h2, h3⟩
  · simp only at h1 h2 h3
    subst h1
    exact ⟨rfl, str_empty h3⟩
  · rw [h1] at hk; exact absurd hk (by decide)
  · rw [h1] at hk; exact absurd hk (by decide)
theorem edges_step {x y : List UInt8} {l : List Pc} {j i o : Nat} (h : j < l.length) : edgesB x y i o ((l.drop j).map ofP) = ((edgeB x (i + (ofP l[j]).inn) && edgeB y (o + (ofP l[j]).out)) && edgesB x y (i + (ofP l[j]).inn) (o + (ofP l[j]).out) ((l.drop (j + 1)).map ofP)) := by
  rw [List.drop_eq_getElem_cons h]
  rfl
structure ByI (a b : ByteArray) (l : List Pc) (j i o : Nat) : Prop where
  inn : i = sIP (l.take j)
  out : o = sOP (l.take j)
  res : byB a b l = edgesB a.data.toList b.data.toList i o ((l.drop j).map ofP)
  ile : i ≤ a.size
  ole : o ≤ b.size
set_option maxRecDepth 100000 in
set_option maxHeartbeats 8000000 in
theorem refByLines_any (a b : ByteArray) (ao : Option Addr) (n c : Nat) (l : List Pc) (w : World) (h : IsR fP w ao n l) (hn63 : n ≤ 9223372036854775807) :
    Calls Tryd.prog 20 #[.string a, .string b, .slice ao n c] w fun e w' => e = .returned (.bool (byB a b l)) ∧ Below w.heap.size w w' := by
  have hl := h.1
  have HR := Lib.hid h
  have HC := Lib.hid (refApply_any a ao n c l w h hn63)
  have HL := Lib.hid hl
  clear h
  by_cases h2 : (appR a l).2 = 0
  · by_cases h1 : (appR a l).1 = b
    · obtain ⟨hck, hsI, happ, hsO⟩ := app_ok h2 h1
      obtain ⟨k1, k2, k3, k4⟩ := check_inv hck
      have HBY := Lib.hid (show byB a b l = edgesB a.data.toList b.data.toList 0 0 (l.map ofP) by unfold byB; rw [if_pos h2, if_pos h1])
      have HOK := Lib.hid k2
      have HI := Lib.hid hsI
      have HO := Lib.hid hsO
      have hn : n ≤ 4096 := by omega
      have hsa : a.size ≤ 1048576 := by omega
      have hsb : b.size ≤ 1048576 := by omega
      rw [h1, h2] at HC
      clear h1 h2 hck hsI happ hsO k1 k2 k3 k4 hl
      go_enter Tryd.func20, Tryd.ntmps20
      go_wp2_with fail
      refine (HC.out).mono ?_; rintro e w1 ⟨rfl, hb1⟩
      have HB1 := Lib.hid hb1
      have HR1 := Lib.hid (HR.out.later hb1)
      have HS1 := Lib.hid hb1.size
      clear hb1 HC
      go_wp2_with fail
      go_loop [9, 10, 11] (fun s9 s10 s11 => ∃ (j i o : Nat), j ≤ n ∧ s9 = .int .i64 i ∧ s10 = .int .i64 o ∧ s11 = .int .i64 j ∧ ByI a b l j i o) (fun _ _ s11 => n - (intOf s11).toNat)
      case atStart => exact ⟨0, 0, 0, Nat.zero_le _, rfl, rfl, rfl, ⟨rfl, rfl, HBY.out, Nat.zero_le _, Nat.zero_le _⟩⟩
      case round =>
        obtain ⟨j, i, o, hj, rfl, rfl, rfl, hby⟩ := hrel
        have HY := Lib.hid hby
        clear hby
        by_cases hlt : j < n
        · as_aux_lemma =>
            have hlt' : (j : Int) < (n : Int) := by omega
            have hj0 : (0 : Int) ≤ (j : Int) := by omega
            have HJL := Lib.hid (show j < l.length by have := HL.out; omega)
            obtain ⟨bb, off, rfl, hbb, hcl⟩ := HR1.out.pc (Below.refl _ _) hlt
            obtain ⟨c0, c1, c2⟩ := hcl HJL.out
            have HPO := Lib.hid (HOK.out l[j] (List.getElem_mem HJL.out))
            obtain ⟨m, hm, hmi⟩ := inn_of HPO.out
            have HTS := Lib.hid (take_sums HJL.out)
            have HTI := Lib.hid (take_le (l := l) (j + 1))
            have HII := Lib.hid (show i + m = sIP (l.take (j + 1)) by rw [HY.out.inn, ← hmi]; exact HTS.out.1.symm)
            have HILE := Lib.hid (show i + m ≤ a.size by rw [HII.out, ← HI.out]; exact HTI.out.1)
            have HOO1 := Lib.hid (show o + (ofP (l[j]'HJL.out)).out = sOP (l.take (j + 1)) by rw [HY.out.out]; exact HTS.out.2.symm)
            have HOLE1 := Lib.hid (show o + (ofP (l[j]'HJL.out)).out ≤ b.size by rw [HOO1.out, ← HO.out]; exact HTI.out.2)
            have HST1 := Lib.hid (edges_step (x := a.data.toList) (y := b.data.toList) (i := i) (o := o) HJL.out)
            have HRET := Lib.hid (fun hk => out_ret HPO.out hk)
            have HNOT := Lib.hid (fun hk => out_not HPO.out hk)
            have HMI := Lib.hid hmi
            have HRES := Lib.hid (HY.out.res.trans HST1.out)
            clear hmi hcl HTS HTI HST1
            generalize l[j]'HJL.out = p at *
            have HM := Lib.hid hm
            rw [hm] at c1
            rw [HMI.out] at HRES
            clear hm
            have him := HILE.out
            have HEA := Lib.hid (edge_any a ((i : Int) + (m : Int)) (i + m) (by push_cast; rfl) HILE.out hsa w1)
            have hwi : IntKind.i64.wrap ((i : Int) + (m : Int)) = (i : Int) + (m : Int) := by rw [IntKind.wrap_i64]; omega
            by_cases hk1 : p.k = 1
            · as_aux_lemma =>
                obtain ⟨hr1, hr2⟩ := HRET.out hk1
                have HOO := Lib.hid (show o + m = sOP (l.take (j + 1)) by rw [← HOO1.out, hr1, HMI.out])
                have HOLE := Lib.hid (show o + m ≤ b.size by have := HOLE1.out; rw [hr1, HMI.out] at this; exact this)
                have HSTEP := Lib.hid (by have := HRES.out; rw [hr1, HMI.out] at this; exact this)
                have hwo : IntKind.i64.wrap ((o : Int) + (m : Int)) = (o : Int) + (m : Int) := by have := HOLE.out; rw [IntKind.wrap_i64]; omega
                have hole : o ≤ b.size := HY.out.ole
                rw [hk1] at c0
                rw [hr2] at c2
                clear hk1 hr1 hr2
                have HEB1 := Lib.hid (edge_any b ((o : Int) + (m : Int)) (o + m) (by push_cast; rfl) HOLE.out hsb w1)
                go_wp2_with fail
                refine (HEA.out).mono ?_; rintro e w2 ⟨rfl, rfl⟩
                by_cases ha : edgeB a.data.toList (i + m) = true
                · as_aux_lemma =>
                  rw [ha]
                  go_wp2_with fail
                  refine (HEB1.out).mono ?_; rintro e w2 ⟨rfl, rfl⟩
                  by_cases hbb : edgeB b.data.toList (o + m) = true
                  · as_aux_lemma =>
                    rw [hbb]
                    have HNX := Lib.hid (show ByI a b l (j + 1) (i + m) (o + m) from ⟨HII.out, HOO.out, by rw [HSTEP.out, ha, hbb]; rfl, HILE.out, HOLE.out⟩)
                    clear ha hbb
                    go_wp2_with fail
                    go_round
                    case rel => exact ⟨j + 1, i + m, (o + m), by omega, by go_num, by go_num, by go_num, HNX.out⟩
                    case measure => (simp [intOf] <;> omega)
                  · as_aux_lemma =>
                    have hbf := Bool.eq_false_iff.2 hbb
                    rw [hbf]
                    have HE := Lib.hid (show byB a b l = false by rw [HSTEP.out, hbf, Bool.and_false]; rfl)
                    clear ha hbb
                    go_wp2_with fail
                    go_ret
                    exact ⟨by rw [HE.out] <;> rfl, HB1.out⟩
                · as_aux_lemma =>
                  have haf := Bool.eq_false_iff.2 ha
                  rw [haf]
                  have HE := Lib.hid (show byB a b l = false by rw [HSTEP.out, haf, Bool.false_and]; rfl)
                  clear ha
                  go_wp2_with fail
                  go_ret
                  exact ⟨by rw [HE.out] <;> rfl, HB1.out⟩
            · as_aux_lemma =>
                have hr1 := HNOT.out hk1
                have hb1 : (p.k == 1) = false := by rw [beq_eq_false_iff_ne]; exact hk1
                have hb2 : decide (p.k = 1) = false := decide_eq_false hk1
                generalize p.t = t at *
                have HOO := Lib.hid (show o + t.size = sOP (l.take (j + 1)) by rw [← HOO1.out, hr1])
                have HOLE := Lib.hid (show o + t.size ≤ b.size by have := HOLE1.out; rw [hr1] at this; exact this)
                have HSTEP := Lib.hid (by have := HRES.out; rw [hr1] at this; exact this)
                have hwo : IntKind.i64.wrap ((o : Int) + (t.size : Int)) = (o : Int) + (t.size : Int) := by have := HOLE.out; rw [IntKind.wrap_i64]; omega
                have hole : o ≤ b.size := HY.out.ole
                clear hk1 hr1
                have HEB1 := Lib.hid (edge_any b ((o : Int) + (t.size : Int)) (o + t.size) (by push_cast; rfl) HOLE.out hsb w1)
                go_wp2_with fail
                refine (HEA.out).mono ?_; rintro e w2 ⟨rfl, rfl⟩
                by_cases ha : edgeB a.data.toList (i + m) = true
                · as_aux_lemma =>
                  rw [ha]
                  go_wp2_with fail
                  refine (HEB1.out).mono ?_; rintro e w2 ⟨rfl, rfl⟩
                  by_cases hbb : edgeB b.data.toList (o + t.size) = true
                  · as_aux_lemma =>
                    rw [hbb]
                    have HNX := Lib.hid (show ByI a b l (j + 1) (i + m) (o + t.size) from ⟨HII.out, HOO.out, by rw [HSTEP.out, ha, hbb]; rfl, HILE.out, HOLE.out⟩)
                    clear ha hbb
                    go_wp2_with fail
                    go_round
                    case rel => exact ⟨j + 1, i + m, (o + t.size), by omega, by go_num, by go_num, by go_num, HNX.out⟩
                    case measure => (simp [intOf] <;> omega)
                  · as_aux_lemma =>
                    have hbf := Bool.eq_false_iff.2 hbb
                    rw [hbf]
                    have HE := Lib.hid (show byB a b l = false by rw [HSTEP.out, hbf, Bool.and_false]; rfl)
                    clear ha hbb
                    go_wp2_with fail
                    go_ret
                    exact ⟨by rw [HE.out] <;> rfl, HB1.out⟩
                · as_aux_lemma =>
                  have haf := Bool.eq_false_iff.2 ha
                  rw [haf]
                  have HE := Lib.hid (show byB a b l = false by rw [HSTEP.out, haf, Bool.false_and]; rfl)
                  clear ha
                  go_wp2_with fail
                  go_ret
                  exact ⟨by rw [HE.out] <;> rfl, HB1.out⟩
        · as_aux_lemma =>
            have hlt' : ¬ ((j : Int) < (n : Int)) := by omega
            have HE := Lib.hid (show byB a b l = true by
              rw [HY.out.res, show j = l.length by have := HL.out; omega, List.drop_length]
              rfl)
            clear hlt
            go_wp2_with fail
            go_ret
            exact ⟨by rw [HE.out] <;> rfl, HB1.out⟩
    · have HE := Lib.hid (show byB a b l = false by unfold byB; rw [if_pos h2, if_neg h1])
      have hs1 := st_ne h1
      have hs2 := st_ne' h1
      rw [h2] at HC
      generalize (appR a l).1 = x at *
      clear h1 h2
      go_enter Tryd.func20, Tryd.ntmps20
      go_wp2_with fail
      refine (HC.out).mono ?_; rintro e w1 ⟨rfl, hb1⟩
      have HB1 := Lib.hid hb1
      clear hb1
      go_wp2_with fail
      go_ret
      exact ⟨by rw [HE.out] <;> rfl, HB1.out⟩
  · have HE := Lib.hid (show byB a b l = false by unfold byB; rw [if_neg h2])
    generalize (appR a l).2 = x at *
    generalize (appR a l).1 = y at *
    have hx1 : (x == 0) = false := by rw [beq_eq_false_iff_ne]; exact h2
    have hx2 : (x != 0) = true := by rw [bne_iff_ne]; exact h2
    clear h2
    go_enter Tryd.func20, Tryd.ntmps20
    go_wp2_with fail
    refine (HC.out).mono ?_; rintro e w1 ⟨rfl, hb1⟩
    have HB1 := Lib.hid hb1
    clear hb1
    go_wp2_with fail
    go_ret
    exact ⟨by rw [HE.out] <;> rfl, HB1.out⟩
end Go.Proofs.YtfbjbgknfdekfaaDoor
