/- Deltas: Lengths of the reference; Identity of the program and of the reference. -/
import Derived.Test.YtfbjbgknfdekfaaDoorDn
namespace Go.Proofs.YtfbjbgknfdekfaaDoor
open Go.RowKit
set_option linter.unusedVariables false

theorem take_sums {l : List Pc} {j : Nat} (h : j < l.length) : sIP (l.take (j + 1)) = sIP (l.take j) + (ofP l[j]).inn ∧ sOP (l.take (j + 1)) = sOP (l.take j) + (ofP l[j]).out := by
  rw [List.take_succ_eq_append_getElem h, sIP_append, sOP_append]
  exact ⟨rfl, rfl⟩
theorem take_le {l : List Pc} (j : Nat) : sIP (l.take j) ≤ sIP l ∧ sOP (l.take j) ≤ sOP l := by
  have e1 : sIP l = sIP (l.take j) + sIP (l.drop j) := by rw [← sIP_append, List.take_append_drop]
  have e2 : sOP l = sOP (l.take j) + sOP (l.drop j) := by rw [← sOP_append, List.take_append_drop]
  omega
theorem take_all_sums {l : List Pc} {n : Nat} (h : l.length = n) : sIP (l.take n) = sIP l ∧ sOP (l.take n) = sOP l := by
  rw [List.take_of_length_le (by omega)]
  exact ⟨rfl, rfl⟩
theorem lenL_bad : ∀ (l : List Pc) (i o : Int), (lenL i o l).2.2 ≠ 0 → (lenL i o l).1 = 0 ∧ (lenL i o l).2.1 = 0
  | [], i, o, h => absurd rfl h
  | p :: l, i, o, h => by
    unfold lenL at h ⊢
    by_cases h1 : okP p = false
    · rw [if_pos h1]; exact ⟨rfl, rfl⟩
    · rw [if_neg h1] at h ⊢
      by_cases h2 : 1048576 - i < inP p ∨ 1048576 - o < outP p
      · rw [if_pos h2]; exact ⟨rfl, rfl⟩
      · rw [if_neg h2] at h ⊢
        exact lenL_bad l _ _ h
theorem lengths_bad {l : List Pc} (h : checkP l ≠ 0) : lengthsP l = (0, 0, checkP l) := by
  have : (lengthsP l).1 = 0 ∧ (lengthsP l).2.1 = 0 := by
    unfold checkP at h
    unfold lengthsP at h ⊢
    by_cases h1 : 4096 < l.length
    · rw [if_pos h1]; exact ⟨rfl, rfl⟩
    · rw [if_neg h1] at h ⊢
      exact lenL_bad l 0 0 h
  exact Prod.ext this.1 (Prod.ext this.2 rfl)
set_option maxRecDepth 100000 in
set_option maxHeartbeats 4000000 in
theorem refSizes_any (ao : Option Addr) (n c : Nat) (l : List Pc) (w : World) (h : IsR fP w ao n l) (hok : AllOk l) (hn : n ≤ 300000) (hI : sIP l ≤ 1000000000000) (hO : sOP l ≤ 100000000000000) :
    Calls Tryd.prog 72 #[.slice ao n c] w fun e w' => e = .returned (.tuple #[.int .i64 (sIP l), .int .i64 (sOP l)]) ∧ w = w' := by
  have hl := h.1
  have HR := Lib.hid h
  have HOK := Lib.hid hok
  clear h hok
  go_enter Tryd.func72, Tryd.ntmps72
  go_wp2_with fail
  go_loopw [4, 5, 6] (fun s4 s5 s6 wr => ∃ (j : Nat), j ≤ n ∧ s6 = .int .i64 j ∧ s4 = .int .i64 (sIP (l.take j)) ∧ s5 = .int .i64 (sOP (l.take j)) ∧ w = wr) (fun _ _ s _ => n - (intOf s).toNat)
  case atStart => exact ⟨0, Nat.zero_le _, rfl, rfl, rfl, rfl⟩
  case round =>
    obtain ⟨j, hj, rfl, rfl, rfl, rfl⟩ := hrel
    have hT := take_le (l := l) j
    by_cases hlt : j < n
    · have hjl : j < l.length := by omega
      have hj1 : (j : Int) < (n : Int) := by omega
      have hj0 : (0 : Int) ≤ (j : Int) := by omega
      obtain ⟨bb, off, rfl, hbb, hcl⟩ := HR.out.pc (Below.refl _ w) hlt
      obtain ⟨c0, c1, c2⟩ := hcl hjl
      have HTS := Lib.hid (take_sums hjl)
      have hT1 := take_le (l := l) (j + 1)
      have HPK := Lib.hid (okP_cases (HOK.out l[j] (List.getElem_mem hjl)))
      have hti := HTS.out.1
      have hto := HTS.out.2
      clear hcl
      have HTI := Lib.hid hti
      have HTO := Lib.hid hto
      generalize l[j] = p at *
      obtain ⟨x, hx⟩ : ∃ x, x = sIP (l.take j) := ⟨_, rfl⟩
      obtain ⟨y, hy⟩ : ∃ y, y = sOP (l.take j) := ⟨_, rfl⟩
      rw [← hx] at HTI hti hT ⊢
      rw [← hy] at HTO hto hT ⊢
      rcases HPK.out with ⟨h1, h2, h3⟩ | ⟨h1, h2, h3⟩ | ⟨h1, h2, h3⟩
      · obtain ⟨m, hm⟩ : ∃ m : Nat, p.n = m := ⟨p.n.toNat, by omega⟩
        have hop : ofP p = .ret m := by unfold ofP; rw [h1, hm]; rfl
        have hpt := str_empty h3
        rw [hop] at HTI HTO hti hto
        have e1 : (Dp.ret m).inn = m := rfl
        have e2 : (Dp.ret m).out = m := rfl
        rw [e1] at HTI hti
        rw [e2] at HTO hto
        have hb1 : x + m ≤ 1000000000000 := by omega
        have hb2 : y + m ≤ 100000000000000 := by omega
        rw [h1] at c0
        rw [hm] at c1
        rw [hpt] at c2
        clear hop hpt h1 h2 h3 hm e1 e2 hti hto hx hy HTS hT hT1
        go_wp2_with fail
        go_roundw
        case rel => exact ⟨j + 1, by omega, by go_num, by rw [HTI.out]; go_num, by rw [HTO.out]; go_num, trivial⟩
        case measure => simp [intOf]; omega
      · obtain ⟨m, hm⟩ : ∃ m : Nat, p.n = m := ⟨p.n.toNat, by omega⟩
        have hop : ofP p = .del m := by unfold ofP; rw [h1, hm]; rfl
        have hpt := str_empty h3
        rw [hop] at HTI HTO hti hto
        have e1 : (Dp.del m).inn = m := rfl
        have e2 : (Dp.del m).out = 0 := rfl
        rw [e1] at HTI hti
        rw [e2] at HTO hto
        have hb1 : x + m ≤ 1000000000000 := by omega
        have hb2 : y ≤ 100000000000000 := by omega
        rw [h1] at c0
        rw [hm] at c1
        rw [hpt] at c2
        clear hop hpt h1 h2 h3 hm e1 e2 hti hto hx hy HTS hT hT1
        go_wp2_with fail
        go_roundw
        case rel => exact ⟨j + 1, by omega, by go_num, by rw [HTI.out]; go_num, by rw [HTO.out]; go_num, trivial⟩
        case measure => simp [intOf]; omega
      · have hop : ofP p = .ins p.t.data.toList := by unfold ofP; rw [h1]; rfl
        have hsz : p.t.data.toList.length = p.t.size := Array.length_toList ..
        rw [hop] at HTI HTO hti hto
        have e1 : (Dp.ins p.t.data.toList).inn = 0 := rfl
        have e2 : (Dp.ins p.t.data.toList).out = p.t.size := hsz
        rw [e1] at HTI hti
        rw [e2] at HTO hto
        have hb1 : x ≤ 1000000000000 := by omega
        have hb2 : y + p.t.size ≤ 100000000000000 := by omega
        rw [h1] at c0
        rw [h2] at c1
        clear hop h1 h2 h3 hsz e1 e2 hti hto hx hy HTS hT hT1
        go_wp2_with fail
        go_roundw
        case rel => exact ⟨j + 1, by omega, by go_num, by rw [HTI.out]; go_num, by rw [HTO.out]; go_num, trivial⟩
        case measure => simp [intOf]; omega
    · obtain rfl : j = n := by omega
      have HTA := Lib.hid (take_all_sums hl)
      go_wp2_with fail
      go_ret2
      exact ⟨by rw [← HTA.out.1, ← HTA.out.2] <;> rfl, rfl⟩

set_option maxRecDepth 100000 in
set_option maxHeartbeats 4000000 in
theorem refLengths_any (ao : Option Addr) (n c : Nat) (l : List Pc) (w : World) (h : IsR fP w ao n l) (hn63 : n ≤ 9223372036854775807) :
    Calls Tryd.prog 65 #[.slice ao n c] w fun e w' => e = .returned (.tuple #[.int .i64 (lengthsP l).1, .int .i64 (lengthsP l).2.1, .int .i64 (lengthsP l).2.2]) ∧ Below w.heap.size w w' := by
  have hl := h.1
  have HC := Lib.hid (refCheck_pc ao n c l w h hn63)
  have HR := Lib.hid h
  clear h
  go_enter Tryd.func65, Tryd.ntmps65
  go_wp2_with fail
  refine (HC.out).mono ?_; rintro e w1 ⟨rfl, hb1⟩
  have HB1 := Lib.hid hb1
  have HR1 := Lib.hid (HR.out.later hb1)
  clear hb1 HC
  by_cases hc : checkP l = 0
  · have HE := Lib.hid (lengths_of_check hc)
    obtain ⟨k1, k2, k3, k4⟩ := form_len hc
    have HF := Lib.hid (refSizes_any ao n c l w1 HR1.out k2 (by omega) k3 k4)
    rw [hc]
    clear hc k1 k2 k3 k4
    go_wp2_with fail
    refine (HF.out).mono ?_; rintro e w2 ⟨rfl, rfl⟩
    go_wp2_with fail
    go_ret3
    exact ⟨by rw [HE.out] <;> rfl, HB1.out⟩
  · have HE := Lib.hid (show lengthsP l = (0, 0, checkP l) from lengths_bad hc)
    have hc2 : (checkP l == 0) = false := by rw [beq_eq_false_iff_ne]; exact hc
    clear hc
    go_wp2_with fail
    go_ret3
    exact ⟨by rw [HE.out] <;> rfl, HB1.out⟩

def idL (n : Int) : List Pc := if n < 0 then [] else if 1048576 < n then [] else if n = 0 then [] else [⟨1, n, ⟨#[]⟩⟩]
def idE (n : Int) : Int := if n < 0 then 2 else if 1048576 < n then 5 else 0
theorem own_one (w : World) (p : Pc) : (w.alloc (.cells #[.int .u8 p.k, .int .i64 p.n, .string p.t] 45)).ownsRow w.heap.size 45 3 (.slice (some ⟨w.heap.size, 0, none⟩) 1 1) 1 (flatR fP [p]) :=
  ⟨rfl, .inr ⟨w.heap.size, 1, _, rfl, Nat.le_refl _, block_new _ _, Nat.le_refl _, by decide, rfl, rfl⟩⟩

set_option maxRecDepth 100000 in
set_option maxHeartbeats 2000000 in
theorem identity_any (n : Int) (w : World) : Calls Tryd.prog 26 #[.int .i64 n] w (Rowed w (idL n) (idE n)) := by
  have HB := Lib.hid (Below.refl w.heap.size w)
  by_cases h1 : n < 0
  · have HE := Lib.hid (show idL n = [] ∧ idE n = 2 from ⟨if_pos h1, if_pos h1⟩)
    go_enter Tryd.func26, Tryd.ntmps26
    go_wp2_with fail
    go_ret2
    exact ⟨.slice none 0 0, by rw [HE.out.2] <;> rfl, by rw [HE.out.1]; exact own_nil _ _, HB.out⟩
  by_cases h2 : 1048576 < n
  · have HE := Lib.hid (show idL n = [] ∧ idE n = 5 by unfold idL idE; rw [if_neg h1, if_neg h1, if_pos h2, if_pos h2]; exact ⟨rfl, rfl⟩)
    go_enter Tryd.func26, Tryd.ntmps26
    go_wp2_with fail
    go_ret2
    exact ⟨.slice none 0 0, by rw [HE.out.2] <;> rfl, by rw [HE.out.1]; exact own_nil _ _, HB.out⟩
  by_cases h3 : n = 0
  · have HE := Lib.hid (show idL n = [] ∧ idE n = 0 by unfold idL idE; rw [if_neg h1, if_neg h1, if_neg h2, if_neg h2, if_pos h3]; exact ⟨rfl, rfl⟩)
    subst h3
    go_enter Tryd.func26, Tryd.ntmps26
    go_wp2_with fail
    go_ret2
    exact ⟨.slice none 0 0, by rw [HE.out.2] <;> rfl, by rw [HE.out.1]; exact own_nil _ _, HB.out⟩
  · have HE := Lib.hid (show idL n = [⟨1, n, ⟨#[]⟩⟩] ∧ idE n = 0 by unfold idL idE; rw [if_neg h1, if_neg h1, if_neg h2, if_neg h2, if_neg h3]; exact ⟨rfl, rfl⟩)
    have h3' : (n == 0) = false := by rw [beq_eq_false_iff_ne]; exact h3
    clear h3
    have HOW := Lib.hid (own_one w ⟨1, n, ⟨#[]⟩⟩)
    have HB1 := Lib.hid ((Below.refl w.heap.size w).alloc (Nat.le_refl _) (.cells #[.int .u8 1, .int .i64 n, .string ⟨#[]⟩] 45))
    go_enter Tryd.func26, Tryd.ntmps26
    go_wp2_with fail
    go_ret2
    exact ⟨_, by rw [HE.out.2] <;> rfl, by rw [HE.out.1]; exact HOW.out, HB1.out⟩

end Go.Proofs.YtfbjbgknfdekfaaDoor

