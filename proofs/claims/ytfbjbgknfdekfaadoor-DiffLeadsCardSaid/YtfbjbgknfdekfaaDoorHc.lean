/- Diff: the reference's fits, Apply, edge, ByLines: their walks. -/
import Derived.Test.YtfbjbgknfdekfaaDoorHa
import Derived.Test.YtfbjbgknfdekfaaDoorEu
import Derived.Test.YtfbjbgknfdekfaaDoorEw
namespace Go.Proofs.YtfbjbgknfdekfaaDoor
open Go.RowKit
set_option linter.unusedVariables false

/-- the error of pieces for a text of n bytes -/
def fitE (n : Nat) (l : List Pc) : Int := if checkP l = 0 then (if sIP l = n then 0 else 21) else checkP l
theorem fitE_zero {n : Nat} {l : List Pc} (h : fitE n l = 0) : checkP l = 0 ∧ sIP l = n := by
  unfold fitE at h
  by_cases h1 : checkP l = 0
  · rw [if_pos h1] at h
    by_cases h2 : sIP l = n
    · exact ⟨h1, h2⟩
    · rw [if_neg h2] at h; exact absurd h (by decide)
  · rw [if_neg h1] at h; exact absurd h h1
set_option maxRecDepth 100000 in
set_option maxHeartbeats 4000000 in
theorem refFits_any (s : ByteArray) (ao : Option Addr) (n c : Nat) (l : List Pc) (w : World) (h : IsR fP w ao n l) (hn63 : n ≤ 9223372036854775807) :
    Calls Tryd.prog 50 #[.string s, .slice ao n c] w fun e w' => e = .returned (.int .i64 (fitE s.size l)) ∧ Below w.heap.size w w' := by
  have hl := h.1
  have HR := Lib.hid h
  have HC := Lib.hid (refLengths_any ao n c l w h hn63)
  clear h
  by_cases hc : checkP l = 0
  · rw [lengths_of_check hc] at HC
    by_cases hs : sIP l = s.size
    · have HE := Lib.hid (show fitE s.size l = 0 by unfold fitE; rw [if_pos hc, if_pos hs])
      rw [hs] at HC
      clear hc hs
      go_enter Tryd.func50, Tryd.ntmps50
      go_wp2_with fail
      refine (HC.out).mono ?_; rintro e w1 ⟨rfl, hb1⟩
      have HB1 := Lib.hid hb1
      clear hb1
      go_wp2_with fail
      go_ret
      exact ⟨by rw [HE.out] <;> rfl, HB1.out⟩
    · have HE := Lib.hid (show fitE s.size l = 21 by unfold fitE; rw [if_pos hc, if_neg hs])
      generalize sIP l = x at *
      have hne : ((x : Int) != (s.size : Int)) = true := by rw [bne_iff_ne]; omega
      have hne2 : ((x : Int) == (s.size : Int)) = false := by rw [beq_eq_false_iff_ne]; omega
      clear hc hs
      go_enter Tryd.func50, Tryd.ntmps50
      go_wp2_with fail
      refine (HC.out).mono ?_; rintro e w1 ⟨rfl, hb1⟩
      have HB1 := Lib.hid hb1
      clear hb1
      go_wp2_with fail
      go_ret
      exact ⟨by rw [HE.out] <;> rfl, HB1.out⟩
  · have HE := Lib.hid (show fitE s.size l = checkP l by unfold fitE; rw [if_neg hc])
    rw [lengths_bad hc] at HC
    generalize checkP l = x at *
    have hne : (x == 0) = false := by rw [beq_eq_false_iff_ne]; exact hc
    clear hc
    go_enter Tryd.func50, Tryd.ntmps50
    go_wp2_with fail
    refine (HC.out).mono ?_; rintro e w1 ⟨rfl, hb1⟩
    have HB1 := Lib.hid hb1
    clear hb1
    go_wp2_with fail
    go_ret
    exact ⟨by rw [HE.out] <;> rfl, HB1.out⟩
def appR (s : ByteArray) (l : List Pc) : ByteArray × Int := if fitE s.size l = 0 then (⟨(appP s.data.toList l).toArray⟩, 0) else (⟨#[]⟩, fitE s.size l)
set_option maxRecDepth 100000 in
set_option maxHeartbeats 4000000 in
theorem refApply_any (s : ByteArray) (ao : Option Addr) (n c : Nat) (l : List Pc) (w : World) (h : IsR fP w ao n l) (hn63 : n ≤ 9223372036854775807) :
    Calls Tryd.prog 39 #[.string s, .slice ao n c] w fun e w' => e = .returned (.tuple #[.string (appR s l).1, .int .i64 (appR s l).2]) ∧ Below w.heap.size w w' := by
  have hl := h.1
  have HR := Lib.hid h
  have HC := Lib.hid (refFits_any s ao n c l w h hn63)
  clear h
  by_cases hf : fitE s.size l = 0
  · obtain ⟨hc, hs⟩ := fitE_zero hf
    obtain ⟨k1, k2, k3, k4⟩ := check_inv hc
    have HP := Lib.hid (fun (u : World) (hu : IsR fP u ao n l) => show Calls Tryd.prog 51 #[.string s, .slice ao n c] u (PartPost s l u) from refParts_any s ao n c l u hu (by omega) k2 hs k4 (by omega))
    have HE := Lib.hid (show appR s l = (⟨(appP s.data.toList l).toArray⟩, 0) from if_pos hf)
    rw [hf] at HC
    clear hf hc hs k1 k2 k3 k4
    go_enter Tryd.func39, Tryd.ntmps39
    go_wp2_with fail
    refine (HC.out).mono ?_; rintro e w1 ⟨rfl, hb1⟩
    have HB1 := Lib.hid hb1
    have HP1 := Lib.hid (HP.out w1 (HR.out.later hb1))
    clear hb1
    go_wp2_with fail
    refine (HP1.out).mono ?_; rintro e w2 ⟨⟨g, rfl⟩, hb2⟩
    have HB2 := Lib.hid (below_two HB1.out hb2)
    clear hb2
    go_wp2_with fail
    go_ret2
    exact ⟨by rw [HE.out]; rfl, HB2.out⟩
  · have HE := Lib.hid (show appR s l = (⟨#[]⟩, fitE s.size l) from if_neg hf)
    generalize fitE s.size l = x at *
    have hne : (x == 0) = false := by rw [beq_eq_false_iff_ne]; exact hf
    have hne2 : (x != 0) = true := by rw [bne_iff_ne]; exact hf
    clear hf
    go_enter Tryd.func39, Tryd.ntmps39
    go_wp2_with fail
    refine (HC.out).mono ?_; rintro e w1 ⟨rfl, hb1⟩
    have HB1 := Lib.hid hb1
    clear hb1
    go_wp2_with fail
    go_ret2
    exact ⟨by rw [HE.out]; rfl, HB1.out⟩
def edgeB (l : List UInt8) (p : Nat) : Bool := decide (p = 0) || decide (p = l.length) || (decide (0 < p) && decide (p < l.length) && decide (l[p - 1]? = some 10))
theorem edgeB_iff {l : List UInt8} {p : Nat} : edgeB l p = true ↔ edgeT l p := by
  unfold edgeB edgeT
  simp only [Bool.or_eq_true, Bool.and_eq_true, decide_eq_true_eq]
  constructor
  · rintro ((h | h) | ⟨⟨h1, h2⟩, h3⟩)
    · exact .inl h
    · exact .inr (.inl h)
    · exact .inr (.inr ⟨h1, h2, h3⟩)
  · rintro (h | h | ⟨h1, h2, h3⟩)
    · exact .inl (.inl h)
    · exact .inl (.inr h)
    · exact .inr ⟨⟨h1, h2⟩, h3⟩
set_option maxRecDepth 100000 in
set_option maxHeartbeats 4000000 in
theorem edge_any (s : ByteArray) (z : Int) (p : Nat) (hz : z = p) (hp : p ≤ s.size) (hs : s.size ≤ 1048576) (w : World) :
    Calls Tryd.prog 40 #[.string s, .int .i64 z] w fun e w' => e = .returned (.bool (edgeB s.data.toList p)) ∧ w = w' := by
  subst hz
  have hll : s.data.toList.length = s.size := Array.length_toList ..
  by_cases h0 : p = 0
  · subst h0
    have HE := Lib.hid (show edgeB s.data.toList 0 = true from edgeB_iff.2 (.inl rfl))
    clear hll
    go_enter Tryd.func40, Tryd.ntmps40
    go_wp2_with fail
    go_ret
    exact ⟨by rw [HE.out] <;> rfl, rfl⟩
  · have h0' : ((p : Int) == 0) = false := by rw [beq_eq_false_iff_ne]; omega
    by_cases h1 : p = s.size
    · have HE := Lib.hid (show edgeB s.data.toList p = true from edgeB_iff.2 (.inr (.inl (by rw [hll]; exact h1))))
      have h1' : ((p : Int) == (s.size : Int)) = true := by rw [beq_iff_eq]; omega
      clear hll h1
      go_enter Tryd.func40, Tryd.ntmps40
      go_wp2_with fail
      go_ret
      exact ⟨by rw [HE.out] <;> rfl, rfl⟩
    · have h1' : ((p : Int) == (s.size : Int)) = false := by rw [beq_eq_false_iff_ne]; omega
      obtain ⟨q, rfl⟩ : ∃ q, p = q + 1 := ⟨p - 1, by omega⟩
      have hlt : q < s.size := by omega
      have hb := byte_at s hlt
      have hq0 : (0 : Int) ≤ (q : Int) := by omega
      have hq1 : (q : Int) < (s.size : Int) := by omega
      have hq2 : (q : Int) + 1 < (s.size : Int) := by omega
      have hqw : IntKind.i64.wrap ((q : Int) + 1 - 1) = (q : Int) := by rw [IntKind.wrap_i64]; omega
      have hqq : (q : Int) + 1 - 1 = (q : Int) := by omega
      have hq3 : (0 : Int) < (q : Int) + 1 := by omega
      have h0'' : ((q : Int) + 1 == 0) = false := by rw [beq_eq_false_iff_ne]; omega
      have h1'' : ((q : Int) + 1 == (s.size : Int)) = false := by rw [beq_eq_false_iff_ne]; omega
      by_cases hc : s[q] = 10
      · have HE := Lib.hid (show edgeB s.data.toList (q + 1) = true from edgeB_iff.2 (.inr (.inr ⟨by omega, by rw [hll]; omega, by rw [Nat.add_sub_cancel, hb, hc]⟩)))
        have hee : ((s[q].toNat : Int) == 10) = true := by rw [hc]; rfl
        clear hll h1 hb hc
        go_enter Tryd.func40, Tryd.ntmps40
        go_wp2_with fail
        go_ret
        exact ⟨by rw [HE.out] <;> rfl, rfl⟩
      · have HE := Lib.hid (show edgeB s.data.toList (q + 1) = false by
          have h : ¬ edgeT s.data.toList (q + 1) := by
            rintro (h | h | ⟨_, _, h⟩)
            · omega
            · rw [hll] at h; exact h1 h
            · rw [Nat.add_sub_cancel, hb] at h
              injection h with h
              exact hc h
          exact Bool.eq_false_iff.2 fun k => h (edgeB_iff.1 k))
        have hee : ((s[q].toNat : Int) == 10) = false := by
          rw [beq_eq_false_iff_ne]
          exact fun e => hc (UInt8.toNat_inj.1 (by have : (10 : UInt8).toNat = 10 := rfl; omega))
        clear hll h1 hb hc
        go_enter Tryd.func40, Tryd.ntmps40
        go_wp2_with fail
        go_ret
        exact ⟨by rw [HE.out] <;> rfl, rfl⟩
end Go.Proofs.YtfbjbgknfdekfaaDoor
