/- Deltas: Normalize, Normal, Lengths, Identity of the program and of the reference. -/
import Derived.Test.YtkocknhpnmkicaaDoorDl
namespace Go.Proofs.YtkocknhpnmkicaaDoor
open Go.RowKit
set_option linter.unusedVariables false

def normL (l : List Pc) : List Pc := if checkP l = 0 then formP l else []
theorem own_mono {w : World} {B B' s : Nat} {e : TypeId} {v : Value} {n : Nat} {xs : List Value} (h : w.ownsRow B e s v n xs) (hB : B' ≤ B) : w.ownsRow B' e s v n xs := by
  refine ⟨h.1, ?_⟩
  rcases h.2 with hn | ⟨g, cap, cur, hv, hbg, rest⟩
  · exact .inl hn
  · exact .inr ⟨g, cap, cur, hv, by omega, rest⟩
def Rowed (w : World) (l : List Pc) (x : Int) (e : Ending) (w' : World) : Prop :=
  ∃ v, e = .returned (.tuple #[v, .int .i64 x]) ∧ w'.ownsRow w.heap.size 38 3 v l.length (flatR fP l) ∧ Below w.heap.size w w'
theorem own_nil (w : World) (B : Nat) : w.ownsRow B 38 3 (.slice none 0 0) ([] : List Pc).length (flatR fP []) := ⟨rfl, .inl ⟨rfl, rfl⟩⟩
theorem form_len {l : List Pc} (h : checkP l = 0) : l.length ≤ 300000 ∧ AllOk l ∧ sIP l ≤ 1000000000000 ∧ sOP l ≤ 100000000000000 := by
  obtain ⟨h1, h2, h3, h4⟩ := check_inv h
  exact ⟨by omega, h2, by omega, by omega⟩

set_option maxRecDepth 100000 in
set_option maxHeartbeats 4000000 in
theorem normalize_any (ao : Option Addr) (n c : Nat) (l : List Pc) (w : World) (h : IsR fP w ao n l) (hn63 : n ≤ 9223372036854775807) :
    Calls Tryd.prog 24 #[.slice ao n c] w (Rowed w (normL l) (checkP l)) := by
  have hl := h.1
  have HC := Lib.hid (check_any ao n c l w h hn63)
  have HR := Lib.hid h
  clear h
  go_enter Tryd.func24, Tryd.ntmps24
  go_wp2_with fail
  refine (HC.out).mono ?_; rintro e w1 ⟨rfl, hb1⟩
  have HB1 := Lib.hid hb1
  have hs1 := hb1.size
  have HR1 := Lib.hid (HR.out.later hb1)
  clear hb1 HC
  by_cases hc : checkP l = 0
  · have HE := Lib.hid (show normL l = formP l by unfold normL; rw [if_pos hc])
    have HCK := Lib.hid hc
    obtain ⟨k1, k2, k3, k4⟩ := form_len hc
    have HF := Lib.hid (form_any ao n c l w1 HR1.out (by omega) k2 k3 k4)
    rw [hc]
    clear hc k1 k2 k3 k4
    go_wp2_with fail
    refine (HF.out).mono ?_; rintro e w2 ⟨v, rfl, hown, hb2⟩
    have HOWN := Lib.hid hown
    have HB2 := Lib.hid (HB1.out.trans (hb2.mono hs1))
    clear hown hb2
    go_wp2_with fail
    go_ret2
    exact ⟨v, by rw [HCK.out] <;> rfl, by rw [HE.out]; exact own_mono HOWN.out hs1, HB2.out⟩
  · have HE := Lib.hid (show normL l = [] by unfold normL; rw [if_neg hc])
    have hc2 : (checkP l == 0) = false := by rw [beq_eq_false_iff_ne]; exact hc
    clear hc
    go_wp2_with fail
    go_ret2
    exact ⟨.slice none 0 0, rfl, by rw [HE.out]; exact own_nil _ _, HB1.out⟩

set_option maxRecDepth 100000 in
set_option maxHeartbeats 4000000 in
theorem refNormalize_any (ao : Option Addr) (n c : Nat) (l : List Pc) (w : World) (h : IsR fP w ao n l) (hn63 : n ≤ 9223372036854775807) :
    Calls Tryd.prog 23 #[.slice ao n c] w (Rowed w (normL l) (checkP l)) := by
  have hl := h.1
  have HC := Lib.hid (refCheck_pc ao n c l w h hn63)
  have HR := Lib.hid h
  clear h
  go_enter Tryd.func23, Tryd.ntmps23
  go_wp2_with fail
  refine (HC.out).mono ?_; rintro e w1 ⟨rfl, hb1⟩
  have HB1 := Lib.hid hb1
  have hs1 := hb1.size
  have HR1 := Lib.hid (HR.out.later hb1)
  clear hb1 HC
  by_cases hc : checkP l = 0
  · have HE := Lib.hid (show normL l = formP l by unfold normL; rw [if_pos hc])
    have HCK := Lib.hid hc
    obtain ⟨k1, k2, k3, k4⟩ := form_len hc
    have HF := Lib.hid (refForm_any ao n c l w1 HR1.out (by omega) k2 k3 k4)
    rw [hc]
    clear hc k1 k2 k3 k4
    go_wp2_with fail
    refine (HF.out).mono ?_; rintro e w2 ⟨v, rfl, hown, hb2⟩
    have HOWN := Lib.hid hown
    have HB2 := Lib.hid (HB1.out.trans (hb2.mono hs1))
    clear hown hb2
    go_wp2_with fail
    go_ret2
    exact ⟨v, by rw [HCK.out] <;> rfl, by rw [HE.out]; exact own_mono HOWN.out hs1, HB2.out⟩
  · have HE := Lib.hid (show normL l = [] by unfold normL; rw [if_neg hc])
    have hc2 : (checkP l == 0) = false := by rw [beq_eq_false_iff_ne]; exact hc
    clear hc
    go_wp2_with fail
    go_ret2
    exact ⟨.slice none 0 0, rfl, by rw [HE.out]; exact own_nil _ _, HB1.out⟩

/-- a row of an older world -/
theorem isR_on {α : Type} {f : α → List Value} {w w' : World} {a : Option Addr} {n : Nat} {l : List α} (h : IsR f w a n l) (hb : Below w.heap.size w w') : IsR f w' a n l := h.later hb
def normalB (l : List Pc) : Bool := if checkP l = 0 then sameL l (formP l) else false

set_option maxRecDepth 100000 in
set_option maxHeartbeats 4000000 in
theorem normal_any (ao : Option Addr) (n c : Nat) (l : List Pc) (w : World) (h : IsR fP w ao n l) (hn63 : n ≤ 9223372036854775807) :
    Calls Tryd.prog 19 #[.slice ao n c] w fun e w' => e = .returned (.bool (normalB l)) ∧ Below w.heap.size w w' := by
  have hl := h.1
  have HC := Lib.hid (check_any ao n c l w h hn63)
  have HR := Lib.hid h
  clear h
  go_enter Tryd.func19, Tryd.ntmps19
  go_wp2_with fail
  refine (HC.out).mono ?_; rintro e w1 ⟨rfl, hb1⟩
  have HB1 := Lib.hid hb1
  have hs1 := hb1.size
  have HR1 := Lib.hid (isR_on HR.out hb1)
  clear hb1 HC
  by_cases hc : checkP l = 0
  · have HE := Lib.hid (show normalB l = sameL l (formP l) by unfold normalB; rw [if_pos hc])
    obtain ⟨k1, k2, k3, k4⟩ := form_len hc
    have HF := Lib.hid (form_any ao n c l w1 HR1.out (by omega) k2 k3 k4)
    rw [hc]
    clear hc k1 k2 k3 k4
    go_wp2_with fail
    refine (HF.out).mono ?_; rintro e w2 ⟨v, rfl, hown, hb2⟩
    obtain ⟨ao2, cap2, rfl, hR2, -, -⟩ := IsR.owned (f := fP) (s := 3) fP_len (l := formP l) (n := (formP l).length) rfl hown
    have HR2 := Lib.hid hR2
    have HB2 := Lib.hid (HB1.out.trans (hb2.mono hs1))
    have HR3 := Lib.hid (isR_on HR.out HB2.out)
    clear hown hb2 hR2
    have HS := Lib.hid (equalPc_any ao ao2 n c (formP l).length cap2 l (formP l) w2 HR3.out HR2.out hn63)
    go_wp2_with fail
    refine (HS.out).mono ?_; rintro e w3 ⟨rfl, hb3⟩
    have HB3 := Lib.hid (below_two HB2.out hb3)
    clear hb3
    go_wp2_with fail
    go_ret
    exact ⟨by rw [HE.out] <;> rfl, HB3.out⟩
  · have HE := Lib.hid (show normalB l = false by unfold normalB; rw [if_neg hc])
    have hc2 : (checkP l == 0) = false := by rw [beq_eq_false_iff_ne]; exact hc
    clear hc
    go_wp2_with fail
    go_ret
    exact ⟨by rw [HE.out] <;> rfl, HB1.out⟩

set_option maxRecDepth 100000 in
set_option maxHeartbeats 4000000 in
theorem refNormal_any (ao : Option Addr) (n c : Nat) (l : List Pc) (w : World) (h : IsR fP w ao n l) (hn63 : n ≤ 9223372036854775807) :
    Calls Tryd.prog 20 #[.slice ao n c] w fun e w' => e = .returned (.bool (normalB l)) ∧ Below w.heap.size w w' := by
  have hl := h.1
  have HC := Lib.hid (refCheck_pc ao n c l w h hn63)
  have HR := Lib.hid h
  clear h
  go_enter Tryd.func20, Tryd.ntmps20
  go_wp2_with fail
  refine (HC.out).mono ?_; rintro e w1 ⟨rfl, hb1⟩
  have HB1 := Lib.hid hb1
  have hs1 := hb1.size
  have HR1 := Lib.hid (isR_on HR.out hb1)
  clear hb1 HC
  by_cases hc : checkP l = 0
  · have HE := Lib.hid (show normalB l = sameL l (formP l) by unfold normalB; rw [if_pos hc])
    obtain ⟨k1, k2, k3, k4⟩ := form_len hc
    have HF := Lib.hid (refForm_any ao n c l w1 HR1.out (by omega) k2 k3 k4)
    rw [hc]
    clear hc k1 k2 k3 k4
    go_wp2_with fail
    refine (HF.out).mono ?_; rintro e w2 ⟨v, rfl, hown, hb2⟩
    obtain ⟨ao2, cap2, rfl, hR2, -, -⟩ := IsR.owned (f := fP) (s := 3) fP_len (l := formP l) (n := (formP l).length) rfl hown
    have HR2 := Lib.hid hR2
    have HB2 := Lib.hid (HB1.out.trans (hb2.mono hs1))
    have HR3 := Lib.hid (isR_on HR.out HB2.out)
    clear hown hb2 hR2
    have HS := Lib.hid (refSame_any ao ao2 n c (formP l).length cap2 l (formP l) w2 HR3.out HR2.out hn63)
    go_wp2_with fail
    refine (HS.out).mono ?_; rintro e w3 ⟨rfl, hb3⟩
    have HB3 := Lib.hid (below_two HB2.out hb3)
    clear hb3
    go_wp2_with fail
    go_ret
    exact ⟨by rw [HE.out] <;> rfl, HB3.out⟩
  · have HE := Lib.hid (show normalB l = false by unfold normalB; rw [if_neg hc])
    have hc2 : (checkP l == 0) = false := by rw [beq_eq_false_iff_ne]; exact hc
    clear hc
    go_wp2_with fail
    go_ret
    exact ⟨by rw [HE.out] <;> rfl, HB1.out⟩
end Go.Proofs.YtkocknhpnmkicaaDoor
