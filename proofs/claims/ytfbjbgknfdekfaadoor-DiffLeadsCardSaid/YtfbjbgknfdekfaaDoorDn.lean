/- Deltas: the same pieces: slices.Equal of the program, Same of the reference. Deltas: the normal form of the reference: quartoref03.Form. Deltas: the normal form of the reference: quartoref03.Form. Deltas: Normalize, Normal, Lengths, Identity of the program and of the reference. Deltas: own; Equivalent of the program and of the reference; Lengths of the reference; Identity. -/
import Derived.Test.YtfbjbgknfdekfaaDoorDi
import Derived.Laws.AppendOwnNone
namespace Go.Proofs.YtfbjbgknfdekfaaDoor
open Go.RowKit
set_option linter.unusedVariables false

instance : DecidableEq Pc := fun p q =>
  if h : p.k = q.k ∧ p.n = q.n ∧ p.t = q.t then isTrue (pc_ext h.1 h.2.1 h.2.2) else isFalse (fun e => h (by subst e; exact ⟨rfl, rfl, rfl⟩))
def sameL (a b : List Pc) : Bool := decide (a = b)
theorem same_step {a b : List Pc} {j : Nat} (ha : j < a.length) (hb : j < b.length) (hl : a.length = b.length) (ht : a.take j = b.take j) (hne : a[j] ≠ b[j]) : sameL a b = false := by
  unfold sameL
  rw [decide_eq_false_iff_not]
  rintro rfl
  exact hne rfl
theorem same_take {a b : List Pc} {j : Nat} (ha : j < a.length) (hb : j < b.length) (ht : a.take j = b.take j) (he : a[j] = b[j]) : a.take (j + 1) = b.take (j + 1) := by
  rw [List.take_succ_eq_append_getElem ha, List.take_succ_eq_append_getElem hb, ht, he]
set_option maxRecDepth 100000 in
set_option maxHeartbeats 4000000 in
theorem refSame_any (ao bo : Option Addr) (n c m d : Nat) (a b : List Pc) (w : World) (h : IsR fP w ao n a) (k : IsR fP w bo m b) (hn : n ≤ 9223372036854775807) :
    Calls Tryd.prog 16 #[.slice ao n c, .slice bo m d] w fun e w' => e = .returned (.bool (sameL a b)) ∧ Below w.heap.size w w' := by
  have hla := h.1
  have hlb := k.1
  have HA := Lib.hid h
  have HK := Lib.hid k
  have HB := Lib.hid (Below.refl w.heap.size w)
  clear h k
  by_cases hnm : n = m
  · subst hnm
    go_enter Tryd.func16, Tryd.ntmps16
    go_wp2_with fail
    go_loopw [5] (fun s wr => ∃ (j : Nat), j ≤ n ∧ s = .int .i64 j ∧ a.take j = b.take j ∧ Below w.heap.size w wr) (fun s _ => n - (intOf s).toNat)
    case atStart => exact ⟨0, Nat.zero_le _, rfl, rfl, HB.out⟩
    case round =>
      obtain ⟨j, hj, rfl, htk, hbr⟩ := hrel
      have HTK := Lib.hid htk
      have HBR := Lib.hid hbr
      have HBN := Lib.hid (fun k => below_drewN hbr k)
      by_cases hlt : j < n
      · have hja : j < a.length := by omega
        have hjb : j < b.length := by omega
        have hj1 : (j : Int) < (n : Int) := by omega
        have hj0 : (0 : Int) ≤ (j : Int) := by omega
        obtain ⟨b1, o1, rfl, hbb1, hc1⟩ := HA.out.pc hbr hlt
        obtain ⟨b2, o2, rfl, hbb2, hc2⟩ := HK.out.pc hbr hlt
        obtain ⟨p0, p1, p2⟩ := hc1 hja
        obtain ⟨q0, q1, q2⟩ := hc2 hjb
        clear hc1 hc2 htk hbr
        by_cases he : a[j] = b[j]
        · have HTS := Lib.hid (same_take hja hjb HTK.out he)
          rw [he] at p0 p1 p2
          generalize b[j] = q at *
          clear he
          go_wp2_with fail
          go_quiet (fail)
          go_wp2_with fail
          go_roundw
          case rel => exact ⟨j + 1, by omega, by go_num, HTS.out, HBN.out _⟩
          case measure => simp [intOf]; omega
        · have HE := Lib.hid (same_step hja hjb (by omega) HTK.out he)
          have HNE := Lib.hid he
          generalize a[j] = p at *
          generalize b[j] = q at *
          clear he
          by_cases e1 : p.k = q.k
          · by_cases e2 : p.n = q.n
            · have e3 : p.t ≠ q.t := fun e => HNE.out (pc_ext e1 e2 e)
              have b4 : (p.t.toList == q.t.toList) = false := by
                rw [beq_eq_false_iff_ne, ByteArray.toList_eq, ByteArray.toList_eq]
                exact fun e => e3 (ByteArray.ext (Array.toList_inj.1 e))
              have b3 : (p.t == q.t) = false := by
                show (p.t.data == q.t.data) = false
                rw [beq_eq_false_iff_ne]
                exact fun e => e3 (ByteArray.ext e)
              clear e3
              rw [e1] at p0
              rw [e2] at p1
              clear e1 e2
              go_wp2_with fail
              go_quiet (fail)
              go_wp2_with fail
              go_ret
              exact ⟨by rw [HE.out] <;> rfl, HBN.out _⟩
            · have b2 : (p.n == q.n) = false := by rw [beq_eq_false_iff_ne]; exact e2
              rw [e1] at p0
              clear e1 e2
              go_wp2_with fail
              go_quiet (fail)
              go_wp2_with fail
              go_ret
              exact ⟨by rw [HE.out] <;> rfl, HBN.out _⟩
          · have b1 : (p.k == q.k) = false := by rw [beq_eq_false_iff_ne]; exact e1
            clear e1
            go_wp2_with fail
            go_quiet (fail)
            go_wp2_with fail
            go_ret
            exact ⟨by rw [HE.out] <;> rfl, HBN.out _⟩
      · obtain rfl : j = n := by omega
        have HE := Lib.hid (show sameL a b = true by
          unfold sameL
          have h := HTK.out
          rw [List.take_of_length_le (by omega), List.take_of_length_le (by omega)] at h
          exact decide_eq_true h)
        go_wp2_with fail
        go_ret
        exact ⟨by rw [HE.out] <;> rfl, HBR.out⟩
  · have HE := Lib.hid (show sameL a b = false by
      unfold sameL
      rw [decide_eq_false_iff_not]
      rintro rfl
      omega)
    have hb : ((n : Int) == (m : Int)) = false := by rw [beq_eq_false_iff_ne]; omega
    go_enter Tryd.func16, Tryd.ntmps16
    go_wp2_with fail
    go_ret
    exact ⟨by rw [HE.out] <;> rfl, HB.out⟩

end Go.Proofs.YtfbjbgknfdekfaaDoor

namespace Go.Proofs.YtfbjbgknfdekfaaDoor
open Go.RowKit
set_option linter.unusedVariables false

def notRet (l : List Pc) (j : Nat) : Prop := ∀ h : j < l.length, l[j].k ≠ 1
def gapR (k : Nat) : List Dp := if k = 0 then [] else [.ret k]
def Rst (l : List Dp) : List Dp → Prop := fun x => Dp.form x = Dp.form l
theorem ownP_grown {w w' : World} {B : Nat} {v u : Value} {n m : Nat} {l : List Pc} {xs : List Value} (h : w.ownsRow B 45 3 v n (flatR fP l)) (hu : w.ownsRow B 5 1 u m xs) (hg : w.grownBy w' u.ownBlock) : w'.ownsRow B 45 3 v n (flatR fP l) := by
  refine h.kept hg ?_
  rcases hv : v.ownBlock with _ | q
  · exact .inl rfl
  · refine .inr fun e => ?_
    obtain ⟨-, c1, h1⟩ := own_typS h hv
    obtain ⟨-, c2, h2⟩ := own_typS hu e.symm
    exact absurd rfl (cells_ty h1 h2 (by decide))
/-- within a gap of the reference -/
structure InGap (l : List Pc) (B : Nat) (w : World) (o : List Dp) (j0 j : Nat) (vo vt : Value) (t : List UInt8) (g : Nat) (wr : World) : Prop where
  out : wr.ownsRow B 45 3 vo o.length (flatR fP (o.map toP))
  text : wr.ownsRow B 5 1 vt t.length (Lib.byteCells t)
  form : Dp.form (o ++ (Dp.gapI t ++ (Dp.gapD g ++ (l.drop j).map ofP))) = Dp.form (l.map ofP)
  some : j = j0 ∨ t ≠ [] ∨ 0 < g
  below : Below B w wr
theorem gap_piece {l : List Pc} {j : Nat} (hj : j < l.length) (hok : okP l[j] = true) (hk : l[j].k ≠ 1) (t : List UInt8) (g : Nat) :
    Dp.form (Dp.gapI t ++ (Dp.gapD g ++ (l.drop j).map ofP)) = Dp.form (Dp.gapI (t ++ l[j].t.data.toList) ++ (Dp.gapD (g + l[j].n.toNat) ++ (l.drop (j + 1)).map ofP)) ∧ (t ++ l[j].t.data.toList ≠ [] ∨ 0 < g + l[j].n.toNat) := by
  have hd : (l.drop j).map ofP = ofP l[j] :: (l.drop (j + 1)).map ofP := by rw [List.drop_eq_getElem_cons hj]; rfl
  rw [hd]
  generalize l[j] = p at *
  rcases okP_cases hok with ⟨h1, h2, h3⟩ | ⟨h1, h2, h3⟩ | ⟨h1, h2, h3⟩
  · exact absurd h1 hk
  · have e := str_empty h3
    have e1 : p.t.data.toList = [] := by rw [e]
    rw [e1, List.append_nil]
    have e2 : ofP p = .del p.n.toNat := by unfold ofP; rw [h1]; rfl
    rw [e2]
    exact ⟨Dp.gap_del t _ g (by omega) _, .inr (by omega)⟩
  · have e2 : ofP p = .ins p.t.data.toList := by unfold ofP; rw [h1]; rfl
    have htn : p.t.data.toList ≠ [] := fun e => h3 (by
      show p.t.data.size = 0
      rw [← Array.length_toList, e]; rfl)
    rw [e2, h2]
    exact ⟨Dp.gap_ins t _ g htn _, .inl (by simp [htn])⟩
theorem ret_piece {l : List Pc} {j : Nat} (hj : j < l.length) (hok : okP l[j] = true) (hk : l[j].k = 1) (k : Nat) (o : List Dp) :
    Dp.form (o ++ (gapR k ++ (l.drop j).map ofP)) = Dp.form (o ++ (gapR (k + l[j].n.toNat) ++ (l.drop (j + 1)).map ofP)) ∧ 0 < l[j].n.toNat := by
  have hd : (l.drop j).map ofP = ofP l[j] :: (l.drop (j + 1)).map ofP := by rw [List.drop_eq_getElem_cons hj]; rfl
  rw [hd]
  generalize l[j] = p at *
  rcases okP_cases hok with ⟨h1, h2, h3⟩ | ⟨h1, h2, h3⟩ | ⟨h1, h2, h3⟩
  · have e2 : ofP p = .ret p.n.toNat := by
      unfold ofP
      rw [if_neg (by rw [hk]; decide), if_neg (by rw [hk]; decide)]
    rw [e2]
    refine ⟨Dp.form_congr o ?_, by omega⟩
    unfold gapR
    rw [if_neg (show ¬ (k + p.n.toNat = 0) by omega)]
    by_cases hk0 : k = 0
    · subst hk0
      rw [if_pos rfl, Nat.zero_add]
      rfl
    · rw [if_neg hk0]
      exact Dp.cons_ret _ _ _
  · rw [hk] at h1; exact absurd h1 (by decide)
  · rw [hk] at h1; exact absurd h1 (by decide)
theorem sI_gapR (k : Nat) : Dp.sI (gapR k) = k ∧ (gapR k).length ≤ 1 := by
  unfold gapR
  by_cases h : k = 0
  · subst h; exact ⟨rfl, Nat.zero_le _⟩
  · rw [if_neg h]; exact ⟨rfl, Nat.le_refl _⟩
theorem gap_len (t : List UInt8) (g : Nat) : (Dp.gapI t).length ≤ 1 ∧ (Dp.gapD g).length ≤ 1 := by
  unfold Dp.gapI Dp.gapD
  by_cases h1 : t = [] <;> by_cases h2 : g = 0 <;> simp [h1, h2]
end Go.Proofs.YtfbjbgknfdekfaaDoor

namespace Go.Proofs.YtfbjbgknfdekfaaDoor
open Go.RowKit
set_option linter.unusedVariables false

/-- a piece more at the end of an owned row -/
theorem ownP_snoc {w : World} {B : Nat} {v : Value} {o : List Dp} {d : Dp} {m : Nat} (h : w.ownsRow B 45 3 v m (flatR fP (o.map toP) ++ fP (toP d))) (hm : m = o.length + 1) : w.ownsRow B 45 3 v (o ++ [d]).length (flatR fP ((o ++ [d]).map toP)) := by
  rw [List.map_append, flatR_app, List.map_cons, List.map_nil, flatR_one, List.length_append]
  exact own_len h hm
theorem norm_round {l : List Pc} {o : List Dp} {j j2 : Nat} {t : List UInt8} {g k : Nat} (hn : Dp.Norm o) (he : Dp.EndsR o) (hf : o = [] ∨ notRet l j) (hs : j2 = j ∨ t ≠ [] ∨ 0 < g) (hr : ∀ h : j2 < l.length, l[j2].k = 1) (hj : j < l.length) :
    Dp.Norm (o ++ (Dp.gapI t ++ Dp.gapD g) ++ [.ret k]) := by
  refine Dp.norm_snoc (Dp.norm_gap hn he t g) fun u p e => ?_
  by_cases hg : g = 0
  · rw [show Dp.gapD g = [] from if_pos hg, List.append_nil] at e
    by_cases ht : t = []
    · rw [show Dp.gapI t = [] from if_pos ht, List.append_nil] at e
      have hj2 : j2 = j := by
        rcases hs with h | h | h
        · exact h
        · exact absurd ht h
        · omega
      subst hj2
      rcases hf with h | h
      · rw [h] at e
        simp at e
      · exact absurd (hr hj) (h hj)
    · rw [show Dp.gapI t = [Dp.ins t] from if_neg ht] at e
      have := List.append_inj_right' e rfl
      injection this with h _
      subst h
      trivial
  · rw [show Dp.gapD g = [Dp.del g] from if_neg hg, ← List.append_assoc] at e
    have := List.append_inj_right' e rfl
    injection this with h _
    subst h
    trivial
def RefAt (l : List Pc) (w : World) (j : Nat) (vo : Value) (wr : World) : Prop :=
  ∃ o : List Dp, wr.ownsRow w.heap.size 45 3 vo o.length (flatR fP (o.map toP)) ∧ Dp.form (o ++ (l.drop j).map ofP) = Dp.form (l.map ofP) ∧ Dp.Norm o ∧ (j < l.length → Dp.EndsR o) ∧ o.length ≤ 3 * j ∧ (o = [] ∨ notRet l j) ∧ Below w.heap.size w wr

theorem ref_round {l : List Pc} {w wr : World} {o2 : List Dp} {j j2 j3 k : Nat} {v : Value} (hj : j < l.length) (hjj : j ≤ j2) (hj3 : j3 ≤ l.length) (hown : wr.ownsRow w.heap.size 45 3 v (o2 ++ gapR k).length (flatR fP ((o2 ++ gapR k).map toP)))
    (hform : Dp.form (o2 ++ (gapR k ++ (l.drop j3).map ofP)) = Dp.form (l.map ofP)) (hN2 : Dp.Norm o2) (hNK : Dp.Norm (o2 ++ [.ret k])) (hk : j3 = j2 ∧ k = 0 ∨ j2 < j3 ∧ 0 < k) (hnr : ∀ h : j2 < l.length, l[j2].k = 1) (hex : notRet l j3) (hlen : o2.length ≤ 3 * j + 2) (hb : Below w.heap.size w wr) :
    RefAt l w j3 v wr ∧ j < j3 := by
  have hjk : j < j3 := by
    rcases hk with ⟨h, -⟩ | ⟨h, -⟩
    · subst h
      by_cases h2 : j3 < l.length
      · exact absurd (hnr h2) (hex h2)
      · omega
    · omega
  have h1 := (sI_gapR k).2
  refine ⟨⟨o2 ++ gapR k, hown, by rw [List.append_assoc]; exact hform, ?_, fun h => ?_, by rw [List.length_append]; omega, .inr hex, hb⟩, hjk⟩
  · by_cases h : k = 0
    · rw [show gapR k = [] from if_pos h, List.append_nil]; exact hN2
    · rw [show gapR k = [Dp.ret k] from if_neg h]; exact hNK
  · rcases hk with ⟨h2, -⟩ | ⟨-, h2⟩
    · subst h2
      exact absurd (hnr h) (hex h)
    · rw [show gapR k = [Dp.ret k] from if_neg (by omega)]
      exact Dp.EndsR.snoc _ _

set_option maxRecDepth 100000 in
set_option maxHeartbeats 8000000 in
theorem refForm_any (ao : Option Addr) (n c : Nat) (l : List Pc) (w : World) (h : IsR fP w ao n l) (hn : n ≤ 300000) (hok : AllOk l) (hI : sIP l ≤ 1000000000000) (hO : sOP l ≤ 100000000000000) :
    Calls Tryd.prog 38 #[.slice ao n c] w fun e w' => ∃ v, e = .returned v ∧ w'.ownsRow w.heap.size 45 3 v (formP l).length (flatR fP (formP l)) ∧ Below w.heap.size w w' := by
  obtain ⟨i0, hi0, hz0, hz1, hz2⟩ := info_parts infoPc
  obtain ⟨i1, hi1, hy0, hy1, hy2⟩ := info_parts infoU8
  have hl := h.1
  have HR := Lib.hid h
  have HOK := Lib.hid hok
  clear h hok
  go_enter Tryd.func38, Tryd.ntmps38
  go_wp2_with fail
  go_loopw [3, 4] (fun vo s wr => ∃ (j : Nat), j ≤ n ∧ s = .int .i64 j ∧ RefAt l w j vo wr) (fun _ s _ => n - (intOf s).toNat)
  case atStart => exact ⟨0, Nat.zero_le _, rfl, [], ⟨rfl, .inl ⟨rfl, rfl⟩⟩, rfl, trivial, fun _ => Dp.EndsR.nil, Nat.zero_le _, .inl rfl, Below.refl _ _⟩
  case round =>
    obtain ⟨j, hj, rfl, o, hown, hform, hnorm, hends, hlen, hfirst, hbr⟩ := hrel
    obtain ⟨ao1, cap1, rfl, hsome1⟩ := own_form hown
    have HF := Lib.hid hform
    have HN := Lib.hid hnorm
    have HE := Lib.hid hends
    have HFI := Lib.hid hfirst
    have hsz := hbr.size
    by_cases hlt : j < n
    · have hj1 : (j : Int) < (n : Int) := by omega
      have HG0 := Lib.hid (show InGap l w.heap.size w o j j (.slice ao1 o.length cap1) (.slice none 0 0) [] 0 wr from ⟨hown, ⟨rfl, .inl ⟨rfl, rfl⟩⟩, hform, .inl rfl, hbr⟩)
      clear hown hform hnorm hends hfirst hbr hsome1
      go_wp2_with fail
      go_loopw [4, 5, 6] (fun s4 vt s6 wr => ∃ (j2 : Nat) (t : List UInt8) (g : Nat), j ≤ j2 ∧ j2 ≤ n ∧ s4 = .int .i64 j2 ∧ s6 = .int .i64 g ∧ InGap l w.heap.size w o j j2 (.slice ao1 o.length cap1) vt t g wr) (fun s _ _ _ => n - (intOf s).toNat)
      case atStart => exact ⟨j, [], 0, Nat.le_refl _, hj, rfl, rfl, HG0.out⟩
      case round =>
        obtain ⟨j2, t, g, hj2, hj2n, rfl, rfl, hG⟩ := hrel
        obtain ⟨hs1, hs2⟩ := form_sums hG.form
        have HG := Lib.hid hG
        have hsz2 := hG.below.size
        have HBR2 := Lib.hid hG.below
        obtain ⟨at1, cat, rfl, hconv⟩ := own_conv hG.text rfl
        have HCV := Lib.hid hconv
        clear hconv
        clear HG0
        by_cases hin : j2 < n ∧ ∃ h : j2 < l.length, l[j2].k ≠ 1
        · obtain ⟨hlt2, hjl, hk1⟩ := hin
          obtain ⟨hd1, hd2⟩ := drop_sums hjl
          have HPI := Lib.hid (inP_of (HOK.out l[j2] (List.getElem_mem hjl)))
          have HPK := Lib.hid (okP_cases (HOK.out l[j2] (List.getElem_mem hjl)))
          obtain ⟨hp1, hp2⟩ := gap_piece hjl (HOK.out l[j2] (List.getElem_mem hjl)) hk1 t g
          have hj2i : (j2 : Int) < (n : Int) := by omega
          have hj20 : (0 : Int) ≤ (j2 : Int) := by omega
          obtain ⟨bb, off, rfl, hbb, hcl⟩ := HR.out.pc hG.below hlt2
          obtain ⟨c0, c1, c2⟩ := hcl hjl
          have HSI := Lib.hid hs1
          have HSO := Lib.hid hs2
          have HD1 := Lib.hid hd1
          have HD2 := Lib.hid hd2
          have HP1 := Lib.hid hp1
          have HP2 := Lib.hid hp2
          clear hcl hs1 hs2 hd1 hd2 hp1 hp2 hG
          generalize l[j2] = p at *
          obtain ⟨m, hm⟩ : ∃ m : Nat, p.n = m := ⟨p.n.toNat, by rcases HPK.out with h | h | h <;> omega⟩
          have hb1 : (p.k == 1) = false := by rw [beq_eq_false_iff_ne]; exact hk1
          have hb2 : decide (p.k = 1) = false := decide_eq_false hk1
          have HTO := Lib.hid (show t.length + p.t.size ≤ 100000000000000 by
            have := HSO.out
            have := HD2.out
            have := HPI.out.2
            rcases HPK.out with ⟨h1, h2, h3⟩ | ⟨h1, h2, h3⟩ | ⟨h1, h2, h3⟩
            · omega
            · omega
            · unfold outP at this; rw [h1] at this; simp at this; omega)
          have hmI : g + m ≤ 1000000000000 := by
            have := HSI.out
            have := HD1.out
            have := HPI.out.1
            rcases HPK.out with ⟨h1, h2, h3⟩ | ⟨h1, h2, h3⟩ | ⟨h1, h2, h3⟩
            · exact absurd h1 hk1
            · unfold inP at this; rw [h1] at this; simp at this; omega
            · omega
          rw [hm] at c1
          have HM := Lib.hid hm
          clear hk1 hm
          go_wp2_with (at_builtin; refine Lib.wpList_append_own_string _ rfl _ _ 47 9 rfl w.heap.size 5 i1 Tryd.underlying47 Tryd.underlying9 hi1 hy0 hy1 hy2 _ t.length _ rfl HG.out.text p.t rfl (by unfold maxLen; have := HTO.out; omega) (by have := HTO.out; omega) hsz2 ?c1)
          case c1 =>
            intro v4 w4 hown4 hgrow4 hnil4
            have HC1 := Lib.hid c1
            have hb4 : Below w.heap.size w w4 := HBR2.out.grown hgrow4 hsz2 fun q hq => (own_typ1 HG.out.text hq).1
            have cc1 : w4.cell? ⟨bb, off + j2 * 3 + 1, none⟩ = some (.int .i64 m) := (hb4.cell (p := ⟨bb, off + j2 * 3 + 1, none⟩) hbb).trans ((HBR2.out.cell (p := ⟨bb, off + j2 * 3 + 1, none⟩) hbb).symm.trans HC1.out)
            have HG4 := Lib.hid (show InGap l w.heap.size w o j (j2 + 1) (.slice ao1 o.length cap1) v4 (t ++ p.t.data.toList) (g + m) w4 from by
              have hmn : p.n.toNat = m := by rw [HM.out]; rfl
              refine ⟨ownP_grown HG.out.out HG.out.text hgrow4, ?_, ?_, ?_, hb4⟩
              · rw [List.length_append, ← byteCells_app, ← str_cells]
                exact own_len hown4 (by rw [show p.t.data.toList.length = p.t.size from Array.length_toList ..])
              · rw [← HG.out.form, ← hmn]
                exact Dp.form_congr o HP1.out.symm
              · rw [← hmn]
                exact .inr HP2.out)
            clear hown4 hgrow4 hnil4 hb4 c0 c1 c2 HG HBR2
            go_wp2_with fail
            go_roundw
            case rel => exact ⟨j2 + 1, _, g + m, by omega, by omega, by go_num, by go_num, HG4.out⟩
            case measure => simp [intOf]; omega
        · have HNR := Lib.hid (show ∀ h : j2 < l.length, l[j2].k = 1 from fun h => Classical.byContradiction fun hk => hin ⟨by omega, h, hk⟩)
          have hgI : g ≤ 1000000000000 := by omega
          have htO : t.length ≤ 100000000000000 := by omega
          have HSI := Lib.hid hs1
          clear hin hs1 hs2 hG
          by_cases hA : j2 < n
          · have hjl : j2 < l.length := by omega
            have hj2i : (j2 : Int) < (n : Int) := by omega
            have hj20 : (0 : Int) ≤ (j2 : Int) := by omega
            obtain ⟨bb, off, rfl, hbb, hcl⟩ := HR.out.pc HBR2.out hA
            have c0 := (hcl hjl).1
            rw [HNR.out hjl] at c0
            clear hcl
            go_upto_if 41 with (fail)
            go_cut [3] from 7 to 82 (fun v1 wq => wq.ownsRow w.heap.size 45 3 v1 (o ++ Dp.gapI t).length (flatR fP ((o ++ Dp.gapI t).map toP)) ∧ Below w.heap.size w wq)
            case first =>
              by_cases htn : t = []
              · have HO1 := Lib.hid (show wr.ownsRow w.heap.size 45 3 (.slice ao1 o.length cap1) (o ++ Dp.gapI t).length (flatR fP ((o ++ Dp.gapI t).map toP)) by
                  rw [show Dp.gapI t = [] from if_pos htn, List.append_nil]
                  exact HG.out.out)
                have hl0 : ¬ ((0 : Int) < (t.length : Int)) := by rw [htn]; simp
                clear htn
                go_wp2_with fail
                go_meet
                case rel => exact ⟨HO1.out, HBR2.out⟩
              · have hl0 : (0 : Int) < (t.length : Int) := by have := List.length_pos_iff.2 htn; omega
                have HGI := Lib.hid (show Dp.gapI t = [Dp.ins t] from if_neg htn)
                have hconv := HCV.out
                clear htn
                go_wp2_with (at_builtin; refine wpList_append_lies _ rfl _ _ 26 rfl w.heap.size 45 i0 _ 3 32 Tryd.underlying26 hi0 hz0 hz1 hz2 rfl (by decide) _ o.length _ rfl (HG.out.out.alloc _) ⟨wr.heap.size, 0, none⟩ 1 1 [.int .u8 2, .int .i64 0, .string ⟨t.toArray⟩] rfl rfl (World.news_of_block (cs := #[_, _, _]) (t := 45) (fr := (0, 0)) (heap_alloc_new wr _)) (by simp [Value.oneCell']) (by omega) (by unfold maxLen; omega) (by omega) (by simp; omega) (wr.heap.size + 1) (by simp) ?c2)
                case c2 =>
                  intro gg cap w4 hown4 hgrow4 hat4 hlt4
                  have HO4 := Lib.hid (show w4.ownsRow w.heap.size 45 3 (.slice (some ⟨gg, 0, none⟩) (o.length + 1) cap) (o ++ Dp.gapI t).length (flatR fP ((o ++ Dp.gapI t).map toP)) by
                    rw [HGI.out]
                    exact ownP_snoc (d := .ins t) hown4 rfl)
                  have HB4 := Lib.hid ((HBR2.out.alloc hsz2 _).grown hgrow4 (by simp; omega) fun q hq => (own_typS HG.out.out hq).1)
                  clear hown4 hgrow4 hat4 hlt4 hconv
                  go_wp2_with fail
                  go_meet
                  case rel => exact ⟨HO4.out, HB4.out⟩
            case rest =>
              obtain ⟨hown1, hb1⟩ := hcut
              obtain ⟨o1, ho1⟩ : ∃ o1, o1 = o ++ Dp.gapI t := ⟨_, rfl⟩
              rw [← ho1] at hown1
              have ho1l : o1.length ≤ 3 * j + 1 := by
                have := (gap_len t g).1
                rw [ho1, List.length_append]; omega
              have HO1 := Lib.hid ho1
              obtain ⟨ao2, cap2, rfl, hsome2⟩ := own_form hown1
              have HW1 := Lib.hid hown1
              have HB1 := Lib.hid hb1
              have hsz1 := hb1.size
              clear hown1 hb1 hsome2 ho1 HBR2 HCV hsz2
              go_upto_if 49 with (fail)
              go_cut [3] from 7 to 82 (fun v2 wq => wq.ownsRow w.heap.size 45 3 v2 (o1 ++ Dp.gapD g).length (flatR fP ((o1 ++ Dp.gapD g).map toP)) ∧ Below w.heap.size w wq)
              case first =>
                by_cases hg0 : g = 0
                · have HO2 := Lib.hid (show wc.ownsRow w.heap.size 45 3 (.slice ao2 o1.length cap2) (o1 ++ Dp.gapD g).length (flatR fP ((o1 ++ Dp.gapD g).map toP)) by
                    rw [show Dp.gapD g = [] from if_pos hg0, List.append_nil]
                    exact HW1.out)
                  have hg1 : ¬ ((0 : Int) < (g : Int)) := by omega
                  clear hg0
                  go_wp2_with fail
                  go_meet
                  case rel => exact ⟨HO2.out, HB1.out⟩
                · have hg1 : (0 : Int) < (g : Int) := by omega
                  have HGD := Lib.hid (show Dp.gapD g = [Dp.del g] from if_neg hg0)
                  clear hg0
                  go_wp2_with (at_builtin; refine wpList_append_lies _ rfl _ _ 26 rfl w.heap.size 45 i0 _ 3 32 Tryd.underlying26 hi0 hz0 hz1 hz2 rfl (by decide) _ o1.length _ rfl (HW1.out.alloc _) ⟨wc.heap.size, 0, none⟩ 1 1 [.int .u8 3, .int .i64 g, .string ⟨#[]⟩] rfl rfl (World.news_of_block (cs := #[_, _, _]) (t := 45) (fr := (0, 0)) (heap_alloc_new wc _)) (by simp [Value.oneCell']) (by omega) (by unfold maxLen; omega) (by omega) (by simp; omega) (wc.heap.size + 1) (by simp) ?c3)
                  case c3 =>
                    intro gg cap w4 hown4 hgrow4 hat4 hlt4
                    have HO4 := Lib.hid (show w4.ownsRow w.heap.size 45 3 (.slice (some ⟨gg, 0, none⟩) (o1.length + 1) cap) (o1 ++ Dp.gapD g).length (flatR fP ((o1 ++ Dp.gapD g).map toP)) by
                      rw [HGD.out]
                      exact ownP_snoc (d := .del g) hown4 rfl)
                    have HB4 := Lib.hid ((HB1.out.alloc hsz1 _).grown hgrow4 (by simp; omega) fun q hq => (own_typS HW1.out hq).1)
                    clear hown4 hgrow4 hat4 hlt4
                    go_wp2_with fail
                    go_meet
                    case rel => exact ⟨HO4.out, HB4.out⟩
              case rest =>
                obtain ⟨hown2, hb2⟩ := hcut
                obtain ⟨o2, ho2⟩ : ∃ o2, o2 = o1 ++ Dp.gapD g := ⟨_, rfl⟩
                rw [← ho2] at hown2
                have ho2l : o2.length ≤ 3 * j + 2 := by
                  have := (gap_len t g).2
                  rw [ho2, List.length_append]; omega
                have HO2 := Lib.hid (show o2 = o ++ (Dp.gapI t ++ Dp.gapD g) by rw [ho2, HO1.out, List.append_assoc])
                obtain ⟨ao3, cap3, rfl, hsome3⟩ := own_form hown2
                have HW2 := Lib.hid hown2
                have HB2 := Lib.hid hb2
                have HF2 := Lib.hid (show Dp.form (o2 ++ (gapR 0 ++ (l.drop j2).map ofP)) = Dp.form (l.map ofP) by
                  rw [← HG.out.form, HO2.out, List.append_assoc, List.append_assoc]
                  rfl)
                have HNK := Lib.hid (fun k => show Dp.Norm (o2 ++ [.ret k]) from HO2.out ▸ norm_round (k := k) HN.out (HE.out (by omega)) HFI.out HG.out.some HNR.out (by omega))
                have HN2 := Lib.hid (show Dp.Norm o2 from HO2.out ▸ Dp.norm_gap HN.out (HE.out (by omega)) t g)
                clear hown2 hb2 hsome3 ho2 HW1 HB1 HO1
                go_wp2_with fail
                go_loopw [4, 6] (fun s4 s6 wr => ∃ (j3 k : Nat), j2 ≤ j3 ∧ j3 ≤ n ∧ s4 = .int .i64 j3 ∧ s6 = .int .i64 k ∧ Dp.form (o2 ++ (gapR k ++ (l.drop j3).map ofP)) = Dp.form (l.map ofP) ∧ (j3 = j2 ∧ k = 0 ∨ j2 < j3 ∧ 0 < k) ∧ wr.ownsRow w.heap.size 45 3 (.slice ao3 o2.length cap3) o2.length (flatR fP (o2.map toP)) ∧ Below w.heap.size w wr) (fun s _ _ => n - (intOf s).toNat)
                case atStart => exact ⟨j2, 0, Nat.le_refl _, hj2n, rfl, rfl, HF2.out, .inl ⟨rfl, rfl⟩, HW2.out, HB2.out⟩
                case round =>
                  obtain ⟨j3, k, hj3, hj3n, rfl, rfl, hf3, hk3, hw3, hb3⟩ := hrel
                  have hsz3 := hb3.size
                  have HF3 := Lib.hid hf3
                  have HK3 := Lib.hid hk3
                  have HW3 := Lib.hid hw3
                  have HB3 := Lib.hid hb3
                  have hko : k ≤ 1000000000000 := by
                    have h := congrArg Dp.sI hf3
                    rw [Dp.sI_form, Dp.sI_form, Dp.sI_append, Dp.sI_append, (sI_gapR k).1] at h
                    have : sIP l = Dp.sI (l.map ofP) := rfl
                    omega
                  clear HF2 HW2 HB2
                  by_cases hA3 : j3 < n
                  · have hj3l : j3 < l.length := by omega
                    have hj3i : (j3 : Int) < (n : Int) := by omega
                    have hj30 : (0 : Int) ≤ (j3 : Int) := by omega
                    obtain ⟨bb3, off3, hao, hbb3, hcl3⟩ := HR.out.pc hb3 hA3
                    injection hao with hao
                    injection hao with e1 e2
                    subst e1 e2
                    obtain ⟨d0, d1, d2⟩ := hcl3 hj3l
                    clear hcl3 hf3 hk3 hw3 hb3
                    by_cases hk1 : l[j3].k = 1
                    · obtain ⟨hp1, hp2⟩ := ret_piece hj3l (HOK.out _ (List.getElem_mem hj3l)) hk1 k o2
                      have HP1 := Lib.hid (HF3.out.symm.trans hp1)
                      obtain ⟨m, hm⟩ : ∃ m : Nat, l[j3].n = m := ⟨l[j3].n.toNat, by omega⟩
                      have hmn : l[j3].n.toNat = m := by rw [hm]; rfl
                      rw [hmn] at HP1 hp2
                      have hmI : k + m ≤ 1000000000000 := by
                        have h := congrArg Dp.sI HP1.out.symm
                        rw [Dp.sI_form, Dp.sI_form, Dp.sI_append, Dp.sI_append, (sI_gapR (k + m)).1] at h
                        have : sIP l = Dp.sI (l.map ofP) := rfl
                        omega
                      rw [hk1] at d0
                      rw [hm] at d1
                      clear hk1 hm hmn hp1
                      generalize l[j3] = p3 at *
                      go_wp2_with fail
                      go_roundw
                      case rel => exact ⟨j3 + 1, k + m, by omega, by omega, by go_num, by go_num, HP1.out.symm, .inr ⟨by omega, by omega⟩, HW3.out, HB3.out⟩
                      case measure => simp [intOf]; omega
                    · have HEX := Lib.hid (show notRet l j3 from fun _ => hk1)
                      generalize l[j3] = p3 at *
                      have hb1 : (p3.k == 1) = false := by rw [beq_eq_false_iff_ne]; exact hk1
                      have hb2 : decide (p3.k = 1) = false := decide_eq_false hk1
                      clear hk1
                      by_cases hk0 : k = 0
                      · have hown' : wr.ownsRow w.heap.size 45 3 (.slice ao3 o2.length cap3) (o2 ++ gapR k).length (flatR fP ((o2 ++ gapR k).map toP)) := by
                          rw [show gapR k = [] from if_pos hk0, List.append_nil]
                          exact HW3.out
                        obtain ⟨hra, hjj3⟩ := ref_round (w := w) (v := .slice ao3 o2.length cap3) (by omega) hj2 (by omega) hown' HF3.out HN2.out (HNK.out k) HK3.out HNR.out HEX.out ho2l HB3.out
                        have HRA := Lib.hid hra
                        clear hra hown'
                        subst hk0
                        go_wp2_with fail
                        go_roundw
                        case rel => exact ⟨j3, by omega, rfl, HRA.out⟩
                        case measure => simp [intOf]; omega
                      · have hk1 : (0 : Int) < (k : Int) := by omega
                        have HGR := Lib.hid (show gapR k = [Dp.ret k] from if_neg hk0)
                        clear hk0
                        go_wp2_with (at_builtin; refine wpList_append_lies _ rfl _ _ 26 rfl w.heap.size 45 i0 _ 3 32 Tryd.underlying26 hi0 hz0 hz1 hz2 rfl (by decide) _ o2.length _ rfl (HW3.out.alloc _) ⟨wr.heap.size, 0, none⟩ 1 1 [.int .u8 1, .int .i64 k, .string ⟨#[]⟩] rfl rfl (World.news_of_block (cs := #[_, _, _]) (t := 45) (fr := (0, 0)) (heap_alloc_new wr _)) (by simp [Value.oneCell']) (by omega) (by unfold maxLen; omega) (by omega) (by simp; omega) (wr.heap.size + 1) (by simp) ?c4)
                        case c4 =>
                          intro gg cap w4 hown4 hgrow4 hat4 hlt4
                          have hown' : w4.ownsRow w.heap.size 45 3 (.slice (some ⟨gg, 0, none⟩) (o2.length + 1) cap) (o2 ++ gapR k).length (flatR fP ((o2 ++ gapR k).map toP)) := by
                            rw [HGR.out]
                            exact ownP_snoc (d := .ret k) hown4 rfl
                          have hb4 : Below w.heap.size w w4 := (HB3.out.alloc hsz3 _).grown hgrow4 (by simp; omega) fun q hq => (own_typS HW3.out hq).1
                          obtain ⟨hra, hjj3⟩ := ref_round (w := w) (v := .slice (some ⟨gg, 0, none⟩) (o2.length + 1) cap) (by omega) hj2 (by omega) hown' HF3.out HN2.out (HNK.out k) HK3.out HNR.out HEX.out ho2l hb4
                          have HRA := Lib.hid hra
                          clear hown4 hgrow4 hat4 hlt4 hra hown' hb4
                          go_wp2_with fail
                          go_roundw
                          case rel => exact ⟨j3, by omega, rfl, HRA.out⟩
                          case measure => simp [intOf]; omega
                  · have hj3i : ¬ ((j3 : Int) < (n : Int)) := by omega
                    have HEX := Lib.hid (show notRet l j3 from fun h => absurd h (by omega))
                    clear hf3 hk3 hw3 hb3
                    by_cases hk0 : k = 0
                    · have hown' : wr.ownsRow w.heap.size 45 3 (.slice ao3 o2.length cap3) (o2 ++ gapR k).length (flatR fP ((o2 ++ gapR k).map toP)) := by
                        rw [show gapR k = [] from if_pos hk0, List.append_nil]
                        exact HW3.out
                      obtain ⟨hra, hjj3⟩ := ref_round (w := w) (v := .slice ao3 o2.length cap3) (by omega) hj2 (by omega) hown' HF3.out HN2.out (HNK.out k) HK3.out HNR.out HEX.out ho2l HB3.out
                      have HRA := Lib.hid hra
                      clear hra hown'
                      subst hk0
                      go_wp2_with fail
                      go_roundw
                      case rel => exact ⟨j3, by omega, rfl, HRA.out⟩
                      case measure => simp [intOf]; omega
                    · have hk1 : (0 : Int) < (k : Int) := by omega
                      have HGR := Lib.hid (show gapR k = [Dp.ret k] from if_neg hk0)
                      clear hk0
                      go_wp2_with (at_builtin; refine wpList_append_lies _ rfl _ _ 26 rfl w.heap.size 45 i0 _ 3 32 Tryd.underlying26 hi0 hz0 hz1 hz2 rfl (by decide) _ o2.length _ rfl (HW3.out.alloc _) ⟨wr.heap.size, 0, none⟩ 1 1 [.int .u8 1, .int .i64 k, .string ⟨#[]⟩] rfl rfl (World.news_of_block (cs := #[_, _, _]) (t := 45) (fr := (0, 0)) (heap_alloc_new wr _)) (by simp [Value.oneCell']) (by omega) (by unfold maxLen; omega) (by omega) (by simp; omega) (wr.heap.size + 1) (by simp) ?c4)
                      case c4 =>
                        intro gg cap w4 hown4 hgrow4 hat4 hlt4
                        have hown' : w4.ownsRow w.heap.size 45 3 (.slice (some ⟨gg, 0, none⟩) (o2.length + 1) cap) (o2 ++ gapR k).length (flatR fP ((o2 ++ gapR k).map toP)) := by
                          rw [HGR.out]
                          exact ownP_snoc (d := .ret k) hown4 rfl
                        have hb4 : Below w.heap.size w w4 := (HB3.out.alloc hsz3 _).grown hgrow4 (by simp; omega) fun q hq => (own_typS HW3.out hq).1
                        obtain ⟨hra, hjj3⟩ := ref_round (w := w) (v := .slice (some ⟨gg, 0, none⟩) (o2.length + 1) cap) (by omega) hj2 (by omega) hown' HF3.out HN2.out (HNK.out k) HK3.out HNR.out HEX.out ho2l hb4
                        have HRA := Lib.hid hra
                        clear hown4 hgrow4 hat4 hlt4 hra hown' hb4
                        go_wp2_with fail
                        go_roundw
                        case rel => exact ⟨j3, by omega, rfl, HRA.out⟩
                        case measure => simp [intOf]; omega
          · have hj2i : ¬ ((j2 : Int) < (n : Int)) := by omega
            go_upto_if 41 with (fail)
            go_cut [3] from 7 to 82 (fun v1 wq => wq.ownsRow w.heap.size 45 3 v1 (o ++ Dp.gapI t).length (flatR fP ((o ++ Dp.gapI t).map toP)) ∧ Below w.heap.size w wq)
            case first =>
              by_cases htn : t = []
              · have HO1 := Lib.hid (show wr.ownsRow w.heap.size 45 3 (.slice ao1 o.length cap1) (o ++ Dp.gapI t).length (flatR fP ((o ++ Dp.gapI t).map toP)) by
                  rw [show Dp.gapI t = [] from if_pos htn, List.append_nil]
                  exact HG.out.out)
                have hl0 : ¬ ((0 : Int) < (t.length : Int)) := by rw [htn]; simp
                clear htn
                go_wp2_with fail
                go_meet
                case rel => exact ⟨HO1.out, HBR2.out⟩
              · have hl0 : (0 : Int) < (t.length : Int) := by have := List.length_pos_iff.2 htn; omega
                have HGI := Lib.hid (show Dp.gapI t = [Dp.ins t] from if_neg htn)
                have hconv := HCV.out
                clear htn
                go_wp2_with (at_builtin; refine wpList_append_lies _ rfl _ _ 26 rfl w.heap.size 45 i0 _ 3 32 Tryd.underlying26 hi0 hz0 hz1 hz2 rfl (by decide) _ o.length _ rfl (HG.out.out.alloc _) ⟨wr.heap.size, 0, none⟩ 1 1 [.int .u8 2, .int .i64 0, .string ⟨t.toArray⟩] rfl rfl (World.news_of_block (cs := #[_, _, _]) (t := 45) (fr := (0, 0)) (heap_alloc_new wr _)) (by simp [Value.oneCell']) (by omega) (by unfold maxLen; omega) (by omega) (by simp; omega) (wr.heap.size + 1) (by simp) ?c2)
                case c2 =>
                  intro gg cap w4 hown4 hgrow4 hat4 hlt4
                  have HO4 := Lib.hid (show w4.ownsRow w.heap.size 45 3 (.slice (some ⟨gg, 0, none⟩) (o.length + 1) cap) (o ++ Dp.gapI t).length (flatR fP ((o ++ Dp.gapI t).map toP)) by
                    rw [HGI.out]
                    exact ownP_snoc (d := .ins t) hown4 rfl)
                  have HB4 := Lib.hid ((HBR2.out.alloc hsz2 _).grown hgrow4 (by simp; omega) fun q hq => (own_typS HG.out.out hq).1)
                  clear hown4 hgrow4 hat4 hlt4 hconv
                  go_wp2_with fail
                  go_meet
                  case rel => exact ⟨HO4.out, HB4.out⟩
            case rest =>
              obtain ⟨hown1, hb1⟩ := hcut
              obtain ⟨o1, ho1⟩ : ∃ o1, o1 = o ++ Dp.gapI t := ⟨_, rfl⟩
              rw [← ho1] at hown1
              have ho1l : o1.length ≤ 3 * j + 1 := by
                have := (gap_len t g).1
                rw [ho1, List.length_append]; omega
              have HO1 := Lib.hid ho1
              obtain ⟨ao2, cap2, rfl, hsome2⟩ := own_form hown1
              have HW1 := Lib.hid hown1
              have HB1 := Lib.hid hb1
              have hsz1 := hb1.size
              clear hown1 hb1 hsome2 ho1 HBR2 HCV hsz2
              go_upto_if 49 with (fail)
              go_cut [3] from 7 to 82 (fun v2 wq => wq.ownsRow w.heap.size 45 3 v2 (o1 ++ Dp.gapD g).length (flatR fP ((o1 ++ Dp.gapD g).map toP)) ∧ Below w.heap.size w wq)
              case first =>
                by_cases hg0 : g = 0
                · have HO2 := Lib.hid (show wc.ownsRow w.heap.size 45 3 (.slice ao2 o1.length cap2) (o1 ++ Dp.gapD g).length (flatR fP ((o1 ++ Dp.gapD g).map toP)) by
                    rw [show Dp.gapD g = [] from if_pos hg0, List.append_nil]
                    exact HW1.out)
                  have hg1 : ¬ ((0 : Int) < (g : Int)) := by omega
                  clear hg0
                  go_wp2_with fail
                  go_meet
                  case rel => exact ⟨HO2.out, HB1.out⟩
                · have hg1 : (0 : Int) < (g : Int) := by omega
                  have HGD := Lib.hid (show Dp.gapD g = [Dp.del g] from if_neg hg0)
                  clear hg0
                  go_wp2_with (at_builtin; refine wpList_append_lies _ rfl _ _ 26 rfl w.heap.size 45 i0 _ 3 32 Tryd.underlying26 hi0 hz0 hz1 hz2 rfl (by decide) _ o1.length _ rfl (HW1.out.alloc _) ⟨wc.heap.size, 0, none⟩ 1 1 [.int .u8 3, .int .i64 g, .string ⟨#[]⟩] rfl rfl (World.news_of_block (cs := #[_, _, _]) (t := 45) (fr := (0, 0)) (heap_alloc_new wc _)) (by simp [Value.oneCell']) (by omega) (by unfold maxLen; omega) (by omega) (by simp; omega) (wc.heap.size + 1) (by simp) ?c3)
                  case c3 =>
                    intro gg cap w4 hown4 hgrow4 hat4 hlt4
                    have HO4 := Lib.hid (show w4.ownsRow w.heap.size 45 3 (.slice (some ⟨gg, 0, none⟩) (o1.length + 1) cap) (o1 ++ Dp.gapD g).length (flatR fP ((o1 ++ Dp.gapD g).map toP)) by
                      rw [HGD.out]
                      exact ownP_snoc (d := .del g) hown4 rfl)
                    have HB4 := Lib.hid ((HB1.out.alloc hsz1 _).grown hgrow4 (by simp; omega) fun q hq => (own_typS HW1.out hq).1)
                    clear hown4 hgrow4 hat4 hlt4
                    go_wp2_with fail
                    go_meet
                    case rel => exact ⟨HO4.out, HB4.out⟩
              case rest =>
                obtain ⟨hown2, hb2⟩ := hcut
                obtain ⟨o2, ho2⟩ : ∃ o2, o2 = o1 ++ Dp.gapD g := ⟨_, rfl⟩
                rw [← ho2] at hown2
                have ho2l : o2.length ≤ 3 * j + 2 := by
                  have := (gap_len t g).2
                  rw [ho2, List.length_append]; omega
                have HO2 := Lib.hid (show o2 = o ++ (Dp.gapI t ++ Dp.gapD g) by rw [ho2, HO1.out, List.append_assoc])
                obtain ⟨ao3, cap3, rfl, hsome3⟩ := own_form hown2
                have HW2 := Lib.hid hown2
                have HB2 := Lib.hid hb2
                have HF2 := Lib.hid (show Dp.form (o2 ++ (gapR 0 ++ (l.drop j2).map ofP)) = Dp.form (l.map ofP) by
                  rw [← HG.out.form, HO2.out, List.append_assoc, List.append_assoc]
                  rfl)
                have HNK := Lib.hid (fun k => show Dp.Norm (o2 ++ [.ret k]) from HO2.out ▸ norm_round (k := k) HN.out (HE.out (by omega)) HFI.out HG.out.some HNR.out (by omega))
                have HN2 := Lib.hid (show Dp.Norm o2 from HO2.out ▸ Dp.norm_gap HN.out (HE.out (by omega)) t g)
                clear hown2 hb2 hsome3 ho2 HW1 HB1 HO1
                go_wp2_with fail
                go_loopw [4, 6] (fun s4 s6 wr => ∃ (j3 k : Nat), j2 ≤ j3 ∧ j3 ≤ n ∧ s4 = .int .i64 j3 ∧ s6 = .int .i64 k ∧ Dp.form (o2 ++ (gapR k ++ (l.drop j3).map ofP)) = Dp.form (l.map ofP) ∧ (j3 = j2 ∧ k = 0 ∨ j2 < j3 ∧ 0 < k) ∧ wr.ownsRow w.heap.size 45 3 (.slice ao3 o2.length cap3) o2.length (flatR fP (o2.map toP)) ∧ Below w.heap.size w wr) (fun s _ _ => n - (intOf s).toNat)
                case atStart => exact ⟨j2, 0, Nat.le_refl _, hj2n, rfl, rfl, HF2.out, .inl ⟨rfl, rfl⟩, HW2.out, HB2.out⟩
                case round =>
                  obtain ⟨j3, k, hj3, hj3n, rfl, rfl, hf3, hk3, hw3, hb3⟩ := hrel
                  have hsz3 := hb3.size
                  have HF3 := Lib.hid hf3
                  have HK3 := Lib.hid hk3
                  have HW3 := Lib.hid hw3
                  have HB3 := Lib.hid hb3
                  have hko : k ≤ 1000000000000 := by
                    have h := congrArg Dp.sI hf3
                    rw [Dp.sI_form, Dp.sI_form, Dp.sI_append, Dp.sI_append, (sI_gapR k).1] at h
                    have : sIP l = Dp.sI (l.map ofP) := rfl
                    omega
                  clear HF2 HW2 HB2
                  by_cases hA3 : j3 < n
                  · exact absurd hA3 (by omega)
                  · have hj3i : ¬ ((j3 : Int) < (n : Int)) := by omega
                    have HEX := Lib.hid (show notRet l j3 from fun h => absurd h (by omega))
                    clear hf3 hk3 hw3 hb3
                    by_cases hk0 : k = 0
                    · have hown' : wr.ownsRow w.heap.size 45 3 (.slice ao3 o2.length cap3) (o2 ++ gapR k).length (flatR fP ((o2 ++ gapR k).map toP)) := by
                        rw [show gapR k = [] from if_pos hk0, List.append_nil]
                        exact HW3.out
                      obtain ⟨hra, hjj3⟩ := ref_round (w := w) (v := .slice ao3 o2.length cap3) (by omega) hj2 (by omega) hown' HF3.out HN2.out (HNK.out k) HK3.out HNR.out HEX.out ho2l HB3.out
                      have HRA := Lib.hid hra
                      clear hra hown'
                      subst hk0
                      go_wp2_with fail
                      go_roundw
                      case rel => exact ⟨j3, by omega, rfl, HRA.out⟩
                      case measure => simp [intOf]; omega
                    · have hk1 : (0 : Int) < (k : Int) := by omega
                      have HGR := Lib.hid (show gapR k = [Dp.ret k] from if_neg hk0)
                      clear hk0
                      go_wp2_with (at_builtin; refine wpList_append_lies _ rfl _ _ 26 rfl w.heap.size 45 i0 _ 3 32 Tryd.underlying26 hi0 hz0 hz1 hz2 rfl (by decide) _ o2.length _ rfl (HW3.out.alloc _) ⟨wr.heap.size, 0, none⟩ 1 1 [.int .u8 1, .int .i64 k, .string ⟨#[]⟩] rfl rfl (World.news_of_block (cs := #[_, _, _]) (t := 45) (fr := (0, 0)) (heap_alloc_new wr _)) (by simp [Value.oneCell']) (by omega) (by unfold maxLen; omega) (by omega) (by simp; omega) (wr.heap.size + 1) (by simp) ?c4)
                      case c4 =>
                        intro gg cap w4 hown4 hgrow4 hat4 hlt4
                        have hown' : w4.ownsRow w.heap.size 45 3 (.slice (some ⟨gg, 0, none⟩) (o2.length + 1) cap) (o2 ++ gapR k).length (flatR fP ((o2 ++ gapR k).map toP)) := by
                          rw [HGR.out]
                          exact ownP_snoc (d := .ret k) hown4 rfl
                        have hb4 : Below w.heap.size w w4 := (HB3.out.alloc hsz3 _).grown hgrow4 (by simp; omega) fun q hq => (own_typS HW3.out hq).1
                        obtain ⟨hra, hjj3⟩ := ref_round (w := w) (v := .slice (some ⟨gg, 0, none⟩) (o2.length + 1) cap) (by omega) hj2 (by omega) hown' HF3.out HN2.out (HNK.out k) HK3.out HNR.out HEX.out ho2l hb4
                        have HRA := Lib.hid hra
                        clear hown4 hgrow4 hat4 hlt4 hra hown' hb4
                        go_wp2_with fail
                        go_roundw
                        case rel => exact ⟨j3, by omega, rfl, HRA.out⟩
                        case measure => simp [intOf]; omega
    · obtain rfl : j = n := by omega
      have HFIN := Lib.hid (show o.map toP = formP l by
        rw [List.drop_eq_nil_of_le (by omega), List.map_nil, List.append_nil, Dp.form_of_norm hnorm] at hform
        unfold formP
        rw [hform])
      have HOWN := Lib.hid (show wr.ownsRow w.heap.size 45 3 (.slice ao1 o.length cap1) (formP l).length (flatR fP (formP l)) by
        rw [← HFIN.out]
        exact own_len hown (by simp))
      have HBR := Lib.hid hbr
      clear hown hform hnorm hends hfirst hbr hsome1
      go_wp2_with fail
      go_ret
      exact ⟨_, rfl, HOWN.out, HBR.out⟩
end Go.Proofs.YtfbjbgknfdekfaaDoor

namespace Go.Proofs.YtfbjbgknfdekfaaDoor
open Go.RowKit
set_option linter.unusedVariables false

def normL (l : List Pc) : List Pc := if checkP l = 0 then formP l else []
theorem own_mono {w : World} {B B' s : Nat} {e : TypeId} {v : Value} {n : Nat} {xs : List Value} (h : w.ownsRow B e s v n xs) (hB : B' ≤ B) : w.ownsRow B' e s v n xs := by
  refine ⟨h.1, ?_⟩
  rcases h.2 with hn | ⟨g, cap, cur, hv, hbg, rest⟩
  · exact .inl hn
  · exact .inr ⟨g, cap, cur, hv, by omega, rest⟩
def Rowed (w : World) (l : List Pc) (x : Int) (e : Ending) (w' : World) : Prop :=
  ∃ v, e = .returned (.tuple #[v, .int .i64 x]) ∧ w'.ownsRow w.heap.size 45 3 v l.length (flatR fP l) ∧ Below w.heap.size w w'
theorem own_nil (w : World) (B : Nat) : w.ownsRow B 45 3 (.slice none 0 0) ([] : List Pc).length (flatR fP []) := ⟨rfl, .inl ⟨rfl, rfl⟩⟩
theorem form_len {l : List Pc} (h : checkP l = 0) : l.length ≤ 300000 ∧ AllOk l ∧ sIP l ≤ 1000000000000 ∧ sOP l ≤ 100000000000000 := by
  obtain ⟨h1, h2, h3, h4⟩ := check_inv h
  exact ⟨by omega, h2, by omega, by omega⟩

set_option maxRecDepth 100000 in
set_option maxHeartbeats 4000000 in
theorem normalize_any (ao : Option Addr) (n c : Nat) (l : List Pc) (w : World) (h : IsR fP w ao n l) (hn63 : n ≤ 9223372036854775807) :
    Calls Tryd.prog 33 #[.slice ao n c] w (Rowed w (normL l) (checkP l)) := by
  have hl := h.1
  have HC := Lib.hid (check_any ao n c l w h hn63)
  have HR := Lib.hid h
  clear h
  go_enter Tryd.func33, Tryd.ntmps33
  go_wp2_with fail
  refine (HC.out).mono ?_; rintro e w1 ⟨rfl, hb1⟩
  have HB1 := Lib.hid hb1
  have hs1 := hb1.size
  have HR1 := Lib.hid (HR.out.later hb1)
  clear hb1 HC
  by_cases hc : checkP l = 0
  · have HE := Lib.hid (show normL l = formP l by unfold normL; rw [if_pos hc])
    have HCK := Lib.hid hc
    obtain ⟨k1, k2, k3, k4⟩ := form_len hc
    have HF := Lib.hid (form_any ao n c l w1 HR1.out (by omega) k2 k3 k4)
    rw [hc]
    clear hc k1 k2 k3 k4
    go_wp2_with fail
    refine (HF.out).mono ?_; rintro e w2 ⟨v, rfl, hown, hb2⟩
    have HOWN := Lib.hid hown
    have HB2 := Lib.hid (HB1.out.trans (hb2.mono hs1))
    clear hown hb2
    go_wp2_with fail
    go_ret2
    exact ⟨v, by rw [HCK.out] <;> rfl, by rw [HE.out]; exact own_mono HOWN.out hs1, HB2.out⟩
  · have HE := Lib.hid (show normL l = [] by unfold normL; rw [if_neg hc])
    have hc2 : (checkP l == 0) = false := by rw [beq_eq_false_iff_ne]; exact hc
    clear hc
    go_wp2_with fail
    go_ret2
    exact ⟨.slice none 0 0, rfl, by rw [HE.out]; exact own_nil _ _, HB1.out⟩

/-- a row of an older world -/
theorem isR_on {α : Type} {f : α → List Value} {w w' : World} {a : Option Addr} {n : Nat} {l : List α} (h : IsR f w a n l) (hb : Below w.heap.size w w') : IsR f w' a n l := h.later hb
def normalB (l : List Pc) : Bool := if checkP l = 0 then sameL l (formP l) else false

set_option maxRecDepth 100000 in
set_option maxHeartbeats 4000000 in
theorem refNormal_any (ao : Option Addr) (n c : Nat) (l : List Pc) (w : World) (h : IsR fP w ao n l) (hn63 : n ≤ 9223372036854775807) :
    Calls Tryd.prog 19 #[.slice ao n c] w fun e w' => e = .returned (.bool (normalB l)) ∧ Below w.heap.size w w' := by
  have hl := h.1
  have HC := Lib.hid (refCheck_pc ao n c l w h hn63)
  have HR := Lib.hid h
  clear h
  go_enter Tryd.func19, Tryd.ntmps19
  go_wp2_with fail
  refine (HC.out).mono ?_; rintro e w1 ⟨rfl, hb1⟩
  have HB1 := Lib.hid hb1
  have hs1 := hb1.size
  have HR1 := Lib.hid (isR_on HR.out hb1)
  clear hb1 HC
  by_cases hc : checkP l = 0
  · have HE := Lib.hid (show normalB l = sameL l (formP l) by unfold normalB; rw [if_pos hc])
    obtain ⟨k1, k2, k3, k4⟩ := form_len hc
    have HF := Lib.hid (refForm_any ao n c l w1 HR1.out (by omega) k2 k3 k4)
    rw [hc]
    clear hc k1 k2 k3 k4
    go_wp2_with fail
    refine (HF.out).mono ?_; rintro e w2 ⟨v, rfl, hown, hb2⟩
    obtain ⟨ao2, cap2, rfl, hR2, -, -⟩ := IsR.owned (f := fP) (s := 3) fP_len (l := formP l) (n := (formP l).length) rfl hown
    have HR2 := Lib.hid hR2
    have HB2 := Lib.hid (HB1.out.trans (hb2.mono hs1))
    have HR3 := Lib.hid (isR_on HR.out HB2.out)
    clear hown hb2 hR2
    have HS := Lib.hid (refSame_any ao ao2 n c (formP l).length cap2 l (formP l) w2 HR3.out HR2.out hn63)
    go_wp2_with fail
    refine (HS.out).mono ?_; rintro e w3 ⟨rfl, hb3⟩
    have HB3 := Lib.hid (below_two HB2.out hb3)
    clear hb3
    go_wp2_with fail
    go_ret
    exact ⟨by rw [HE.out] <;> rfl, HB3.out⟩
  · have HE := Lib.hid (show normalB l = false by unfold normalB; rw [if_neg hc])
    have hc2 : (checkP l == 0) = false := by rw [beq_eq_false_iff_ne]; exact hc
    clear hc
    go_wp2_with fail
    go_ret
    exact ⟨by rw [HE.out] <;> rfl, HB1.out⟩
end Go.Proofs.YtfbjbgknfdekfaaDoor

namespace Go.Proofs.YtfbjbgknfdekfaaDoor
open Go.RowKit
set_option linter.unusedVariables false

def Owned (w : World) (l : List Pc) (e : Ending) (w' : World) : Prop :=
  ∃ v, e = .returned v ∧ w'.ownsRow w.heap.size 45 3 v l.length (flatR fP l) ∧ Below w.heap.size w w'
theorem own_empty (w : World) : (w.alloc (.cells #[] 45)).ownsRow w.heap.size 45 3 (.slice (some ⟨w.heap.size, 0, none⟩) 0 0) 0 (flatR fP []) :=
  ⟨rfl, .inr ⟨w.heap.size, 0, #[], rfl, Nat.le_refl _, block_new _ _, Nat.le_refl _, by decide, rfl, rfl⟩⟩
def equivP (a b : List Pc) : Bool × Int := if checkP a ≠ 0 then (false, checkP a) else if checkP b ≠ 0 then (false, checkP b) else (sameL (formP a) (formP b), 0)
end Go.Proofs.YtfbjbgknfdekfaaDoor

