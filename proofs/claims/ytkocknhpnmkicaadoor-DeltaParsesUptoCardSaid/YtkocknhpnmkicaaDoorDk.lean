/- Deltas: the normal form of the reference: quartoref03.Form. -/
import Derived.Test.YtkocknhpnmkicaaDoorDi
import Derived.Test.YtkocknhpnmkicaaDoorDj
namespace Go.Proofs.YtkocknhpnmkicaaDoor
open Go.RowKit
set_option linter.unusedVariables false

def notRet (l : List Pc) (j : Nat) : Prop := ∀ h : j < l.length, l[j].k ≠ 1
def gapR (k : Nat) : List Dp := if k = 0 then [] else [.ret k]
def Rst (l : List Dp) : List Dp → Prop := fun x => Dp.form x = Dp.form l
theorem ownP_grown {w w' : World} {B : Nat} {v u : Value} {n m : Nat} {l : List Pc} {xs : List Value} (h : w.ownsRow B 38 3 v n (flatR fP l)) (hu : w.ownsRow B 5 1 u m xs) (hg : w.grownBy w' u.ownBlock) : w'.ownsRow B 38 3 v n (flatR fP l) := by
  refine h.kept hg ?_
  rcases hv : v.ownBlock with _ | q
  · exact .inl rfl
  · refine .inr fun e => ?_
    obtain ⟨-, c1, h1⟩ := own_typS h hv
    obtain ⟨-, c2, h2⟩ := own_typS hu e.symm
    exact absurd rfl (cells_ty h1 h2 (by decide))
/-- within a gap of the reference -/
structure InGap (l : List Pc) (B : Nat) (w : World) (o : List Dp) (j0 j : Nat) (vo vt : Value) (t : List UInt8) (g : Nat) (wr : World) : Prop where
  out : wr.ownsRow B 38 3 vo o.length (flatR fP (o.map toP))
  text : wr.ownsRow B 5 1 vt t.length (Lib.byteCells t)
  form : Dp.form (o ++ (Dp.gapI t ++ (Dp.gapD g ++ (l.drop j).map ofP))) = Dp.form (l.map ofP)
  some : j = j0 ∨ t ≠ [] ∨ 0 < g
  below : Below B w wr
theorem gap_piece {l : List Pc} {j : Nat} (hj : j < l.length) (hok : okP l[j] = true) (hk : l[j].k ≠ 1) (t : List UInt8) (g : Nat) :
    Dp.form (Dp.gapI t ++ (Dp.gapD g ++ (l.drop j).map ofP)) = Dp.form (Dp.gapI (t ++ l[j].t.data.toList) ++ (Dp.gapD (g + l[j].n.toNat) ++ (l.drop (j + 1)).map ofP)) ∧ (t ++ l[j].t.data.toList ≠ [] ∨ 0 < g + l[j].n.toNat) := by
  have hd : (l.drop j).map ofP = ofP l[j] :: (l.drop (j + 1)).map ofP := by rw [List.drop_eq_getElem_cons hj]; rfl
  rw [hd]
  generalize l[j] = p at *
  rcases okP_cases hok with ⟨h1, h2, h3⟩ | ⟨h1, h2, h3⟩ | ⟨h1, h2, h3⟩
  · exact absurd h1 hk
  · have e := str_empty h3
    have e1 : p.t.data.toList = [] := by rw [e]
    rw [e1, List.append_nil]
    have e2 : ofP p = .del p.n.toNat := by unfold ofP; rw [h1]; rfl
    rw [e2]
    exact ⟨Dp.gap_del t _ g (by omega) _, .inr (by omega)⟩
  · have e2 : ofP p = .ins p.t.data.toList := by unfold ofP; rw [h1]; rfl
    have htn : p.t.data.toList ≠ [] := fun e => h3 (by
      show p.t.data.size = 0
      rw [← Array.length_toList, e]; rfl)
    rw [e2, h2]
    exact ⟨Dp.gap_ins t _ g htn _, .inl (by simp [htn])⟩
theorem ret_piece {l : List Pc} {j : Nat} (hj : j < l.length) (hok : okP l[j] = true) (hk : l[j].k = 1) (k : Nat) (o : List Dp) :
    Dp.form (o ++ (gapR k ++ (l.drop j).map ofP)) = Dp.form (o ++ (gapR (k + l[j].n.toNat) ++ (l.drop (j + 1)).map ofP)) ∧ 0 < l[j].n.toNat := by
  have hd : (l.drop j).map ofP = ofP l[j] :: (l.drop (j + 1)).map ofP := by rw [List.drop_eq_getElem_cons hj]; rfl
  rw [hd]
  generalize l[j] = p at *
  rcases okP_cases hok with ⟨h1, h2, h3⟩ | ⟨h1, h2, h3⟩ | ⟨h1, h2, h3⟩
  · have e2 : ofP p = .ret p.n.toNat := by
      unfold ofP
      rw [if_neg (by rw [hk]; decide), if_neg (by rw [hk]; decide)]
    rw [e2]
    refine ⟨Dp.form_congr o ?_, by omega⟩
    unfold gapR
    rw [if_neg (show ¬ (k + p.n.toNat = 0) by omega)]
    by_cases hk0 : k = 0
    · subst hk0
      rw [if_pos rfl, Nat.zero_add]
      rfl
    · rw [if_neg hk0]
      exact Dp.cons_ret _ _ _
  · rw [hk] at h1; exact absurd h1 (by decide)
  · rw [hk] at h1; exact absurd h1 (by decide)
theorem sI_gapR (k : Nat) : Dp.sI (gapR k) = k ∧ (gapR k).length ≤ 1 := by
  unfold gapR
  by_cases h : k = 0
  · subst h; exact ⟨rfl, Nat.zero_le _⟩
  · rw [if_neg h]; exact ⟨rfl, Nat.le_refl _⟩
theorem gap_len (t : List UInt8) (g : Nat) : (Dp.gapI t).length ≤ 1 ∧ (Dp.gapD g).length ≤ 1 := by
  unfold Dp.gapI Dp.gapD
  by_cases h1 : t = [] <;> by_cases h2 : g = 0 <;> simp [h1, h2]
end Go.Proofs.YtkocknhpnmkicaaDoor
