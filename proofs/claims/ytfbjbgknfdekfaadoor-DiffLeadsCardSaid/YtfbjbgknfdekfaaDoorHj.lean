/- Diff: the law Valid: plain law and walk. -/
import Derived.Test.YtfbjbgknfdekfaaDoorHi
import Derived.Test.YtfbjbgknfdekfaaDoorEz
import Derived.Test.YtfbjbgknfdekfaaDoorHd
namespace Go.Proofs.YtfbjbgknfdekfaaDoor
open Go.RowKit
set_option linter.unusedVariables false

/-- all texts that are inserted are valid -/
def allT : List Dp → Prop
  | [] => True
  | .ins t :: l => VL t ∧ allT l
  | _ :: l => allT l
theorem allT_cons {p : Dp} {l : List Dp} (h : allT (p :: l)) : allT (Dp.cons p l) := by
  unfold Dp.cons
  split <;> first | exact h | exact ⟨h.1.app h.2.1, h.2.2⟩
theorem allT_form : ∀ (l : List Dp), allT l → allT (Dp.form l)
  | [], _ => trivial
  | .ret n :: l, h => allT_cons (allT_form l h)
  | .del n :: l, h => allT_cons (allT_form l h)
  | .ins t :: l, h => allT_cons ⟨h.1, allT_form l h.2⟩
theorem allT_app : ∀ (u v : List Dp), allT u → allT v → allT (u ++ v)
  | [], v, _, k => k
  | .ret n :: u, v, h, k => allT_app u v h k
  | .del n :: u, v, h, k => allT_app u v h k
  | .ins t :: u, v, h, k => ⟨h.1, allT_app u v h.2 k⟩
/-- pieces whose places are boundaries and whose texts are valid -/
def GoodV (E : Nat → Prop) (ds : List Pc) : Prop := allI E 0 (ds.map ofP) ∧ allT (ds.map ofP)
theorem goodV_form {E : Nat → Prop} {ds : List Pc} (h0 : E 0) (h : GoodV E ds) : GoodV E (formP ds) := by
  unfold GoodV
  rw [map_formP]
  exact ⟨allI_form _ _ h0 h.1, allT_form _ h.2⟩
theorem goodV_put {E : Nat → Prop} {ds : List Pc} {p : Pc} (h : GoodV E ds) (hI : E (sIP ds + (ofP p).inn)) (hT : allT [ofP p]) : GoodV E (putL ds p) := by
  unfold putL
  by_cases h0 : p.n = 0 ∧ p.t.size = 0
  · rw [if_pos h0]; exact h
  · rw [if_neg h0]
    unfold GoodV
    rw [List.map_append]
    refine ⟨(allI_app _ _ _).2 ⟨h.1, ?_, trivial⟩, allT_app _ _ h.2 hT⟩
    rw [Nat.zero_add]
    exact hI
theorem sIP_putr (ds : List Pc) (n : Nat) : sIP (putL ds ⟨1, (n : Nat), ⟨#[]⟩⟩) = sIP ds + n := by
  unfold putL
  by_cases h : ((n : Nat) : Int) = 0 ∧ (⟨#[]⟩ : ByteArray).size = 0
  · rw [if_pos h]; omega
  · rw [if_neg h, sIP_app]
    show sIP ds + ((n : Int).toNat + 0) = _
    omega
theorem sIP_puti (ds : List Pc) (t : ByteArray) : sIP (putL ds ⟨2, 0, t⟩) = sIP ds := by
  unfold putL
  split
  · rfl
  · rw [sIP_app]
    show sIP ds + (0 + 0) = _
    omega
theorem sIP_putd (ds : List Pc) (n : Nat) : sIP (putL ds ⟨3, (n : Nat), ⟨#[]⟩⟩) = sIP ds + n := by
  unfold putL
  by_cases h : ((n : Nat) : Int) = 0 ∧ (⟨#[]⟩ : ByteArray).size = 0
  · rw [if_pos h]; omega
  · rw [if_neg h, sIP_app]
    show sIP ds + ((n : Int).toNat + 0) = _
    omega
theorem VL.first {l : List UInt8} (h : VL l) (h0 : 0 < l.length) : isC (l.getD 0 0) = false := by
  cases h with
  | nil => exact absurd h0 (Nat.not_lt_zero _)
  | step h1 _ =>
    obtain ⟨k1, k2, -, -, -⟩ := vstep_some h1
    have hn : annN (l.getD 0 0) ≠ 0 := by rw [← k1]; exact k2
    generalize l.getD 0 0 = c at hn
    unfold annN at hn
    unfold isC
    by_cases h1 : 128 ≤ c.toNat
    · by_cases h2 : c.toNat ≤ 191
      · rw [if_neg (by omega), if_neg (by omega), if_neg (by omega), if_neg (by omega), if_neg (by omega)] at hn
        exact absurd rfl hn
      · rw [decide_eq_false h2, Bool.and_false]
    · rw [decide_eq_false h1]; rfl
theorem bnd_zero {s : ByteArray} (h : VL s.data.toList) : bnd s 0 = true := by
  refine (bnd_list s 0).2 ?_
  rcases Nat.eq_zero_or_pos s.data.toList.length with e | e
  · exact .inl e.symm
  · exact .inr ⟨e, h.first e⟩
theorem com_bnd (a b : ByteArray) (ha : VL a.data.toList) (hb : VL b.data.toList) : bnd a (comP a b) = true ∧ bnd b (comP a b) = true ∧ bnd a (a.size - comS a b) = true ∧ bnd b (b.size - comS a b) = true := by
  have z : ∀ (s : ByteArray), VL s.data.toList → bnd s 0 = true := fun s hs => bnd_zero hs
  have e : ∀ (s : ByteArray), bnd s s.size = true := fun s => (bnd_list s s.size).2 (.inl (Array.length_toList ..).symm)
  have h1 : bnd2 a b (comP a b) = true := down_holds (by unfold bnd2; rw [z a ha, z b hb]; rfl) _
  have h2 : bndS a b (comS a b) = true := down_holds (by unfold bndS; rw [Nat.sub_zero, Nat.sub_zero, e a, e b]; rfl) _
  unfold bnd2 at h1
  unfold bndS at h2
  rw [Bool.and_eq_true] at h1 h2
  exact ⟨h1.1, h1.2, h2.1, h2.2⟩
theorem bet_good {a b : ByteArray} (ha : VL a.data.toList) (hb : VL b.data.toList) : GoodV (fun p => bnd a p = true) (formP (betL a b)) ∧ sIP (formP (betL a b)) = a.size := by
  obtain ⟨h1, h2, h3, h4⟩ := com_bnd a b ha hb
  obtain ⟨c1, c2⟩ := comS_le a b
  have hz : bnd a 0 = true := bnd_zero ha
  have e : bnd a a.size = true := (bnd_list a a.size).2 (.inl (Array.length_toList ..).symm)
  have hmid : VL (midB a b).data.toList := by
    have hm := hb.mid (p := comP a b) (q := b.size - comS a b) (by omega) ((bnd_list b _).1 h2) ((bnd_list b _).1 h4)
    unfold midB
    rw [← ext_list]
    show VL (((b.data.toList.drop (comP a b)).take (b.size - comS a b - comP a b)).toArray.toList)
    rw [List.toList_toArray]
    exact hm
  have g0 : GoodV (fun p => bnd a p = true) [] := ⟨trivial, trivial⟩
  have s0 : sIP [] = 0 := rfl
  have s1 := sIP_putr [] (comP a b)
  have s2 := sIP_puti (putL [] ⟨1, (comP a b : Nat), ⟨#[]⟩⟩) (midB a b)
  have s3 := sIP_putd (putL (putL [] ⟨1, (comP a b : Nat), ⟨#[]⟩⟩) ⟨2, 0, midB a b⟩) (a.size - comP a b - comS a b)
  have s4 := sIP_putr (putL (putL (putL [] ⟨1, (comP a b : Nat), ⟨#[]⟩⟩) ⟨2, 0, midB a b⟩) ⟨3, (a.size - comP a b - comS a b : Nat), ⟨#[]⟩⟩) (a.size - comP a b - (a.size - comP a b - comS a b))
  have g1 : GoodV (fun p => bnd a p = true) (putL [] ⟨1, (comP a b : Nat), ⟨#[]⟩⟩) := goodV_put g0 (by
    show bnd a (sIP [] + (((comP a b : Nat) : Int).toNat)) = true
    rw [s0, Int.toNat_natCast, Nat.zero_add]; exact h1) trivial
  have g2 : GoodV (fun p => bnd a p = true) (putL (putL [] ⟨1, (comP a b : Nat), ⟨#[]⟩⟩) ⟨2, 0, midB a b⟩) := goodV_put g1 (by
    show bnd a (sIP _ + 0) = true
    rw [s1, s0, Nat.zero_add, Nat.add_zero]; exact h1) ⟨hmid, trivial⟩
  have g3 : GoodV (fun p => bnd a p = true) (putL (putL (putL [] ⟨1, (comP a b : Nat), ⟨#[]⟩⟩) ⟨2, 0, midB a b⟩) ⟨3, (a.size - comP a b - comS a b : Nat), ⟨#[]⟩⟩) := goodV_put g2 (by
    show bnd a (sIP _ + (((a.size - comP a b - comS a b : Nat) : Int).toNat)) = true
    rw [s2, s1, s0, Int.toNat_natCast, show 0 + comP a b + (a.size - comP a b - comS a b) = a.size - comS a b by omega]; exact h3) trivial
  have g4 : GoodV (fun p => bnd a p = true) (betL a b) := goodV_put g3 (by
    show bnd a (sIP _ + (((a.size - comP a b - (a.size - comP a b - comS a b) : Nat) : Int).toNat)) = true
    rw [s3, s2, s1, s0, Int.toNat_natCast, show 0 + comP a b + (a.size - comP a b - comS a b) + (a.size - comP a b - (a.size - comP a b - comS a b)) = a.size by omega]; exact e) trivial
  refine ⟨goodV_form hz g4, ?_⟩
  rw [sIP_form]
  show sIP (putL (putL (putL (putL [] ⟨1, (comP a b : Nat), ⟨#[]⟩⟩) ⟨2, 0, midB a b⟩) ⟨3, (a.size - comP a b - comS a b : Nat), ⟨#[]⟩⟩) ⟨1, (a.size - comP a b - (a.size - comP a b - comS a b) : Nat), ⟨#[]⟩⟩) = _
  rw [s4, s3, s2, s1, s0]
  omega
end Go.Proofs.YtfbjbgknfdekfaaDoor
