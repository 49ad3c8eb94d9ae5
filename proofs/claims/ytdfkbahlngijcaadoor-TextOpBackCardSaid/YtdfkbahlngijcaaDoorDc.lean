/- Deltas: pieces as plain deltas; what Check says, in sums; the normal form of pieces. -/
import Derived.Test.YtdfkbahlngijcaaDoorDa
import Derived.Test.YtdfkbahlngijcaaDoorDb
namespace Go.Proofs.YtdfkbahlngijcaaDoor
set_option linter.unusedVariables false

def toP : Dp → Pc
  | .ret n => ⟨1, n, ⟨#[]⟩⟩
  | .ins t => ⟨2, 0, ⟨t.toArray⟩⟩
  | .del n => ⟨3, n, ⟨#[]⟩⟩
def ofP (p : Pc) : Dp := if p.k = 2 then .ins p.t.data.toList else if p.k = 3 then .del p.n.toNat else .ret p.n.toNat
theorem of_to (d : Dp) : ofP (toP d) = d := by
  cases d <;> rfl
theorem to_of {p : Pc} (h : okP p = true) : toP (ofP p) = p := by
  obtain ⟨k, n, t⟩ := p
  rcases okP_cases h with ⟨rfl, h2, h3⟩ | ⟨rfl, h2, h3⟩ | ⟨rfl, h2, h3⟩
  · exact pc_ext rfl (by show (n.toNat : Int) = n; simp only at h2; omega) (str_empty h3).symm
  · exact pc_ext rfl (by show (n.toNat : Int) = n; simp only at h2; omega) (str_empty h3).symm
  · exact pc_ext rfl (by simp only at h2; exact h2.symm) (by show (⟨t.data.toList.toArray⟩ : ByteArray) = t; rw [Array.toArray_toList])
theorem of_ok {p : Pc} (h : okP p = true) : (ofP p).ok := by
  obtain ⟨k, n, t⟩ := p
  rcases okP_cases h with ⟨rfl, h2, h3⟩ | ⟨rfl, h2, h3⟩ | ⟨rfl, h2, h3⟩
  · show 0 < n.toNat; simp only at h2; omega
  · show 0 < n.toNat; simp only at h2; omega
  · show t.data.toList ≠ []
    intro e
    exact h3 (by
      show t.data.size = 0
      rw [← Array.length_toList, e]; rfl)
theorem to_ok {d : Dp} (h : d.ok) : okP (toP d) = true := by
  cases d with
  | ret n =>
    have : (1 : Int) ≤ n := by have : 0 < n := h; omega
    have h0 : (⟨#[]⟩ : ByteArray).size = 0 := rfl
    simp [okP, toP, this, h0]
  | del n =>
    have : (1 : Int) ≤ n := by have : 0 < n := h; omega
    have h0 : (⟨#[]⟩ : ByteArray).size = 0 := rfl
    simp [okP, toP, this, h0]
  | ins t =>
    have h0 : (⟨t.toArray⟩ : ByteArray).size ≠ 0 := fun e => h (List.eq_nil_of_length_eq_zero (by rw [← List.size_toArray]; exact e))
    simp [okP, toP, h0]
theorem inP_of {p : Pc} (h : okP p = true) : inP p = (ofP p).inn ∧ outP p = (ofP p).out := by
  obtain ⟨k, n, t⟩ := p
  rcases okP_cases h with ⟨rfl, h2, h3⟩ | ⟨rfl, h2, h3⟩ | ⟨rfl, h2, h3⟩
  · simp only at h2
    exact ⟨by show n = (n.toNat : Int); omega, by show n = (n.toNat : Int); omega⟩
  · simp only at h2
    exact ⟨by show n = (n.toNat : Int); omega, rfl⟩
  · exact ⟨rfl, by show (t.size : Int) = (t.data.toList.length : Int); rw [Array.length_toList]; rfl⟩
def AllOk (l : List Pc) : Prop := ∀ p ∈ l, okP p = true
theorem AllOk.tail {p : Pc} {l : List Pc} (h : AllOk (p :: l)) : AllOk l := fun q hq => h q (List.mem_cons_of_mem _ hq)
theorem AllOk.head {p : Pc} {l : List Pc} (h : AllOk (p :: l)) : okP p = true := h p (List.mem_cons_self ..)
theorem AllOk.ok : ∀ {l : List Pc}, AllOk l → Dp.Ok (l.map ofP)
  | [], _ => trivial
  | p :: l, h => ⟨of_ok h.head, AllOk.ok h.tail⟩
theorem allOk_to : ∀ {l : List Dp}, Dp.Ok l → AllOk (l.map toP)
  | [], _, p, hp => absurd hp (List.not_mem_nil)
  | d :: l, h, p, hp => by
    rcases List.mem_cons.1 hp with rfl | hp
    · exact to_ok h.1
    · exact allOk_to h.2 p hp
theorem map_of_to : ∀ l : List Dp, (l.map toP).map ofP = l
  | [] => rfl
  | d :: l => by rw [List.map_cons, List.map_cons, of_to, map_of_to l]
theorem map_to_of : ∀ {l : List Pc}, AllOk l → (l.map ofP).map toP = l
  | [], _ => rfl
  | p :: l, h => by rw [List.map_cons, List.map_cons, to_of h.head, map_to_of h.tail]
def sIP (l : List Pc) : Nat := Dp.sI (l.map ofP)
def sOP (l : List Pc) : Nat := Dp.sO (l.map ofP)
theorem lenL_ok : ∀ (l : List Pc) (i o : Int), AllOk l → i + sIP l ≤ 1048576 → o + sOP l ≤ 1048576 → lenL i o l = (i + sIP l, o + sOP l, 0)
  | [], i, o, _, _, _ => by
    show (i, o, 0) = (i + ((0 : Nat) : Int), o + ((0 : Nat) : Int), 0)
    simp
  | p :: l, i, o, h, hi, ho => by
    obtain ⟨e1, e2⟩ := inP_of h.head
    have s1 : sIP (p :: l) = (ofP p).inn + sIP l := rfl
    have s2 : sOP (p :: l) = (ofP p).out + sOP l := rfl
    unfold lenL
    rw [if_neg (by rw [h.head]; decide), if_neg (by omega), lenL_ok l _ _ h.tail (by omega) (by omega), s1, s2, e1, e2]
    congr 1
    · omega
    · congr 1; omega
theorem lenL_inv : ∀ (l : List Pc) (i o : Int), i ≤ 1048576 → o ≤ 1048576 → (lenL i o l).2.2 = 0 → AllOk l ∧ i + sIP l ≤ 1048576 ∧ o + sOP l ≤ 1048576
  | [], i, o, hi, ho, _ => ⟨fun p hp => absurd hp (List.not_mem_nil), by show i + ((0 : Nat) : Int) ≤ _; omega, by show o + ((0 : Nat) : Int) ≤ _; omega⟩
  | p :: l, i, o, hi, ho, h => by
    unfold lenL at h
    by_cases h1 : okP p = false
    · rw [if_pos h1] at h; exact absurd h (by decide)
    · rw [if_neg h1] at h
      have hp : okP p = true := by simpa using h1
      by_cases h2 : 1048576 - i < inP p ∨ 1048576 - o < outP p
      · rw [if_pos h2] at h; exact absurd h (by decide)
      · rw [if_neg h2] at h
        obtain ⟨k1, k2, k3⟩ := lenL_inv l _ _ (by omega) (by omega) h
        obtain ⟨e1, e2⟩ := inP_of hp
        have s1 : sIP (p :: l) = (ofP p).inn + sIP l := rfl
        have s2 : sOP (p :: l) = (ofP p).out + sOP l := rfl
        refine ⟨fun q hq => ?_, by omega, by omega⟩
        rcases List.mem_cons.1 hq with rfl | hq
        · exact hp
        · exact k1 q hq
theorem check_inv {l : List Pc} (h : checkP l = 0) : l.length ≤ 4096 ∧ AllOk l ∧ sIP l ≤ 1048576 ∧ sOP l ≤ 1048576 := by
  unfold checkP lengthsP at h
  by_cases h1 : 4096 < l.length
  · rw [if_pos h1] at h; exact absurd h (by decide)
  · rw [if_neg h1] at h
    obtain ⟨k1, k2, k3⟩ := lenL_inv l 0 0 (by decide) (by decide) h
    exact ⟨by omega, k1, by omega, by omega⟩
theorem lengths_ok {l : List Pc} (h1 : l.length ≤ 4096) (h2 : AllOk l) (h3 : sIP l ≤ 1048576) (h4 : sOP l ≤ 1048576) : lengthsP l = (↑(sIP l), ↑(sOP l), 0) := by
  unfold lengthsP
  rw [if_neg (by omega), lenL_ok l 0 0 h2 (by omega) (by omega)]
  simp
theorem check_ok {l : List Pc} (h1 : l.length ≤ 4096) (h2 : AllOk l) (h3 : sIP l ≤ 1048576) (h4 : sOP l ≤ 1048576) : checkP l = 0 := by
  unfold checkP
  rw [lengths_ok h1 h2 h3 h4]
theorem lengths_of_check {l : List Pc} (h : checkP l = 0) : lengthsP l = (↑(sIP l), ↑(sOP l), 0) := by
  obtain ⟨h1, h2, h3, h4⟩ := check_inv h
  exact lengths_ok h1 h2 h3 h4
/-- the normal form -/
def formP (l : List Pc) : List Pc := (Dp.form (l.map ofP)).map toP
theorem formP_ok {l : List Pc} (h : AllOk l) : AllOk (formP l) := allOk_to (Dp.form_okL h.ok)
theorem map_formP (l : List Pc) : (formP l).map ofP = Dp.form (l.map ofP) := map_of_to _
theorem sIP_form (l : List Pc) : sIP (formP l) = sIP l := by
  unfold sIP
  rw [map_formP, Dp.sI_form]
theorem sOP_form (l : List Pc) : sOP (formP l) = sOP l := by
  unfold sOP
  rw [map_formP, Dp.sO_form]
theorem len_formP (l : List Pc) : (formP l).length ≤ l.length := by
  unfold formP
  have := Dp.len_form (l.map ofP)
  rw [List.length_map] at this ⊢
  exact this
theorem formP_form (l : List Pc) : formP (formP l) = formP l := by
  unfold formP
  rw [map_of_to, Dp.form_of_norm (Dp.form_norm _)]
theorem check_formP {l : List Pc} (h : checkP l = 0) : checkP (formP l) = 0 := by
  obtain ⟨h1, h2, h3, h4⟩ := check_inv h
  have := len_formP l
  exact check_ok (by omega) (formP_ok h2) (by rw [sIP_form]; exact h3) (by rw [sOP_form]; exact h4)
theorem formP_append (u v : List Pc) : formP (formP u ++ v) = formP (u ++ v) := by
  unfold formP
  rw [List.map_append, List.map_append, map_of_to]
  congr 1
  exact Dp.form_form [] _ _
theorem formP_append3 (u v w : List Pc) : formP (u ++ (formP v ++ w)) = formP (u ++ (v ++ w)) := by
  unfold formP
  rw [List.map_append, List.map_append, List.map_append, List.map_append, map_of_to]
  congr 1
  exact Dp.form_form _ _ _
theorem sIP_append (u v : List Pc) : sIP (u ++ v) = sIP u + sIP v := by
  unfold sIP
  rw [List.map_append, Dp.sI_append]
theorem sOP_append (u v : List Pc) : sOP (u ++ v) = sOP u + sOP v := by
  unfold sOP
  rw [List.map_append, Dp.sO_append]
theorem formP_eq_iff {x y : List Pc} (hx : AllOk x) (hy : AllOk y) : formP x = formP y ↔ sIP x = sIP y ∧ Dp.atoms 0 (x.map ofP) = Dp.atoms 0 (y.map ofP) := by
  refine Iff.trans ?_ (Dp.form_eq_iff hx.ok hy.ok)
  constructor
  · intro h
    have := congrArg (List.map ofP) h
    rwa [map_formP, map_formP] at this
  · intro h
    unfold formP
    rw [h]
end Go.Proofs.YtdfkbahlngijcaaDoor
