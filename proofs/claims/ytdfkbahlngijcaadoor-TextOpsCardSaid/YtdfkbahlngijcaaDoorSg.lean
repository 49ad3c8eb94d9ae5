/- Text: script.Check in general. -/
import Derived.Test.YtdfkbahlngijcaaDoorSf
namespace Go.Proofs.YtdfkbahlngijcaaDoor
open Go.RowKit
set_option linter.unusedVariables false

/-- what the programs of a script give: 0 if they are all plain and not too long -/
def progE : List Pg → Int
  | [] => 0
  | p :: r => if 256 < p.n then 5 else if p.l.all plainO = true then progE r else 2
/-- what script.Check gives -/
noncomputable def scE (c : Cf) (ss : List Pg) (ps : List Int) : Int :=
  if cfgE c ≠ 0 then cfgE c else if (ss.length : Int) ≠ c.clients then 2 else if progE ss ≠ 0 then progE ss else if 65535 < ps.length then 5 else
    if ps.all (fun q => inR q 0 c.clients) = true then (if 65536 < lenSc c ss ps.length then 5 else 0) else 2
theorem progE_zero {ss : List Pg} (h : progE ss = 0) : ∀ s ∈ ss, s.n ≤ 256 ∧ s.l.all plainO = true := by
  induction ss with
  | nil => intro s hs; cases hs
  | cons p r ih =>
    unfold progE at h
    by_cases h1 : 256 < p.n
    · rw [if_pos h1] at h; cases h
    · rw [if_neg h1] at h
      by_cases h2 : p.l.all plainO = true
      · rw [if_pos h2] at h
        intro s hs
        rcases List.mem_cons.1 hs with rfl | hs
        · exact ⟨by omega, h2⟩
        · exact ih h s hs
      · rw [if_neg h2] at h; cases h
theorem cfg_zero {c : Cf} (h : cfgE c = 0) : 0 ≤ c.clients ∧ c.clients ≤ 8 ∧ c.t.size ≤ 65536 := by
  unfold cfgE at h
  by_cases h1 : cfgOk c = true
  · rw [if_pos h1] at h
    by_cases h2 : 65536 < c.t.size
    · rw [if_pos h2] at h; cases h
    · unfold cfgOk inR at h1
      simp only [Bool.and_eq_true, decide_eq_true_eq] at h1
      exact ⟨h1.2.2.1.1, h1.2.2.1.2, by omega⟩
  · rw [if_neg h1] at h; cases h
theorem szF_le {x : Ov} (h : x.t.size ≤ 256) (f : Nat) : szF x f ≤ 258 := by
  unfold szF; split <;> omega
theorem sum_bound {α : Type} (f : α → Nat) (b : Nat) (l : List α) (h : ∀ x ∈ l, f x ≤ b) : (l.map f).sum ≤ l.length * b := by
  induction l with
  | nil => simp
  | cons a l ih =>
    have h1 := h a (List.mem_cons_self ..)
    have h2 := ih (fun x hx => h x (List.mem_cons_of_mem _ hx))
    simp only [List.length_cons, List.map_cons, List.sum_cons, Nat.add_mul]
    omega
theorem szO_le {x : Ov} (h : plainO x = true) : szO x ≤ 775 := by
  have h1 := plain_text h
  have h2 := sum_bound (szF x) 258 (fldK x.k.toNat) (fun f _ => szF_le h1 f)
  have h3 := fldK_len x.k.toNat
  have h4 : (fldK x.k.toNat).length * 258 ≤ 3 * 258 := Nat.mul_le_mul_right _ h3
  unfold szO
  omega
theorem len_bound {c : Cf} {ss : List Pg} {n : Nat} (h : cfgE c = 0) (hl : (ss.length : Int) = c.clients) (hp : progE ss = 0) (hn : ∀ s ∈ ss, s.l.length = s.n) (hq : n ≤ 65535) :
    lenSc c ss n ≤ 1000000000000 := by
  obtain ⟨h1, h2, h3⟩ := cfg_zero h
  have h4 := sum_bound szP 198402 ss (fun s hs => by
    obtain ⟨a, b⟩ := progE_zero hp s hs
    have h5 := sum_bound szO 775 s.l (fun x hx => szO_le (List.all_eq_true.1 b x hx))
    have h6 : s.l.length * 775 ≤ 256 * 775 := Nat.mul_le_mul_right _ (by rw [hn s hs]; exact a)
    unfold szP
    omega)
  have h5 : ss.length * 198402 ≤ 8 * 198402 := Nat.mul_le_mul_right _ (by omega)
  unfold lenSc
  omega
def fI (q : Int) : List Value := [.int .i64 q]
theorem fI_len (q : Int) : (fI q).length = 1 := rfl
/-- a pick at its place, laid open -/
theorem IsR.pick {w w' : World} {ao : Option Addr} {m : Nat} {ps : List Int} (h : IsR fI w ao m ps) (hb : Below w.heap.size w w') {j : Nat} (hj : j < m) :
    ∃ b off, ao = some ⟨b, off, none⟩ ∧ b < w.heap.size ∧ ∀ (hjl : j < ps.length), w'.cell? ⟨b, off + j, none⟩ = some (.int .i64 ps[j]) := by
  obtain ⟨b, off, e, hlt, h3⟩ := h.2 (by omega)
  refine ⟨b, off, e, hlt, fun hjl => ?_⟩
  have := h3 (j * 1 + 0) (.int .i64 ps[j]) (by rw [flatR_at fI_len ps j 0 hjl (by decide)]; rfl)
  rw [Nat.mul_one, Nat.add_zero] at this
  exact (hb.cell (p := ⟨b, off + j, none⟩) hlt).trans this
theorem drop_at {α : Type} {l : List α} {j : Nat} (h : j < l.length) : l.drop j = l[j] :: l.drop (j + 1) := List.drop_eq_getElem_cons h
end Go.Proofs.YtdfkbahlngijcaaDoor
