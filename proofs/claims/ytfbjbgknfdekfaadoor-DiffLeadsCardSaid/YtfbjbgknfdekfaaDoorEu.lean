/- Diff: deltas that go by lines: plain laws. -/
import Derived.Test.YtfbjbgknfdekfaaDoorEs
namespace Go.Proofs.YtfbjbgknfdekfaaDoor
set_option linter.unusedVariables false

/-- all places in the text that is read, behind each piece -/
def allI (E : Nat → Prop) : Nat → List Dp → Prop
  | _, [] => True
  | i, p :: l => E (i + p.inn) ∧ allI E (i + p.inn) l
/-- all places in the text that is written, behind each piece -/
def allO (E : Nat → Prop) : Nat → List Dp → Prop
  | _, [] => True
  | i, p :: l => E (i + p.out) ∧ allO E (i + p.out) l
theorem allI_app {E : Nat → Prop} : ∀ (u v : List Dp) (i : Nat), allI E i (u ++ v) ↔ allI E i u ∧ allI E (i + Dp.sI u) v
  | [], v, i => ⟨fun h => ⟨trivial, h⟩, fun h => h.2⟩
  | p :: u, v, i => by
    show (E (i + p.inn) ∧ allI E (i + p.inn) (u ++ v)) ↔ (E (i + p.inn) ∧ allI E (i + p.inn) u) ∧ allI E (i + (p.inn + Dp.sI u)) v
    rw [allI_app u v, Nat.add_assoc, and_assoc]
theorem allO_app {E : Nat → Prop} : ∀ (u v : List Dp) (i : Nat), allO E i (u ++ v) ↔ allO E i u ∧ allO E (i + Dp.sO u) v
  | [], v, i => ⟨fun h => ⟨trivial, h⟩, fun h => h.2⟩
  | p :: u, v, i => by
    show (E (i + p.out) ∧ allO E (i + p.out) (u ++ v)) ↔ (E (i + p.out) ∧ allO E (i + p.out) u) ∧ allO E (i + (p.out + Dp.sO u)) v
    rw [allO_app u v, Nat.add_assoc, and_assoc]
theorem allI_cons {E : Nat → Prop} {i : Nat} {p : Dp} {l : List Dp} (h0 : E i) (h : allI E i (p :: l)) : allI E i (Dp.cons p l) := by
  unfold Dp.cons
  split <;> simp only [allI, Dp.inn, Nat.add_zero, Nat.add_assoc] at h ⊢ <;> first | exact h | exact h.2 | exact ⟨h0, h.2.2⟩ | exact ⟨h0, h.1, h.2.2⟩
theorem allO_cons {E : Nat → Prop} {i : Nat} {p : Dp} {l : List Dp} (h0 : E i) (h : allO E i (p :: l)) : allO E i (Dp.cons p l) := by
  unfold Dp.cons
  split <;> simp only [allO, Dp.out, Nat.add_zero, Nat.add_assoc, List.length_append] at h ⊢ <;> first | exact h | exact h.2 | exact ⟨h.2.1, h.2.1, h.2.2⟩ | exact ⟨h.2.1, h.2.2.2⟩ | exact ⟨h.2.1, h.2.2.1, h.2.2.2⟩
theorem allI_form {E : Nat → Prop} : ∀ (l : List Dp) (i : Nat), E i → allI E i l → allI E i (Dp.form l)
  | [], _, _, _ => trivial
  | p :: l, i, h0, h => allI_cons h0 ⟨h.1, allI_form l _ h.1 h.2⟩
theorem allO_form {E : Nat → Prop} : ∀ (l : List Dp) (i : Nat), E i → allO E i l → allO E i (Dp.form l)
  | [], _, _, _ => trivial
  | p :: l, i, h0, h => allO_cons h0 ⟨h.1, allO_form l _ h.1 h.2⟩
/-- where a line begins, or the last one ends -/
def EdgeL (xs : List Ln) (p : Nat) : Prop := ∃ i, i ≤ xs.length ∧ p = tot (xs.take i)
theorem edge_zero (xs : List Ln) : EdgeL xs 0 := ⟨0, Nat.zero_le _, rfl⟩
theorem edge_cons (r : Ln) (xs : List Ln) (p : Nat) : EdgeL (r :: xs) p ↔ p = 0 ∨ ∃ q, p = r.length + q ∧ EdgeL xs q := by
  constructor
  · rintro ⟨i, hi, rfl⟩
    rcases i with _ | i
    · exact .inl rfl
    · refine .inr ⟨tot (xs.take i), ?_, i, by simpa using hi, rfl⟩
      rw [List.take_succ_cons, tot_cons]
  · rintro (rfl | ⟨q, rfl, i, hi, rfl⟩)
    · exact edge_zero _
    · exact ⟨i + 1, by simpa using hi, by rw [List.take_succ_cons, tot_cons]⟩
theorem edge_nil (p : Nat) : EdgeL [] p ↔ p = 0 := by
  constructor
  · rintro ⟨i, hi, rfl⟩
    simp [tot]
  · rintro rfl
    exact edge_zero _
/-- the same in the text -/
def edgeT (l : List UInt8) (p : Nat) : Prop := p = 0 ∨ p = l.length ∨ (0 < p ∧ p < l.length ∧ l[p - 1]? = some 10)
theorem edge_text : ∀ (l : List UInt8) (p : Nat), EdgeL (rowsL l) p ↔ edgeT l p
  | [], p => by
    show EdgeL [] p ↔ _
    rw [edge_nil]
    unfold edgeT
    constructor
    · exact fun h => .inl h
    · rintro (h | h | ⟨h1, h2, _⟩)
      · exact h
      · exact h
      · exact absurd h2 (Nat.not_lt_zero _)
  | c :: l, p => by
    have ih := edge_text l
    unfold edgeT at ih ⊢
    rw [rowsL_cons]
    rcases p with _ | p
    · exact ⟨fun _ => .inl rfl, fun _ => edge_zero _⟩
    by_cases hc : c = 10
    · rw [if_pos hc, edge_cons]
      constructor
      · rintro (h | ⟨q, h, he⟩)
        · omega
        · have hq : q = p := by simp at h; omega
          subst hq
          rcases (ih q).1 he with h | h | ⟨h1, h2, h3⟩
          · subst h
            rcases Nat.eq_zero_or_pos l.length with e | e
            · exact .inr (.inl (by simp [e]))
            · exact .inr (.inr ⟨by omega, by simp; omega, by simp [hc]⟩)
          · exact .inr (.inl (by simp [h]))
          · obtain ⟨q, rfl⟩ : ∃ t, q = t + 1 := ⟨q - 1, by omega⟩
            exact .inr (.inr ⟨by omega, by simp; omega, by simpa using h3⟩)
      · rintro (h | h | ⟨h1, h2, h3⟩)
        · omega
        · exact .inr ⟨p, by simp; omega, (ih p).2 (.inr (.inl (by simpa using h)))⟩
        · refine .inr ⟨p, by simp; omega, (ih p).2 ?_⟩
          rcases p with _ | q
          · exact .inl rfl
          · exact .inr (.inr ⟨by omega, by simpa using h2, by simpa using h3⟩)
    · rw [if_neg hc]
      rcases hr : rowsL l with _ | ⟨r, rs⟩
      · have hl : l = [] := by rw [← rows_join l, hr]; rfl
        subst hl
        show EdgeL [[c]] (p + 1) ↔ _
        rw [edge_cons]
        constructor
        · rintro (h | ⟨q, h, he⟩)
          · omega
          · rw [edge_nil] at he
            exact .inr (.inl (by simp at h ⊢; omega))
        · rintro (h | h | ⟨h1, h2, h3⟩)
          · omega
          · exact .inr ⟨0, by simp at h ⊢; omega, edge_zero _⟩
          · simp at h2
      · have hrne : r ≠ [] := rowsL_ne l r (by rw [hr]; exact List.mem_cons_self ..)
        have hrl := List.length_pos_iff.2 hrne
        show EdgeL ((c :: r) :: rs) (p + 1) ↔ _
        have key : EdgeL ((c :: r) :: rs) (p + 1) ↔ p ≠ 0 ∧ EdgeL (r :: rs) p := by
          rw [edge_cons, edge_cons]
          constructor
          · rintro (h | ⟨q, h, he⟩)
            · omega
            · rw [List.length_cons] at h
              exact ⟨by omega, .inr ⟨q, by omega, he⟩⟩
          · rintro ⟨h0, h | ⟨q, h, he⟩⟩
            · exact absurd h h0
            · exact .inr ⟨q, by rw [List.length_cons]; omega, he⟩
        rw [key, ← hr, ih p]
        constructor
        · rintro ⟨h0, h | h | ⟨h1, h2, h3⟩⟩
          · exact absurd h h0
          · exact .inr (.inl (by simp [h]))
          · obtain ⟨q, rfl⟩ : ∃ t, p = t + 1 := ⟨p - 1, by omega⟩
            exact .inr (.inr ⟨by omega, by simp; omega, by simpa using h3⟩)
        · rintro (h | h | ⟨h1, h2, h3⟩)
          · omega
          · have hll : 0 < l.length := by
              rw [← rows_join l, hr, List.flatten_cons, List.length_append]; omega
            have hpl : p = l.length := by simpa using h
            exact ⟨by omega, .inr (.inl hpl)⟩
          · rcases p with _ | q
            · simp at h3
              exact absurd h3 hc
            · exact ⟨by omega, .inr (.inr ⟨by omega, by simpa using h2, by simpa using h3⟩)⟩
/-- the pieces go by lines -/
def ByL (xs ys : List Ln) (ds : List Pc) : Prop := allI (EdgeL xs) 0 (ds.map ofP) ∧ allO (EdgeL ys) 0 (ds.map ofP)
theorem byL_nil (xs ys : List Ln) : ByL xs ys [] := ⟨trivial, trivial⟩
theorem byL_form {xs ys : List Ln} {ds : List Pc} (h : ByL xs ys ds) : ByL xs ys (formP ds) := by
  unfold ByL
  rw [map_formP]
  exact ⟨allI_form _ _ (edge_zero _) h.1, allO_form _ _ (edge_zero _) h.2⟩
theorem byL_put {xs ys : List Ln} {ds : List Pc} {p : Pc} (h : ByL xs ys ds) (hp : okP p = true) {i k : Nat} (hi : i ≤ xs.length) (hk : k ≤ ys.length) (hI : sIP (putL ds p) = tot (xs.take i)) (hO : sOP (putL ds p) = tot (ys.take k)) : ByL xs ys (putL ds p) := by
  rw [sIP_put ds hp] at hI
  rw [sOP_put ds hp] at hO
  rw [putL_one ds hp]
  unfold ByL
  rw [List.map_append, allI_app, allO_app, Nat.zero_add, Nat.zero_add]
  refine ⟨⟨h.1, ⟨i, hi, ?_⟩, trivial⟩, ⟨h.2, ⟨k, hk, ?_⟩, trivial⟩⟩
  · rw [← hI]
    show _ = sIP ds + ((ofP p).inn + 0)
    rfl
  · rw [← hO]
    show _ = sOP ds + ((ofP p).out + 0)
    rfl
/-- what Lines puts together -/
def scrF : List Ln → List Ln → List Pc
  | [], [] => []
  | [], q :: ys => insP q :: scrF [] ys
  | r :: xs, [] => delP r :: scrF xs []
  | r :: xs, q :: ys =>
    if r = q ∧ bst (r :: xs) (q :: ys) = bst xs ys + r.length then keepP r :: scrF xs ys
    else if bst (r :: xs) (q :: ys) = bst (r :: xs) ys then insP q :: scrF (r :: xs) ys
    else delP r :: scrF xs (q :: ys)
termination_by xs ys => xs.length + ys.length
theorem scrF_keep {xs ys : List Ln} {i k : Nat} (hi : i < xs.length) (hk : k < ys.length) (he : xs[i] = ys[k])
    (hb : bst (xs.drop i) (ys.drop k) = bst (xs.drop (i + 1)) (ys.drop (k + 1)) + xs[i].length) : scrF (xs.drop i) (ys.drop k) = keepP xs[i] :: scrF (xs.drop (i + 1)) (ys.drop (k + 1)) := by
  have d1 := List.drop_eq_getElem_cons hi
  have d2 := List.drop_eq_getElem_cons hk
  rw [d1, d2] at hb ⊢
  rw [scrF, if_pos ⟨he, hb⟩]
theorem scrF_ins {xs ys : List Ln} {i k : Nat} (hi : i ≤ xs.length) (hk : k < ys.length)
    (hn : ∀ hi : i < xs.length, ¬ (xs[i] = ys[k] ∧ bst (xs.drop i) (ys.drop k) = bst (xs.drop (i + 1)) (ys.drop (k + 1)) + xs[i].length))
    (hb : i = xs.length ∨ bst (xs.drop i) (ys.drop k) = bst (xs.drop i) (ys.drop (k + 1))) : scrF (xs.drop i) (ys.drop k) = insP ys[k] :: scrF (xs.drop i) (ys.drop (k + 1)) := by
  have d2 := List.drop_eq_getElem_cons hk
  rcases Nat.lt_or_ge i xs.length with h | h
  · have d1 := List.drop_eq_getElem_cons h
    have hb' : bst (xs.drop i) (ys.drop k) = bst (xs.drop i) (ys.drop (k + 1)) := by
      rcases hb with e | e
      · omega
      · exact e
    have hn' := hn h
    rw [d1, d2] at hb' hn' ⊢
    rw [scrF, if_neg hn', if_pos hb']
  · rw [List.drop_eq_nil_of_le h, d2, scrF]
theorem scrF_del {xs ys : List Ln} {i k : Nat} (hi : i < xs.length) (hk : k ≤ ys.length)
    (hn : ∀ hk : k < ys.length, ¬ (xs[i] = ys[k] ∧ bst (xs.drop i) (ys.drop k) = bst (xs.drop (i + 1)) (ys.drop (k + 1)) + xs[i].length))
    (hm : ∀ hk : k < ys.length, bst (xs.drop i) (ys.drop k) ≠ bst (xs.drop i) (ys.drop (k + 1))) : scrF (xs.drop i) (ys.drop k) = delP xs[i] :: scrF (xs.drop (i + 1)) (ys.drop k) := by
  have d1 := List.drop_eq_getElem_cons hi
  rcases Nat.lt_or_ge k ys.length with h | h
  · have d2 := List.drop_eq_getElem_cons h
    have hn' := hn h
    have hm' := hm h
    rw [d1, d2] at hn' hm' ⊢
    rw [scrF, if_neg hn', if_neg hm']
  · rw [List.drop_eq_nil_of_le h, d1, scrF]
/-- what the loop of Lines keeps -/
def ScrB (xs ys : List Ln) (i k : Nat) (ds : List Pc) : Prop := ScrI xs ys i k ds ∧ appP xs.flatten ds = (ys.take k).flatten ∧ ByL xs ys ds ∧ ds ++ scrF (xs.drop i) (ys.drop k) = scrF xs ys
theorem scrB_start (xs ys : List Ln) : ScrB xs ys 0 0 [] := ⟨scr_start xs ys, rfl, byL_nil xs ys, rfl⟩
theorem scrB_keep {xs ys : List Ln} {i k : Nat} {ds : List Pc} (h : ScrB xs ys i k ds) (hi : i < xs.length) (hk : k < ys.length) (hne : xs[i] ≠ []) (he : xs[i] = ys[k])
    (hb : bst (xs.drop i) (ys.drop k) = bst (xs.drop (i + 1)) (ys.drop (k + 1)) + xs[i].length) : ScrB xs ys (i + 1) (k + 1) (putL ds (keepP xs[i])) := by
  obtain ⟨h1, h2, h3, h5⟩ := h
  have h4 := scr_keep h1 hi hk hne he hb
  refine ⟨h4, app_keep h2 h1.2.2.2.1 hi hk hne he, byL_put h3 (keepP_ok hne) (by omega) (by omega) h4.2.2.2.1 h4.2.2.2.2, ?_⟩
  rw [putL_one ds (keepP_ok hne), List.append_assoc, ← h5, scrF_keep hi hk he hb]
  rfl
theorem scrB_ins {xs ys : List Ln} {i k : Nat} {ds : List Pc} (h : ScrB xs ys i k ds) (hk : k < ys.length) (hne : ys[k] ≠ [])
    (hn : ∀ hi : i < xs.length, ¬ (xs[i] = ys[k] ∧ bst (xs.drop i) (ys.drop k) = bst (xs.drop (i + 1)) (ys.drop (k + 1)) + xs[i].length))
    (hb : i = xs.length ∨ bst (xs.drop i) (ys.drop k) = bst (xs.drop i) (ys.drop (k + 1))) : ScrB xs ys i (k + 1) (putL ds (insP ys[k])) := by
  obtain ⟨h1, h2, h3, h5⟩ := h
  have h4 := scr_ins h1 hk hne hb
  refine ⟨h4, app_ins (i := i) h2 hk hne, byL_put h3 (insP_ok hne) h1.2.2.1.1 (by omega) h4.2.2.2.1 h4.2.2.2.2, ?_⟩
  rw [putL_one ds (insP_ok hne), List.append_assoc, ← h5, scrF_ins h1.2.2.1.1 hk hn hb]
  rfl
theorem scrB_del {xs ys : List Ln} {i k : Nat} {ds : List Pc} (h : ScrB xs ys i k ds) (hi : i < xs.length) (hne : xs[i] ≠ [])
    (hn : ∀ hk : k < ys.length, ¬ (xs[i] = ys[k] ∧ bst (xs.drop i) (ys.drop k) = bst (xs.drop (i + 1)) (ys.drop (k + 1)) + xs[i].length))
    (hm : ∀ hk : k < ys.length, bst (xs.drop i) (ys.drop k) ≠ bst (xs.drop i) (ys.drop (k + 1))) : ScrB xs ys (i + 1) k (putL ds (delP xs[i])) := by
  obtain ⟨h1, h2, h3, h5⟩ := h
  have h4 := scr_del h1 hi hne hn hm
  refine ⟨h4, app_del h2 hi hne, byL_put h3 (delP_ok hne) (by omega) h1.2.2.1.2.1 h4.2.2.2.1 h4.2.2.2.2, ?_⟩
  rw [putL_one ds (delP_ok hne), List.append_assoc, ← h5, scrF_del hi h1.2.2.1.2.1 hn hm]
  rfl
theorem scrB_end {xs ys : List Ln} {ds : List Pc} (h : ScrB xs ys xs.length ys.length ds) : ds = scrF xs ys := by
  have := h.2.2.2
  rw [List.drop_length, List.drop_length, scrF, List.append_nil] at this
  exact this
/-- what pieces cost, in plain deltas -/
def cstD : Dp → Nat
  | .ret _ => 0
  | .ins t => t.length
  | .del n => n
def costD : List Dp → Nat
  | [] => 0
  | p :: l => cstD p + costD l
theorem costD_cons (p : Dp) (l : List Dp) : costD (Dp.cons p l) = costD (p :: l) := by
  unfold Dp.cons
  split <;> simp only [costD, cstD, List.length_append] <;> omega
theorem costD_form : ∀ l : List Dp, costD (Dp.form l) = costD l
  | [] => rfl
  | p :: l => by
    show costD (Dp.cons p (Dp.form l)) = cstD p + costD l
    rw [costD_cons]
    show cstD p + costD (Dp.form l) = _
    rw [costD_form l]
theorem cst_of {p : Pc} (h : okP p = true) : cstP p = cstD (ofP p) := by
  obtain ⟨k, n, t⟩ := p
  rcases okP_cases h with ⟨rfl, h2, h3⟩ | ⟨rfl, h2, h3⟩ | ⟨rfl, h2, h3⟩
  · rfl
  · simp only at h2 h3
    show n.toNat + t.size = n.toNat
    omega
  · simp only at h2 h3
    show n.toNat + t.size = t.data.toList.length
    rw [Array.length_toList, h2]
    show 0 + t.data.size = _
    omega
theorem cost_of : ∀ {l : List Pc}, AllOk l → costL l = costD (l.map ofP)
  | [], _ => rfl
  | p :: l, h => by
    have e : costL (p :: l) = cstP p + costL l := by unfold costL; simp
    rw [e, cst_of h.head, cost_of h.tail]
    rfl
theorem cost_form {l : List Pc} (h : AllOk l) : costL (formP l) = costL l := by
  rw [cost_of (formP_ok h), map_formP, costD_form, cost_of h]
end Go.Proofs.YtfbjbgknfdekfaaDoor
