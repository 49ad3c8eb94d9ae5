/- Text: Format inverts Parse; a spoiled byte: plain. (printed by slim.py.) -/
import Derived.Test.YtdfkbahlngijcaaDoorQWp
namespace Go.Proofs.YtdfkbahlngijcaaDoor
open Go.RowKit
set_option linter.unusedVariables false

theorem progT_app : ∀ (A B : List Pg) (i : Nat), progT i (A ++ B) = progT i A ++ progT (i + A.length) B
  | [], B, i => by simp [progT]
  | p :: A, B, i => by
    show lineL (clientW i) ++ (opsT p.l ++ progT (i + 1) (A ++ B)) = (lineL (clientW i) ++ (opsT p.l ++ progT (i + 1) A)) ++ _
    rw [progT_app A B (i + 1), List.length_cons, show i + 1 + A.length = i + (A.length + 1) by omega]
    simp only [List.append_assoc]
theorem opsT_app (a b : List Ov) : opsT (a ++ b) = opsT a ++ opsT b := by unfold opsT; rw [List.flatMap_append]
theorem picksG_snoc (q : Int) (m : Nat) (hm : 1 ≤ m) : ∀ (l : List Int) (a : Int) (n : Nat), (∀ v, (a :: l).getLast? = some v → v ≠ q) → picksG a n (l ++ List.replicate m q) = picksG a n l ++ lineL (pickW q m)
  | [], a, n, h => by
    have ha : a ≠ q := h a rfl
    obtain ⟨k, rfl⟩ : ∃ k, m = k + 1 := ⟨m - 1, by omega⟩
    rw [List.nil_append, List.replicate_succ]
    show (if q = a then _ else lineL (pickW a n) ++ picksG q 1 (List.replicate k q)) = lineL (pickW a n) ++ lineL (pickW q (k + 1))
    rw [if_neg (fun e => ha e.symm)]
    have := picksG_run q k 1 [] (.inl rfl)
    rw [List.append_nil] at this
    rw [this, Nat.add_comm 1 k]
    show _ ++ (_ ++ []) = _
    rw [List.append_nil]
  | x :: l, a, n, h => by
    have hx : ∀ v, (x :: l).getLast? = some v → v ≠ q := fun v hv => h v (by rw [List.getLast?_cons_cons]; exact hv)
    show (if x = a then picksG a (n + 1) (l ++ List.replicate m q) else lineL (pickW a n) ++ picksG x 1 (l ++ List.replicate m q)) = (if x = a then picksG a (n + 1) l else lineL (pickW a n) ++ picksG x 1 l) ++ _
    by_cases e : x = a
    · subst e
      rw [if_pos rfl, if_pos rfl]
      exact picksG_snoc q m hm l x (n + 1) hx
    · rw [if_neg e, if_neg e, picksG_snoc q m hm l x 1 hx, List.append_assoc]
theorem picksT_snoc {l : List Int} {q : Int} {m : Nat} (hm : 1 ≤ m) (h : ∀ v, l.getLast? = some v → v ≠ q) : picksT (l ++ List.replicate m q) = picksT l ++ lineL (pickW q m) := by
  rcases l with _ | ⟨a, l⟩
  · obtain ⟨k, rfl⟩ : ∃ k, m = k + 1 := ⟨m - 1, by omega⟩
    rw [List.nil_append, List.replicate_succ]
    show picksG q 1 (List.replicate k q) = [] ++ _
    have := picksG_run q k 1 [] (.inl rfl)
    rw [List.append_nil] at this
    rw [this, Nat.add_comm 1 k]
    show _ ++ [] = _
    rw [List.append_nil, List.nil_append]
  · exact picksG_snoc q m hm l a 1 h
/-- what the text so far says -/
structure FmtInv (x : Rd) (n : Nat) (T : List UInt8) : Prop where
  zero : n = 0 → T = [] ∧ x = zeroRd
  text : 1 ≤ n → T = lineL (cfgW x.c) ++ (progT 0 (x.ss.map pgOf) ++ picksT x.ps)
  last : (x.last = -1 ∧ x.ps = []) ∨ (0 ≤ x.last ∧ x.ps.getLast? = some x.last)
  ops : ∀ l ∈ x.ss, ∀ o ∈ l, OvOk o ∧ plainO o = true
theorem snoc_of {α : Type} {l : List α} {a : α} (h : l.getLast? = some a) : l = l.dropLast ++ [a] := by
  have hne : l ≠ [] := by rintro rfl; cases h
  rw [List.getLast?_eq_some_getLast hne] at h
  injection h with h
  rw [← h]
  exact (List.dropLast_concat_getLast hne).symm
theorem lineP_some {x y : Rd} {l : List UInt8} (h : lineP x l = some y) : clientP x (splitW l) = some y ∨ opP x l = some y ∨ pickP x (splitW l) = some y := by
  unfold lineP at h
  rcases h1 : clientP x (splitW l) with _ | z
  · rw [h1] at h
    rcases h2 : opP x l with _ | z
    · rw [h2] at h
      exact .inr (.inr h)
    · rw [h2] at h
      exact .inr (.inl h)
  · rw [h1] at h
    exact .inl h
theorem opP_some {x y : Rd} {l : List UInt8} (h : opP x l = some y) : ∃ A m o, x.ss = A ++ [m] ∧ x.last < 0 ∧ HasLine l o ∧ y = { x with ss := A ++ [m ++ [o]] } := by
  unfold opP at h
  split at h
  · rename_i hc
    split at h
    · rename_i o ho
      injection h with h
      obtain ⟨A, m, e⟩ : ∃ A m, x.ss = A ++ [m] := ⟨x.ss.dropLast, x.ss.getLast hc.1, (List.dropLast_concat_getLast hc.1).symm⟩
      refine ⟨A, m, o, e, hc.2, parO_inv ho, ?_⟩
      rw [← h, e, addLast_snoc]
    · cases h
  · cases h
theorem stepP_some {x y : Rd} {n : Nat} {p : List UInt8} (h : stepP x n p = some y) : ∃ l, p = l ++ [10] ∧ ((n = 0 ∧ ∃ c, cfgP (splitW l) = some c ∧ y = { x with c := c }) ∨ (1 ≤ n ∧ lineP x l = some y)) := by
  unfold stepP at h
  split at h
  · rename_i hp
    refine ⟨p.dropLast, snoc_of hp, ?_⟩
    split at h
    · rename_i hn
      rw [Option.map_eq_some_iff] at h
      obtain ⟨c, h1, h2⟩ := h
      exact .inl ⟨hn, c, h1, h2.symm⟩
    · exact .inr ⟨by omega, h⟩
  · cases h
theorem line_of {l : List UInt8} {ws : List (List UInt8)} (h : splitW l = ws) : l = joinW ws := by rw [← h, join_split]
theorem inv_step {x y : Rd} {n : Nat} {p T : List UInt8} (hI : FmtInv x n T) (h : stepP x n p = some y) : FmtInv y (n + 1) (T ++ p) := by
  obtain ⟨l, e, hh⟩ := stepP_some h
  clear h
  subst e
  have h := hh
  clear hh
  rcases h with ⟨rfl, c, h, rfl⟩ | ⟨hn, h⟩
  · obtain ⟨rfl, rfl⟩ := hI.zero rfl
    refine ⟨fun e => absurd e (by omega), fun _ => ?_, .inl ⟨rfl, rfl⟩, fun l hl => by cases hl⟩
    rw [line_of (cfgP_some h), List.nil_append]
    show lineL (cfgW c) = lineL (cfgW c) ++ ([] ++ [])
    rw [List.append_nil, List.append_nil]
  · have hT := hI.text hn
    rcases lineP_some h with h | h | h
    · obtain ⟨e, rfl, hl⟩ := clientP_some h
      have hps : x.ps = [] := by
        rcases hI.last with k | k
        · exact k.2
        · have := k.1; omega
      refine ⟨fun e => absurd e (by omega), fun _ => ?_, hI.last, fun l hl => ?_⟩
      · show T ++ (l ++ [10]) = lineL (cfgW x.c) ++ (progT 0 ((x.ss ++ [[]]).map pgOf) ++ picksT x.ps)
        rw [hT, hps, List.map_append, progT_app, List.length_map, Nat.zero_add, line_of e]
        show _ = _ ++ ((_ ++ (lineL (clientW x.ss.length) ++ ([] ++ []))) ++ [])
        unfold lineL
        simp only [List.append_assoc, List.append_nil, picksT]
      · rcases List.mem_append.1 (show l ∈ x.ss ++ [[]] from hl) with hl | hl
        · exact hI.ops l hl
        · rw [List.mem_singleton.1 hl]; intro o ho; cases ho
    · obtain ⟨A, m, o, e, hl, ho, rfl⟩ := opP_some h
      have hps : x.ps = [] := by
        rcases hI.last with k | k
        · exact k.2
        · have := k.1; omega
      refine ⟨fun e => absurd e (by omega), fun _ => ?_, hI.last, fun u hu => ?_⟩
      · show T ++ (l ++ [10]) = lineL (cfgW x.c) ++ (progT 0 ((A ++ [m ++ [o]]).map pgOf) ++ picksT x.ps)
        rw [hT, hps, e, List.map_append, List.map_append, progT_app, progT_app, ← ho.line]
        show _ ++ ((_ ++ (lineL (clientW _) ++ (opsT m ++ []))) ++ []) ++ _ = _ ++ ((_ ++ (lineL (clientW _) ++ (opsT (m ++ [o]) ++ []))) ++ [])
        rw [opsT_app]
        show _ = _ ++ ((_ ++ (_ ++ ((opsT m ++ (lineL [opL o] ++ [])) ++ []))) ++ [])
        unfold lineL
        simp only [List.append_assoc, List.append_nil]
        rfl
      · rcases List.mem_append.1 (show u ∈ A ++ [m ++ [o]] from hu) with hu | hu
        · exact hI.ops u (by rw [e]; exact List.mem_append_left _ hu)
        · rw [List.mem_singleton.1 hu]
          intro v hv
          rcases List.mem_append.1 hv with hv | hv
          · exact hI.ops m (by rw [e]; simp) v hv
          · rw [List.mem_singleton.1 hv]; exact ⟨ho.ok, ho.plain⟩
    · obtain ⟨q, k, e, hk, hq, hqo, rfl⟩ := pickP_some h
      refine ⟨fun e => absurd e (by omega), fun _ => ?_, .inr ⟨hqo.1, ?_⟩, hI.ops⟩
      · show T ++ (l ++ [10]) = lineL (cfgW x.c) ++ (progT 0 (x.ss.map pgOf) ++ picksT (x.ps ++ List.replicate k q))
        rw [picksT_snoc hk fun v hv => ?_, hT, line_of e]
        · unfold lineL
          simp only [List.append_assoc]
        · rcases hI.last with k | k
          · rw [k.2] at hv; cases hv
          · rw [k.2] at hv
            injection hv with hv
            exact fun e => hq (by rw [← e, hv])
      · show (x.ps ++ List.replicate k q).getLast? = some q
        obtain ⟨j, rfl⟩ : ∃ j, k = j + 1 := ⟨k - 1, by omega⟩
        rw [List.replicate_succ', ← List.append_assoc, List.getLast?_concat]
theorem inv_fold : ∀ (L : List (List UInt8)) {x y : Rd} {n k : Nat} {T : List UInt8}, FmtInv x n T → foldP x n L = (y, k, true) → FmtInv y k (T ++ L.flatten)
  | [], x, y, n, k, T, hI, h => by
    injection h with h1 h2
    injection h2 with h2 _
    subst h1; subst h2
    rw [List.flatten_nil, List.append_nil]
    exact hI
  | p :: L, x, y, n, k, T, hI, h => by
    replace h : (if p = [] then foldP x n L else match stepP x n p with | some y => foldP y (n + 1) L | none => (x, n + 1, false)) = (y, k, true) := h
    rw [List.flatten_cons, ← List.append_assoc]
    by_cases hp : p = []
    · subst hp
      rw [if_pos rfl] at h
      rw [List.append_nil]
      exact inv_fold L hI h
    · rw [if_neg hp] at h
      rcases hs : stepP x n p with _ | z
      · rw [hs] at h
        injection h with _ h
        injection h with _ h
        cases h
      · rw [hs] at h
        exact inv_fold L (inv_step hI hs) h
/-- what was read is what is written -/
theorem fold_back {s : List UInt8} {x : Rd} {n : Nat} (hs : s ≠ []) (h : foldP zeroRd 0 (segs s) = (x, n, true)) : fmtL x.c (x.ss.map pgOf) x.ps = s ∧ ∀ l ∈ x.ss, ∀ o ∈ l, OvOk o ∧ plainO o = true := by
  have h0 : FmtInv zeroRd 0 [] := ⟨fun _ => ⟨rfl, rfl⟩, fun e => absurd e (by omega), .inl ⟨rfl, rfl⟩, fun l hl => by cases hl⟩
  have hI := inv_fold _ h0 h
  rw [List.nil_append, segs_flat] at hI
  rcases Nat.eq_zero_or_pos n with hn | hn
  · exact absurd (hI.zero hn).1 hs
  · exact ⟨(hI.text hn).symm, hI.ops⟩
theorem join_part {ws : List (List UInt8)} {w : List UInt8} (h : w ∈ ws) : w.length ≤ (joinW ws).length := by
  induction ws with
  | nil => cases h
  | cons a r ih =>
    rcases r with _ | ⟨b, r⟩
    · rw [List.mem_singleton.1 h]; exact Nat.le_refl _
    · show w.length ≤ (a ++ 32 :: joinW (b :: r)).length
      rw [List.length_append, List.length_cons]
      rcases List.mem_cons.1 h with rfl | h
      · omega
      · have := ih h; omega
theorem fmt_text {c : Cf} {ss : List Pg} {ps : List Int} : c.t.size ≤ (fmtL c ss ps).length := by
  have h1 : (quoteL c.t).length ≤ (joinW (cfgW c)).length := join_part (by unfold cfgW; simp)
  have h2 := quote_len c.t
  unfold fmtL lineL
  simp only [List.length_append]
  omega
end Go.Proofs.YtdfkbahlngijcaaDoor

