/- Text: Format inverts Parse; a spoiled byte: plain. -/
import Derived.Test.YtdfkbahlngijcaaDoorWp
namespace Go.Proofs.YtdfkbahlngijcaaDoor
open Go.RowKit
set_option linter.unusedVariables false

theorem progT_app : ∀ (A B : List Pg) (i : Nat), progT i (A ++ B) = progT i A ++ progT (i + A.length) B
  | [], B, i => by simp [progT]
  | p :: A, B, i => by
    show lineL (clientW i) ++ (opsT p.l ++ progT (i + 1) (A ++ B)) = (lineL (clientW i) ++ (opsT p.l ++ progT (i + 1) A)) ++ _
    rw [progT_app A B (i + 1), List.length_cons, show i + 1 + A.length = i + (A.length + 1) by omega]
    simp only [List.append_assoc]
theorem opsT_app (a b : List Ov) : opsT (a ++ b) = opsT a ++ opsT b := by unfold opsT; rw [List.flatMap_append]
theorem picksG_snoc (q : Int) (m : Nat) (hm : 1 ≤ m) : ∀ (l : List Int) (a : Int) (n : Nat), (∀ v, (a :: l).getLast? = some v → v ≠ q) → picksG a n (l ++ List.replicate m q) = picksG a n l ++ lineL (pickW q m)
  | [], a, n, h => by
    have ha : a ≠ q := h a rfl
    obtain ⟨k, rfl⟩ : ∃ k, m = k + 1 := ⟨m - 1, by omega⟩
    rw [List.nil_append, List.replicate_succ]
    show (if q = a then _ else lineL (pickW a n) ++ picksG q 1 (List.replicate k q)) = lineL (pickW a n) ++ lineL (pickW q (k + 1))
    rw [if_neg (fun e => ha e.symm)]
    have := picksG_run q k 1 [] (.inl rfl)
    rw [List.append_nil] at this
    rw [this, Nat.add_comm 1 k]
    show _ ++ (_ ++ []) = _
    rw [List.append_nil]
  | x :: l, a, n, h => by
    have hx : ∀ v, (x :: l).getLast? = some v → v ≠ q := fun v hv => h v (by rw [List.getLast?_cons_cons]; exact hv)
    show (if x = a then picksG a (n + 1) (l ++ List.replicate m q) else lineL (pickW a n) ++ picksG x 1 (l ++ List.replicate m q)) = (if x = a then picksG a (n + 1) l else lineL (pickW a n) ++ picksG x 1 l) ++ _
    by_cases e : x = a
    · subst e
      rw [if_pos rfl, if_pos rfl]
      exact picksG_snoc q m hm l x (n + 1) hx
    · rw [if_neg e, if_neg e, picksG_snoc q m hm l x 1 hx, List.append_assoc]
theorem picksT_snoc {l : List Int} {q : Int} {m : Nat} (hm : 1 ≤ m) (h : ∀ v, l.getLast? = some v → v ≠ q) : picksT (l ++ List.replicate m q) = picksT l ++ lineL (pickW q m) := by
  rcases l with _ | ⟨a, l⟩
  · obtain ⟨k, rfl⟩ : ∃ k, m = k + 1 := ⟨m - 1, by omega⟩
    rw [List.nil_append, List.replicate_succ]
    show picksG q 1 (List.replicate k q) = [] ++ _
    have := picksG_run q k 1 [] (.inl rfl)
    rw [List.append_nil] at this
    rw [this, Nat.add_comm 1 k]
    show _ ++ [] = _
    rw [List.append_nil, List.nil_append]
  · exact picksG_snoc q m hm l a 1 h
/-- what the text so far says -/
structure FmtInv (x : Rd) (n : Nat) (T : List UInt8) : Prop where
  zero : n = 0 → T = [] ∧ x = zeroRd
  text : 1 ≤ n → T = lineL (cfgW x.c) ++ (progT 0 (x.ss.map pgOf) ++ picksT x.ps)
  last : (x.last = -1 ∧ x.ps = []) ∨ (0 ≤ x.last ∧ x.ps.getLast? = some x.last)
  ops : ∀ l ∈ x.ss, ∀ o ∈ l, OvOk o ∧ plainO o = true
theorem snoc_of {α : Type} {l : List α} {a : α} (h : l.getLast? = some a) : l = l.dropLast ++ [a] := by
  have hne : l ≠ [] := by rintro rfl; cases h
  rw [List.getLast?_eq_some_getLast hne] at h
  injection h with h
  rw [← h]
  exact (List.dropLast_concat_getLast hne).symm
theorem lineP_some {x y : Rd} {l : List UInt8} (h : lineP x l = some y) : clientP x (splitW l) = some y ∨ opP x l = some y ∨ pickP x (splitW l) = some y := by
  unfold lineP at h
  rcases h1 : clientP x (splitW l) with _ | z
  · rw [h1] at h
    rcases h2 : opP x l with _ | z
    · rw [h2] at h
      exact .inr (.inr h)
    · rw [h2] at h
      exact .inr (.inl h)
  · rw [h1] at h
    exact .inl h
theorem opP_some {x y : Rd} {l : List UInt8} (h : opP x l = some y) : ∃ A m o, x.ss = A ++ [m] ∧ x.last < 0 ∧ HasLine l o ∧ y = { x with ss := A ++ [m ++ [o]] } := by
  unfold opP at h
  split at h
  · rename_i hc
    split at h
    · rename_i o ho
      injection h with h
      obtain ⟨A, m, e⟩ : ∃ A m, x.ss = A ++ [m] := ⟨x.ss.dropLast, x.ss.getLast hc.1, (List.dropLast_concat_getLast hc.1).symm⟩
      refine ⟨A, m, o, e, hc.2, parO_inv ho, ?_⟩
      rw [← h, e, addLast_snoc]
    · cases h
  · cases h
theorem stepP_some {x y : Rd} {n : Nat} {p : List UInt8} (h : stepP x n p = some y) : ∃ l, p = l ++ [10] ∧ ((n = 0 ∧ ∃ c, cfgP (splitW l) = some c ∧ y = { x with c := c }) ∨ (1 ≤ n ∧ lineP x l = some y)) := by
  unfold stepP at h
  split at h
  · rename_i hp
    refine ⟨p.dropLast, snoc_of hp, ?_⟩
    split at h
    · rename_i hn
      rw [Option.map_eq_some_iff] at h
      obtain ⟨c, h1, h2⟩ := h
      exact .inl ⟨hn, c, h1, h2.symm⟩
    · exact .inr ⟨by omega, h⟩
  · cases h
theorem line_of {l : List UInt8} {ws : List (List UInt8)} (h : splitW l = ws) : l = joinW ws := by rw [← h, join_split]
/-- no line holds an exclamation mark -/
theorem step_no33 {x y : Rd} {n : Nat} {p : List UInt8} (h : stepP x n p = some y) : ∀ c ∈ p, c ≠ 33 := by
  obtain ⟨l, e, hh⟩ := stepP_some h
  clear h
  subst e
  have h := hh
  clear hh
  suffices hl : ∀ c ∈ l, c ≠ 33 by
    intro c hc
    rcases List.mem_append.1 hc with hc | hc
    · exact hl c hc
    · rw [List.mem_singleton.1 hc]; decide
  rcases h with ⟨_, c, h, _⟩ | ⟨_, h⟩
  · rw [line_of (cfgP_some h)]
    exact join_no33 (cfgW_fine c)
  · rcases lineP_some h with h | h | h
    · rw [line_of (clientP_some h).1]
      exact join_no33 (clientW_fine _)
    · obtain ⟨A, m, o, _, _, ho, _⟩ := opP_some h
      rw [← ho.line]
      exact join_no33 (opW_fine (plain_kind ho.plain))
    · obtain ⟨q, k, e, _⟩ := pickP_some h
      rw [line_of e]
      exact join_no33 (pickW_fine _ _)
theorem inv_step {x y : Rd} {n : Nat} {p T : List UInt8} (hI : FmtInv x n T) (h : stepP x n p = some y) : FmtInv y (n + 1) (T ++ p) := by
  obtain ⟨l, e, hh⟩ := stepP_some h
  clear h
  subst e
  have h := hh
  clear hh
  rcases h with ⟨rfl, c, h, rfl⟩ | ⟨hn, h⟩
  · obtain ⟨rfl, rfl⟩ := hI.zero rfl
    refine ⟨fun e => absurd e (by omega), fun _ => ?_, .inl ⟨rfl, rfl⟩, fun l hl => by cases hl⟩
    rw [line_of (cfgP_some h), List.nil_append]
    show lineL (cfgW c) = lineL (cfgW c) ++ ([] ++ [])
    rw [List.append_nil, List.append_nil]
  · have hT := hI.text hn
    rcases lineP_some h with h | h | h
    · obtain ⟨e, rfl, hl⟩ := clientP_some h
      have hps : x.ps = [] := by
        rcases hI.last with k | k
        · exact k.2
        · have := k.1; omega
      refine ⟨fun e => absurd e (by omega), fun _ => ?_, hI.last, fun l hl => ?_⟩
      · show T ++ (l ++ [10]) = lineL (cfgW x.c) ++ (progT 0 ((x.ss ++ [[]]).map pgOf) ++ picksT x.ps)
        rw [hT, hps, List.map_append, progT_app, List.length_map, Nat.zero_add, line_of e]
        show _ = _ ++ ((_ ++ (lineL (clientW x.ss.length) ++ ([] ++ []))) ++ [])
        unfold lineL
        simp only [List.append_assoc, List.append_nil, picksT]
      · rcases List.mem_append.1 (show l ∈ x.ss ++ [[]] from hl) with hl | hl
        · exact hI.ops l hl
        · rw [List.mem_singleton.1 hl]; intro o ho; cases ho
    · obtain ⟨A, m, o, e, hl, ho, rfl⟩ := opP_some h
      have hps : x.ps = [] := by
        rcases hI.last with k | k
        · exact k.2
        · have := k.1; omega
      refine ⟨fun e => absurd e (by omega), fun _ => ?_, hI.last, fun u hu => ?_⟩
      · show T ++ (l ++ [10]) = lineL (cfgW x.c) ++ (progT 0 ((A ++ [m ++ [o]]).map pgOf) ++ picksT x.ps)
        rw [hT, hps, e, List.map_append, List.map_append, progT_app, progT_app, ← ho.line]
        show _ ++ ((_ ++ (lineL (clientW _) ++ (opsT m ++ []))) ++ []) ++ _ = _ ++ ((_ ++ (lineL (clientW _) ++ (opsT (m ++ [o]) ++ []))) ++ [])
        rw [opsT_app]
        show _ = _ ++ ((_ ++ (_ ++ ((opsT m ++ (lineL [opL o] ++ [])) ++ []))) ++ [])
        unfold lineL
        simp only [List.append_assoc, List.append_nil]
        rfl
      · rcases List.mem_append.1 (show u ∈ A ++ [m ++ [o]] from hu) with hu | hu
        · exact hI.ops u (by rw [e]; exact List.mem_append_left _ hu)
        · rw [List.mem_singleton.1 hu]
          intro v hv
          rcases List.mem_append.1 hv with hv | hv
          · exact hI.ops m (by rw [e]; simp) v hv
          · rw [List.mem_singleton.1 hv]; exact ⟨ho.ok, ho.plain⟩
    · obtain ⟨q, k, e, hk, hq, hqo, rfl⟩ := pickP_some h
      refine ⟨fun e => absurd e (by omega), fun _ => ?_, .inr ⟨hqo.1, ?_⟩, hI.ops⟩
      · show T ++ (l ++ [10]) = lineL (cfgW x.c) ++ (progT 0 (x.ss.map pgOf) ++ picksT (x.ps ++ List.replicate k q))
        rw [picksT_snoc hk fun v hv => ?_, hT, line_of e]
        · unfold lineL
          simp only [List.append_assoc]
        · rcases hI.last with k | k
          · rw [k.2] at hv; cases hv
          · rw [k.2] at hv
            injection hv with hv
            exact fun e => hq (by rw [← e, hv])
      · show (x.ps ++ List.replicate k q).getLast? = some q
        obtain ⟨j, rfl⟩ : ∃ j, k = j + 1 := ⟨k - 1, by omega⟩
        rw [List.replicate_succ', ← List.append_assoc, List.getLast?_concat]
theorem inv_fold : ∀ (L : List (List UInt8)) {x y : Rd} {n k : Nat} {T : List UInt8}, FmtInv x n T → foldP x n L = (y, k, true) → FmtInv y k (T ++ L.flatten)
  | [], x, y, n, k, T, hI, h => by
    injection h with h1 h2
    injection h2 with h2 _
    subst h1; subst h2
    rw [List.flatten_nil, List.append_nil]
    exact hI
  | p :: L, x, y, n, k, T, hI, h => by
    replace h : (if p = [] then foldP x n L else match stepP x n p with | some y => foldP y (n + 1) L | none => (x, n + 1, false)) = (y, k, true) := h
    rw [List.flatten_cons, ← List.append_assoc]
    by_cases hp : p = []
    · subst hp
      rw [if_pos rfl] at h
      rw [List.append_nil]
      exact inv_fold L hI h
    · rw [if_neg hp] at h
      rcases hs : stepP x n p with _ | z
      · rw [hs] at h
        injection h with _ h
        injection h with _ h
        cases h
      · rw [hs] at h
        exact inv_fold L (inv_step hI hs) h
/-- what was read is what is written -/
theorem fold_back {s : List UInt8} {x : Rd} {n : Nat} (hs : s ≠ []) (h : foldP zeroRd 0 (segs s) = (x, n, true)) : fmtL x.c (x.ss.map pgOf) x.ps = s ∧ ∀ l ∈ x.ss, ∀ o ∈ l, OvOk o ∧ plainO o = true := by
  have h0 : FmtInv zeroRd 0 [] := ⟨fun _ => ⟨rfl, rfl⟩, fun e => absurd e (by omega), .inl ⟨rfl, rfl⟩, fun l hl => by cases hl⟩
  have hI := inv_fold _ h0 h
  rw [List.nil_append, segs_flat] at hI
  rcases Nat.eq_zero_or_pos n with hn | hn
  · exact absurd (hI.zero hn).1 hs
  · exact ⟨(hI.text hn).symm, hI.ops⟩
theorem fold_pos : ∀ (L : List (List UInt8)) (x y : Rd) (n k : Nat), foldP x n L = (y, k, false) → n + 1 ≤ k
  | [], x, y, n, k, h => by
    injection h with _ h
    injection h with _ h
    cases h
  | p :: L, x, y, n, k, h => by
    replace h : (if p = [] then foldP x n L else match stepP x n p with | some y => foldP y (n + 1) L | none => (x, n + 1, false)) = (y, k, false) := h
    by_cases hp : p = []
    · rw [if_pos hp] at h
      exact fold_pos L x y n k h
    · rw [if_neg hp] at h
      rcases hs : stepP x n p with _ | z
      · rw [hs] at h
        injection h with _ h
        injection h with h _
        omega
      · rw [hs] at h
        have := fold_pos L z y (n + 1) k h
        omega
/-- the lines ahead of a byte -/
theorem segs_split : ∀ a : List UInt8, ∃ A b, (∀ c ∈ b, c ≠ 10) ∧ A.length = a.count 10 ∧ (∀ p ∈ A, p ≠ []) ∧ (A = [] → a = b) ∧ ∀ u, segs (a ++ u) = A ++ segs (b ++ u)
  | [] => ⟨[], [], fun c hc => (by cases hc), rfl, fun p hp => (by cases hp), fun _ => rfl, fun _ => rfl⟩
  | c :: a => by
    obtain ⟨A, b, h1, h2, h3, h4, h5⟩ := segs_split a
    by_cases hc : c = 10
    · subst hc
      refine ⟨[10] :: A, b, h1, by simp [h2], fun p hp => ?_, fun e => (by cases e), fun u => ?_⟩
      · rcases List.mem_cons.1 hp with rfl | hp
        · simp
        · exact h3 p hp
      · show segs (10 :: (a ++ u)) = _
        rw [segs_cons, if_pos rfl, h5]
        rfl
    · have hcnt : (c :: a).count 10 = a.count 10 := by rw [List.count_cons]; simp [hc]
      rcases A with _ | ⟨p, A⟩
      · obtain rfl := h4 rfl
        refine ⟨[], c :: a, fun d hd => ?_, by rw [hcnt]; exact h2, fun p hp => (by cases hp), fun _ => rfl, fun _ => rfl⟩
        rcases List.mem_cons.1 hd with rfl | hd
        · exact hc
        · exact h1 d hd
      · refine ⟨(c :: p) :: A, b, h1, by rw [hcnt]; exact h2, fun q hq => ?_, fun e => (by cases e), fun u => ?_⟩
        · rcases List.mem_cons.1 hq with rfl | hq
          · simp
          · exact h3 q (List.mem_cons_of_mem _ hq)
        · show segs (c :: (a ++ u)) = _
          rw [segs_cons, if_neg hc, h5]
          rfl
theorem fold_app : ∀ (A : List (List UInt8)) {x y : Rd} {n m : Nat} {Y : List (List UInt8)}, (∀ p ∈ A, p ≠ []) → foldP x n (A ++ Y) = (y, m, true) → ∃ z, ∀ X, foldP x n (A ++ X) = foldP z (n + A.length) X
  | [], x, y, n, m, Y, _, _ => ⟨x, fun X => rfl⟩
  | p :: A, x, y, n, m, Y, hA, h => by
    have hp := hA p (List.mem_cons_self ..)
    replace h : (if p = [] then foldP x n (A ++ Y) else match stepP x n p with | some y => foldP y (n + 1) (A ++ Y) | none => (x, n + 1, false)) = (y, m, true) := h
    rw [if_neg hp] at h
    rcases hs : stepP x n p with _ | w
    · rw [hs] at h
      injection h with _ h
      injection h with _ h
      cases h
    · rw [hs] at h
      obtain ⟨z, hz⟩ := fold_app A (fun q hq => hA q (List.mem_cons_of_mem _ hq)) h
      refine ⟨z, fun X => ?_⟩
      show (if p = [] then foldP x n (A ++ X) else match stepP x n p with | some y => foldP y (n + 1) (A ++ X) | none => (x, n + 1, false)) = _
      rw [if_neg hp, hs, List.length_cons, show n + (A.length + 1) = n + 1 + A.length by omega]
      exact hz X
/-- a byte replaced by an exclamation mark -/
theorem spoiled {t : List UInt8} {x : Rd} {n k : Nat} (h : foldP zeroRd 0 (segs t) = (x, n, true)) (hk : k < t.length) : ∃ x', foldP zeroRd 0 (segs (t.take k ++ 33 :: t.drop (k + 1))) = (x', (t.take k).count 10 + 1, false) := by
  obtain ⟨A, b, h1, h2, h3, -, h5⟩ := segs_split (t.take k)
  have ht : t = t.take k ++ t.drop k := (List.take_append_drop k t).symm
  rw [ht, h5] at h
  obtain ⟨z, hz⟩ := fold_app A h3 h
  rw [h5, hz, Nat.zero_add, h2]
  obtain ⟨p, q, hs, -⟩ := segs_first (b ++ [33]) (t.drop (k + 1)) fun c hc => by
    rcases List.mem_append.1 hc with hc | hc
    · exact h1 c hc
    · rw [List.mem_singleton.1 hc]; decide
  rw [List.append_assoc] at hs
  replace hs : segs (b ++ 33 :: t.drop (k + 1)) = _ := hs
  rw [hs]
  refine ⟨z, ?_⟩
  show (if (b ++ [33]) ++ p = [] then _ else match stepP z ((t.take k).count 10) ((b ++ [33]) ++ p) with | some y => foldP y _ q | none => (z, (t.take k).count 10 + 1, false)) = _
  rw [if_neg (by simp)]
  rcases hst : stepP z ((t.take k).count 10) ((b ++ [33]) ++ p) with _ | y
  · rfl
  · exact absurd rfl (step_no33 hst 33 (by simp))
theorem join_part {ws : List (List UInt8)} {w : List UInt8} (h : w ∈ ws) : w.length ≤ (joinW ws).length := by
  induction ws with
  | nil => cases h
  | cons a r ih =>
    rcases r with _ | ⟨b, r⟩
    · rw [List.mem_singleton.1 h]; exact Nat.le_refl _
    · show w.length ≤ (a ++ 32 :: joinW (b :: r)).length
      rw [List.length_append, List.length_cons]
      rcases List.mem_cons.1 h with rfl | h
      · omega
      · have := ih h; omega
theorem fmt_text {c : Cf} {ss : List Pg} {ps : List Int} : c.t.size ≤ (fmtL c ss ps).length := by
  have h1 : (quoteL c.t).length ≤ (joinW (cfgW c)).length := join_part (by unfold cfgW; simp)
  have h2 := quote_len c.t
  unfold fmtL lineL
  simp only [List.length_append]
  omega
end Go.Proofs.YtdfkbahlngijcaaDoor

