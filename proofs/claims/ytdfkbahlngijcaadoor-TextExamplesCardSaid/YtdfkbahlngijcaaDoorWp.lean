/- Text: Parse and Format: each inverts the other: plain. -/
import Derived.Test.YtdfkbahlngijcaaDoorWc
namespace Go.Proofs.YtdfkbahlngijcaaDoor
open Go.RowKit
set_option linter.unusedVariables false

theorem segs_cons (c : UInt8) (l : List UInt8) : segs (c :: l) = if c = 10 then [10] :: segs l else match segs l with
    | [] => [[c]]
    | x :: r => (c :: x) :: r := rfl
/-- a line and what comes behind it -/
theorem segs_line : ∀ (l r : List UInt8), (∀ c ∈ l, c ≠ 10) → segs (l ++ 10 :: r) = (l ++ [10]) :: segs r
  | [], r, _ => by show segs (10 :: r) = _; rw [segs_cons, if_pos rfl]; rfl
  | c :: l, r, h => by
    show segs (c :: (l ++ 10 :: r)) = _
    rw [segs_cons, if_neg (h c (List.mem_cons_self ..)), segs_line l r fun d hd => h d (List.mem_cons_of_mem _ hd)]
    rfl
theorem segs_ne : ∀ l : List UInt8, segs l ≠ []
  | [] => by decide
  | c :: l => by
    rw [segs_cons]
    split
    · simp
    · split <;> simp
/-- the first piece, where no line feed stands in the first bytes -/
theorem segs_first : ∀ (l r : List UInt8), (∀ c ∈ l, c ≠ 10) → ∃ p q, segs (l ++ r) = (l ++ p) :: q ∧ segs r = p :: q
  | [], r, _ => by
    rcases h : segs r with _ | ⟨p, q⟩
    · exact absurd h (segs_ne r)
    · exact ⟨p, q, by rw [List.nil_append, h, List.nil_append], rfl⟩
  | c :: l, r, h => by
    obtain ⟨p, q, h1, h2⟩ := segs_first l r fun d hd => h d (List.mem_cons_of_mem _ hd)
    refine ⟨p, q, ?_, h2⟩
    show segs (c :: (l ++ r)) = _
    rw [segs_cons, if_neg (h c (List.mem_cons_self ..)), h1]
    rfl
theorem segs_flat : ∀ l : List UInt8, (segs l).flatten = l
  | [] => rfl
  | c :: l => by
    have ih := segs_flat l
    rw [segs_cons]
    split
    · rename_i h; subst h
      rw [List.flatten_cons, ih]; rfl
    · rcases h : segs l with _ | ⟨x, r⟩
      · exact absurd h (segs_ne l)
      · rw [h] at ih
        show (c :: x) ++ r.flatten = c :: l
        rw [← ih]; rfl
theorem stepP_line (x : Rd) (n : Nat) (l : List UInt8) : stepP x n (l ++ [10]) = if n = 0 then (cfgP (splitW l)).map (fun c => { x with c := c }) else lineP x l := by
  unfold stepP
  rw [if_pos (by simp), List.dropLast_concat]
theorem fold_line (x : Rd) (n : Nat) (l r : List UInt8) (h : ∀ c ∈ l, c ≠ 10) : foldP x n (segs (l ++ 10 :: r)) = match (if n = 0 then (cfgP (splitW l)).map (fun c => { x with c := c }) else lineP x l) with
    | some y => foldP y (n + 1) (segs r)
    | none => (x, n + 1, false) := by
  rw [segs_line l r h]
  show (if l ++ [10] = [] then _ else match stepP x n (l ++ [10]) with | some y => foldP y (n + 1) (segs r) | none => (x, n + 1, false)) = _
  rw [if_neg (by simp), stepP_line]
theorem fold_end (x : Rd) (n : Nat) : foldP x n (segs []) = (x, n, true) := by
  show (if ([] : List UInt8) = [] then foldP x n [] else _) = _
  rw [if_pos rfl]; rfl
/-- bytes of words -/
def Fine (c : UInt8) : Prop := c ≠ 10 ∧ c ≠ 32 ∧ c ≠ 33
theorem digits_fine (n : Nat) : ∀ c ∈ Lib.decDigits n, Fine c := by
  induction n using Nat.strongRecOn with
  | ind n ih =>
    intro c hc
    have hd := digC_nat n
    have hf : Fine (digC n) := ⟨fun e => by rw [e] at hd; simp at hd; omega, fun e => by rw [e] at hd; simp at hd; omega, fun e => by rw [e] at hd; simp at hd; omega⟩
    by_cases h : n < 10
    · rw [decDigits_small h, List.mem_singleton] at hc
      subst hc
      exact hf
    · rw [decDigits_step h, List.mem_append, List.mem_singleton] at hc
      rcases hc with hc | rfl
      · exact ih (n / 10) (by omega) c hc
      · exact hf
theorem num_fine (v : Int) : ∀ c ∈ numL v, Fine c := by
  intro c hc
  unfold numL at hc
  split at hc
  · exact digits_fine _ c hc
  · cases hc
theorem hexD_fine : ∀ n : Nat, n < 16 → hexD n ≠ 10 ∧ hexD n ≠ 32 ∧ hexD n ≠ 33 := by decide +kernel
theorem hexL_fine (l : List UInt8) : ∀ c ∈ hexL l, Fine c := by
  intro c hc
  obtain ⟨b, _, hb⟩ := List.mem_flatMap.1 hc
  have := u8lt b
  simp only [hexB, List.mem_cons, List.not_mem_nil, or_false] at hb
  rcases hb with rfl | rfl
  · exact hexD_fine _ (by omega)
  · exact hexD_fine _ (by omega)
theorem quote_fine (t : ByteArray) : ∀ c ∈ quoteL t, Fine c := by
  intro c hc
  rcases List.mem_cons.1 (show c ∈ 43 :: hexL t.data.toList from hc) with rfl | hc
  · exact ⟨by decide, by decide, by decide⟩
  · exact hexL_fine _ c hc
theorem nameL_fine : ∀ a : Nat, a < 17 → ∀ c ∈ nameL a, c ≠ 10 ∧ c ≠ 32 ∧ c ≠ 33 := by decide +kernel
theorem letW_fine (x : Ov) (c : UInt8) : ∀ d ∈ letW x c, Fine d := by
  intro d hd
  unfold letW at hd
  split at hd
  · exact num_fine _ d hd
  split at hd
  · exact num_fine _ d hd
  split at hd
  · exact num_fine _ d hd
  split at hd
  · exact num_fine _ d hd
  split at hd
  · exact num_fine _ d hd
  exact quote_fine _ d hd
theorem opW_fine {x : Ov} (hk : 1 ≤ x.k ∧ x.k ≤ 16) : ∀ w ∈ opW x, ∀ c ∈ w, Fine c := by
  intro w hw c hc
  unfold opW at hw
  rcases List.mem_cons.1 hw with rfl | hw
  · exact nameL_fine _ (by omega) c hc
  · obtain ⟨d, _, rfl⟩ := List.mem_map.1 hw
    exact letW_fine x d c hc
theorem cfgW_fine (c : Cf) : ∀ w ∈ cfgW c, ∀ d ∈ w, Fine d := by
  intro w hw d hd
  unfold cfgW at hw
  simp only [List.mem_append, List.mem_singleton, List.mem_map] at hw
  rcases hw with (rfl | ⟨v, _, rfl⟩) | rfl
  · revert d; unfold Fine; decide
  · exact num_fine _ d hd
  · exact quote_fine _ d hd
theorem clientW_fine (i : Nat) : ∀ w ∈ clientW i, ∀ d ∈ w, Fine d := by
  intro w hw d hd
  unfold clientW at hw
  simp only [List.mem_cons, List.not_mem_nil, or_false] at hw
  rcases hw with rfl | rfl
  · revert d; unfold Fine; decide
  · exact num_fine _ d hd
theorem pickW_fine (q : Int) (n : Nat) : ∀ w ∈ pickW q n, ∀ d ∈ w, Fine d := by
  intro w hw d hd
  unfold pickW at hw
  simp only [List.mem_cons, List.not_mem_nil, or_false] at hw
  rcases hw with rfl | rfl | rfl
  · revert d; unfold Fine; decide
  · exact num_fine _ d hd
  · exact num_fine _ d hd
theorem join_mem : ∀ (ws : List (List UInt8)) (c : UInt8), c ∈ joinW ws → c = 32 ∨ ∃ w ∈ ws, c ∈ w
  | [], c, h => by cases h
  | [w], c, h => .inr ⟨w, List.mem_cons_self .., h⟩
  | w :: v :: r, c, h => by
    rcases List.mem_append.1 (show c ∈ w ++ 32 :: joinW (v :: r) from h) with h | h
    · exact .inr ⟨w, List.mem_cons_self .., h⟩
    · rcases List.mem_cons.1 h with rfl | h
      · exact .inl rfl
      · rcases join_mem (v :: r) c h with h | ⟨u, hu, h⟩
        · exact .inl h
        · exact .inr ⟨u, List.mem_cons_of_mem _ hu, h⟩
theorem join_no10 {ws : List (List UInt8)} (h : ∀ w ∈ ws, ∀ c ∈ w, Fine c) : ∀ c ∈ joinW ws, c ≠ 10 := by
  intro c hc
  rcases join_mem ws c hc with rfl | ⟨w, hw, hc⟩
  · decide
  · exact (h w hw c hc).1
theorem join_no33 {ws : List (List UInt8)} (h : ∀ w ∈ ws, ∀ c ∈ w, Fine c) : ∀ c ∈ joinW ws, c ≠ 33 := by
  intro c hc
  rcases join_mem ws c hc with rfl | ⟨w, hw, hc⟩
  · decide
  · exact (h w hw c hc).2.2
theorem split_fine {ws : List (List UInt8)} (hn : ws ≠ []) (h : ∀ w ∈ ws, ∀ c ∈ w, Fine c) : splitW (joinW ws) = ws := split_join ws hn fun w hw c hc => (h w hw c hc).2.1
/-- the words of a configuration -/
theorem cfgP_W {c : Cf} (h : ∀ v ∈ cfgV c, numOK v) : cfgP (cfgW c) = some c := by
  have hn := numsW_of (l := cfgV c) h
  have e : (cfgW c).drop 1 = (cfgV c).map numL ++ [quoteL c.t] := rfl
  have e7 : ((cfgW c).drop 1).take 7 = (cfgV c).map numL := rfl
  unfold cfgP
  rw [if_pos ⟨rfl, rfl⟩, e7, hn]
  show (match unqL (quoteL c.t) with | some t => some (⟨c.slots, c.gens, c.clients, c.readers, c.queue, c.batch, c.feed, ⟨t.toArray⟩⟩ : Cf) | none => none) = some c
  rw [unqL_quote]
theorem pl9 {α : Type} (l : List α) (h : l.length = 9) : ∃ a b c d e f g i j, l = [a, b, c, d, e, f, g, i, j] := by
  match l, h with
  | [a, b, c, d, e, f, g, i, j], _ => exact ⟨a, b, c, d, e, f, g, i, j, rfl⟩
theorem pl7 {α : Type} (l : List α) (h : l.length = 7) : ∃ a b c d e f g, l = [a, b, c, d, e, f, g] := by
  match l, h with
  | [a, b, c, d, e, f, g], _ => exact ⟨a, b, c, d, e, f, g, rfl⟩
theorem pl2 {α : Type} (l : List α) (h : l.length = 2) : ∃ a b, l = [a, b] := by
  match l, h with
  | [a, b], _ => exact ⟨a, b, rfl⟩
theorem pl3 {α : Type} (l : List α) (h : l.length = 3) : ∃ a b c, l = [a, b, c] := by
  match l, h with
  | [a, b, c], _ => exact ⟨a, b, c, rfl⟩
theorem cfgP_some {ws : List (List UInt8)} {c : Cf} (h : cfgP ws = some c) : ws = cfgW c := by
  unfold cfgP at h
  split at h
  · rename_i hc
    obtain ⟨w0, w1, w2, w3, w4, w5, w6, w7, w8, rfl⟩ := pl9 ws hc.1
    have h0 : w0 = cfgN := hc.2
    subst h0
    split at h
    · rename_i l hl
      have hll := numsW_words hl
      obtain ⟨a0, a1, a2, a3, a4, a5, a6, rfl⟩ := pl7 l (numsW_len hl)
      split at h
      · rename_i t ht
        injection h with h
        subst h
        have e1 : [numL a0, numL a1, numL a2, numL a3, numL a4, numL a5, numL a6] = [w1, w2, w3, w4, w5, w6, w7] := hll
        have e2 : quoteL ⟨t.toArray⟩ = w8 := unqL_some ht
        show [cfgN, w1, w2, w3, w4, w5, w6, w7, w8] = [cfgN] ++ [numL a0, numL a1, numL a2, numL a3, numL a4, numL a5, numL a6] ++ [quoteL ⟨t.toArray⟩]
        rw [e1, e2]
        rfl
      · cases h
    · cases h
  · cases h
/-- the words of a client's line -/
theorem clientP_W {x : Rd} (hl : x.last < 0) (hi : numOK x.ss.length) : clientP x (clientW x.ss.length) = some { x with ss := x.ss ++ [[]] } := by
  unfold clientP
  rw [if_pos ⟨rfl, rfl, hl⟩]
  show (match numW (numL x.ss.length) with | some n => if n = x.ss.length then some { x with ss := x.ss ++ [[]] } else none | none => none) = _
  rw [numW_numL hi]
  show (if ((x.ss.length : Nat) : Int).toNat = x.ss.length then some { x with ss := x.ss ++ [[]] } else none) = _
  rw [if_pos (by omega)]
theorem clientP_some {x y : Rd} {ws : List (List UInt8)} (h : clientP x ws = some y) : ws = clientW x.ss.length ∧ y = { x with ss := x.ss ++ [[]] } ∧ x.last < 0 := by
  unfold clientP at h
  split at h
  · rename_i hc
    obtain ⟨a, b, rfl⟩ := pl2 ws hc.1
    have h0 : a = clientN := hc.2.1
    subst h0
    split at h
    · rename_i n hn
      split at h
      · rename_i hnl
        injection h with h
        refine ⟨?_, h.symm, hc.2.2⟩
        have e : numL (n : Int) = b := numL_numW hn
        show [clientN, b] = [clientN, numL x.ss.length]
        rw [← e, hnl]
      · cases h
    · cases h
  · cases h
theorem addLast_snoc : ∀ (A : List (List Ov)) (m : List Ov) (o : Ov), addLast (A ++ [m]) o = A ++ [m ++ [o]]
  | [], m, o => rfl
  | [a], m, o => rfl
  | a :: b :: A, m, o => by
    show a :: addLast (b :: A ++ [m]) o = _
    rw [addLast_snoc (b :: A) m o]
    rfl
theorem pickP_W {x : Rd} {q : Int} {n : Nat} (hq : numOK q) (hn : numOK n) (h1 : 1 ≤ n) (hl : q ≠ x.last) (hs : n + x.ps.length ≤ 65535) : pickP x (pickW q n) = some { x with ps := x.ps ++ List.replicate n q, last := q } := by
  have hw : numsW ([q, (n : Int)].map numL) = some [q, (n : Int)] := numsW_of fun v hv => by
    simp only [List.mem_cons, List.not_mem_nil, or_false] at hv
    rcases hv with rfl | rfl
    · exact hq
    · exact hn
  unfold pickP
  rw [if_pos ⟨rfl, rfl⟩]
  show (match numsW [numL q, numL n] with | some l => if 1 ≤ l.getD 1 0 ∧ l.getD 0 0 ≠ x.last ∧ l.getD 1 0 ≤ 65535 - (x.ps.length : Int) then some { x with ps := x.ps ++ List.replicate (l.getD 1 0).toNat (l.getD 0 0), last := l.getD 0 0 } else none | none => none) = _
  rw [show [numL q, numL n] = [q, (n : Int)].map numL from rfl, hw]
  show (if 1 ≤ (n : Int) ∧ q ≠ x.last ∧ (n : Int) ≤ 65535 - (x.ps.length : Int) then some { x with ps := x.ps ++ List.replicate (n : Int).toNat q, last := q } else none) = _
  rw [if_pos ⟨by omega, hl, by omega⟩, show ((n : Int)).toNat = n by omega]
theorem pickP_some {x y : Rd} {ws : List (List UInt8)} (h : pickP x ws = some y) : ∃ q n, ws = pickW q n ∧ 1 ≤ n ∧ q ≠ x.last ∧ numOK q ∧ y = { x with ps := x.ps ++ List.replicate n q, last := q } := by
  unfold pickP at h
  split at h
  · rename_i hc
    obtain ⟨a, b, d, rfl⟩ := pl3 ws hc.1
    have h0 : a = pickN := hc.2
    subst h0
    split at h
    · rename_i l hl
      have hll := numsW_words hl
      have hok := numsW_ok hl
      obtain ⟨q, m, rfl⟩ := pl2 l (numsW_len hl)
      split at h
      · rename_i hcc
        injection h with h
        have h1 : 1 ≤ m := hcc.1
        have e1 : [numL q, numL m] = [b, d] := hll
        refine ⟨q, m.toNat, ?_, by omega, hcc.2.1, hok q (by simp), h.symm⟩
        show [pickN, b, d] = [pickN] ++ [numL q, numL ((m.toNat : Nat) : Int)]
        rw [show ((m.toNat : Nat) : Int) = m by omega, e1]
        rfl
      · cases h
    · cases h
  · cases h
theorem line_client {x : Rd} (hl : x.last < 0) (hi : numOK x.ss.length) : lineP x (joinW (clientW x.ss.length)) = some { x with ss := x.ss ++ [[]] } := by
  unfold lineP
  rw [split_fine (by unfold clientW; simp) (clientW_fine _), clientP_W hl hi]
theorem line_op {x : Rd} {A : List (List Ov)} {m : List Ov} {o : Ov} (hs : x.ss = A ++ [m]) (hl : x.last < 0) (ho : OvOk o) (hp : plainO o = true) : lineP x (opL o) = some { x with ss := A ++ [m ++ [o]] } := by
  have hk := plain_kind hp
  have hw : (splitW (opL o)).getD 0 [] = nameL o.k.toNat := by rw [opW_split hk]; rfl
  have hf := names_free o.k.toNat (by omega) (by omega)
  rw [lineP_by, hw, if_neg hf.1, if_neg hf.2]
  unfold opP
  rw [if_pos ⟨by rw [hs]; simp, hl⟩, parO_some ⟨ho, hp, rfl⟩]
  show some { x with ss := addLast x.ss o } = _
  rw [hs, addLast_snoc]
theorem line_pick {x : Rd} {q : Int} {n : Nat} (hq : numOK q) (hn : numOK n) (h1 : 1 ≤ n) (hl : q ≠ x.last) (hs : n + x.ps.length ≤ 65535) : lineP x (joinW (pickW q n)) = some { x with ps := x.ps ++ List.replicate n q, last := q } := by
  have hw : splitW (joinW (pickW q n)) = pickW q n := split_fine (by unfold pickW; simp) (pickW_fine _ _)
  rw [lineP_by, hw, if_neg (show ¬ (pickW q n).getD 0 [] = clientN from by show ¬ pickN = clientN; decide), if_pos (show (pickW q n).getD 0 [] = pickN from rfl), pickP_W hq hn h1 hl hs]
/-- the rows of operations are read -/
theorem fold_ops (c : Cf) (A : List (List Ov)) (T : List UInt8) : ∀ (l m : List Ov) (n : Nat), 1 ≤ n → (∀ o ∈ l, OvOk o ∧ plainO o = true) → foldP ⟨c, A ++ [m], [], -1⟩ n (segs (opsT l ++ T)) = foldP ⟨c, A ++ [m ++ l], [], -1⟩ (n + l.length) (segs T)
  | [], m, n, _, _ => by rw [List.append_nil]; rfl
  | o :: l, m, n, hn, h => by
    obtain ⟨ho, hp⟩ := h o (List.mem_cons_self ..)
    have e : opsT (o :: l) ++ T = opL o ++ 10 :: (opsT l ++ T) := by
      show (lineL [opL o] ++ opsT l) ++ T = _
      show ((opL o ++ [10]) ++ opsT l) ++ T = _
      simp only [List.append_assoc, List.cons_append, List.nil_append]
    rw [e, fold_line _ _ (opL o) _ (join_no10 (opW_fine (plain_kind hp))), if_neg (by omega), line_op (A := A) (m := m) rfl (by show (-1 : Int) < 0; omega) ho hp]
    show foldP ⟨c, A ++ [m ++ [o]], [], -1⟩ (n + 1) (segs (opsT l ++ T)) = _
    rw [fold_ops c A T l (m ++ [o]) (n + 1) (by omega) fun u hu => h u (List.mem_cons_of_mem _ hu), List.append_assoc, List.length_cons, show n + 1 + l.length = n + (l.length + 1) by omega]
    rfl
theorem fold_progs (c : Cf) (T : List UInt8) : ∀ (ss : List Pg) (A : List (List Ov)) (n : Nat), 1 ≤ n → A.length + ss.length ≤ 1000000 → (∀ s ∈ ss, ∀ o ∈ s.l, OvOk o ∧ plainO o = true) →
    ∃ n', 1 ≤ n' ∧ foldP ⟨c, A, [], -1⟩ n (segs (progT A.length ss ++ T)) = foldP ⟨c, A ++ ss.map (·.l), [], -1⟩ n' (segs T)
  | [], A, n, hn, _, _ => ⟨n, hn, by rw [List.map_nil, List.append_nil]; rfl⟩
  | p :: r, A, n, hn, hl, h => by
    have e : progT A.length (p :: r) ++ T = joinW (clientW A.length) ++ 10 :: (opsT p.l ++ (progT (A ++ [p.l]).length r ++ T)) := by
      show (lineL (clientW A.length) ++ (opsT p.l ++ progT (A.length + 1) r)) ++ T = _
      rw [List.length_append, List.length_singleton]
      show ((joinW (clientW A.length) ++ [10]) ++ (opsT p.l ++ progT (A.length + 1) r)) ++ T = _
      simp only [List.append_assoc, List.cons_append, List.nil_append]
    rw [List.length_cons] at hl
    obtain ⟨n', hn', ih⟩ := fold_progs c T r (A ++ [p.l]) (n + 1 + p.l.length) (by omega) (by rw [List.length_append, List.length_singleton]; omega) fun s hs => h s (List.mem_cons_of_mem _ hs)
    refine ⟨n', hn', ?_⟩
    rw [e, fold_line _ _ _ _ (join_no10 (clientW_fine _)), if_neg (by omega), line_client (x := ⟨c, A, [], -1⟩) (by show (-1 : Int) < 0; omega) ⟨by show (0 : Int) ≤ (A.length : Int); omega, by show (A.length : Int) ≤ _; omega⟩]
    show foldP ⟨c, A ++ [[]], [], -1⟩ (n + 1) (segs (opsT p.l ++ (progT (A ++ [p.l]).length r ++ T))) = _
    rw [fold_ops c A _ p.l [] (n + 1) (by omega) (h p (List.mem_cons_self ..)), List.nil_append, ih, List.append_assoc]
    rfl
theorem fold_picks (c : Cf) (A : List (List Ov)) : ∀ (l : List Int) (q : Int) (m : Nat) (P : List Int) (la : Int) (n : Nat), 1 ≤ n → 1 ≤ m → q ≠ la → numOK q → (∀ v ∈ l, numOK v) → P.length + (m + l.length) ≤ 65535 →
    ∃ la' n', foldP ⟨c, A, P, la⟩ n (segs (picksG q m l)) = (⟨c, A, P ++ (List.replicate m q ++ l), la'⟩, n', true)
  | [], q, m, P, la, n, hn, hm, hq, hqo, hl, hs => by
    refine ⟨q, n + 1, ?_⟩
    have e : picksG q m [] = joinW (pickW q m) ++ 10 :: [] := rfl
    rw [List.length_nil] at hs
    rw [e, fold_line _ _ _ _ (join_no10 (pickW_fine _ _)), if_neg (by omega), line_pick (x := ⟨c, A, P, la⟩) hqo ⟨by omega, by omega⟩ hm hq (by show m + P.length ≤ _; omega)]
    show foldP ⟨c, A, P ++ List.replicate m q, q⟩ (n + 1) (segs []) = _
    rw [fold_end, List.append_nil]
  | x :: r, q, m, P, la, n, hn, hm, hq, hqo, hl, hs => by
    rw [List.length_cons] at hs
    have e : picksG q m (x :: r) = if x = q then picksG q (m + 1) r else joinW (pickW q m) ++ 10 :: picksG x 1 r := by
      show (if x = q then picksG q (m + 1) r else (joinW (pickW q m) ++ [10]) ++ picksG x 1 r) = _
      rw [List.append_assoc]; rfl
    rw [e]
    by_cases hx : x = q
    · subst hx
      rw [if_pos rfl]
      obtain ⟨la', n', ih⟩ := fold_picks c A r x (m + 1) P la n hn (by omega) hq hqo (fun v hv => hl v (List.mem_cons_of_mem _ hv)) (by omega)
      refine ⟨la', n', ?_⟩
      rw [ih, List.replicate_succ', List.append_assoc]
      rfl
    · rw [if_neg hx, fold_line _ _ _ _ (join_no10 (pickW_fine _ _)), if_neg (by omega), line_pick (x := ⟨c, A, P, la⟩) hqo ⟨by omega, by omega⟩ hm hq (by show m + P.length ≤ _; omega)]
      obtain ⟨la', n', ih⟩ := fold_picks c A r x 1 (P ++ List.replicate m q) q (n + 1) (by omega) (by omega) hx (hl x (List.mem_cons_self ..)) (fun v hv => hl v (List.mem_cons_of_mem _ hv)) (by rw [List.length_append, List.length_replicate]; omega)
      refine ⟨la', n', ?_⟩
      show foldP ⟨c, A, P ++ List.replicate m q, q⟩ (n + 1) (segs (picksG x 1 r)) = _
      rw [ih, List.append_assoc]
      rfl
/-- the lines of a script, read -/
theorem fold_fmt {c : Cf} {ss : List Pg} {ps : List Int} (hc : ∀ v ∈ cfgV c, numOK v) (hs : ss.length ≤ 1000000) (ho : ∀ s ∈ ss, ∀ o ∈ s.l, OvOk o ∧ plainO o = true) (hp : ps.length ≤ 65535) (hq : ∀ v ∈ ps, numOK v) :
    ∃ la n, foldP zeroRd 0 (segs (fmtL c ss ps)) = (⟨c, ss.map (·.l), ps, la⟩, n, true) := by
  have e : fmtL c ss ps = joinW (cfgW c) ++ 10 :: (progT 0 ss ++ picksT ps) := by
    show (joinW (cfgW c) ++ [10]) ++ (progT 0 ss ++ picksT ps) = _
    rw [List.append_assoc]; rfl
  rw [e, fold_line _ _ _ _ (join_no10 (cfgW_fine c)), if_pos rfl, split_fine (by unfold cfgW; simp) (cfgW_fine c), cfgP_W hc]
  show ∃ la n, foldP ⟨c, [], [], -1⟩ 1 (segs (progT ([] : List (List Ov)).length ss ++ picksT ps)) = _
  obtain ⟨n', hn', h⟩ := fold_progs c (picksT ps) ss [] 1 (Nat.le_refl _) (by show 0 + ss.length ≤ _; omega) ho
  rw [h, List.nil_append]
  rcases ps with _ | ⟨q, r⟩
  · refine ⟨-1, n', ?_⟩
    show foldP ⟨c, ss.map (·.l), [], -1⟩ n' (segs []) = _
    rw [fold_end]
  · rw [List.length_cons] at hp
    obtain ⟨la', n2, h2⟩ := fold_picks c (ss.map (·.l)) r q 1 [] (-1) n' hn' (Nat.le_refl _) (by have := (hq q (List.mem_cons_self ..)).1; omega) (hq q (List.mem_cons_self ..)) (fun v hv => hq v (List.mem_cons_of_mem _ hv)) (by show 0 + (1 + r.length) ≤ _; omega)
    exact ⟨la', n2, h2⟩
end Go.Proofs.YtdfkbahlngijcaaDoor

