/- Deltas: the text form: plain laws of printing and reading. -/
import Derived.Test.YtdfkbahlngijcaaDoorTd
namespace Go.Proofs.YtdfkbahlngijcaaDoor
set_option linter.unusedVariables false

/-- the words between blanks -/
def splitW : List UInt8 → List (List UInt8)
  | [] => [[]]
  | c :: l => if c = 32 then [] :: splitW l else match splitW l with
    | [] => [[c]]
    | w :: ws => (c :: w) :: ws
def joinW : List (List UInt8) → List UInt8
  | [] => []
  | [w] => w
  | w :: v :: ws => w ++ 32 :: joinW (v :: ws)
theorem splitW_cons (c : UInt8) (l : List UInt8) : splitW (c :: l) = if c = 32 then [] :: splitW l else match splitW l with
    | [] => [[c]]
    | w :: ws => (c :: w) :: ws := rfl
theorem splitW_ne : ∀ l, splitW l ≠ []
  | [] => by simp [splitW]
  | c :: l => by
    rw [splitW_cons]
    by_cases h : c = 32
    · simp [h]
    · rw [if_neg h]
      rcases hh : splitW l with _ | ⟨w, ws⟩ <;> simp
theorem joinW_cons (c : UInt8) (w : List UInt8) (ws : List (List UInt8)) : joinW ((c :: w) :: ws) = c :: joinW (w :: ws) := by
  cases ws <;> rfl
theorem join_split : ∀ l, joinW (splitW l) = l
  | [] => rfl
  | c :: l => by
    have ih := join_split l
    have hne := splitW_ne l
    rw [splitW_cons]
    rcases hh : splitW l with _ | ⟨w, ws⟩
    · exact absurd hh hne
    · rw [hh] at ih
      by_cases h : c = 32
      · subst h
        rw [if_pos rfl]
        show [] ++ 32 :: joinW (w :: ws) = 32 :: l
        rw [ih]; rfl
      · rw [if_neg h]
        show joinW ((c :: w) :: ws) = _
        rw [joinW_cons, ih]
theorem split_word : ∀ (w : List UInt8), (∀ c ∈ w, c ≠ 32) → splitW w = [w]
  | [], _ => rfl
  | c :: w, h => by
    rw [splitW_cons, if_neg (h c (List.mem_cons_self ..)), split_word w fun d hd => h d (List.mem_cons_of_mem _ hd)]
theorem split_app : ∀ (w l : List UInt8), (∀ c ∈ w, c ≠ 32) → splitW (w ++ 32 :: l) = w :: splitW l
  | [], l, _ => by
    show splitW (32 :: l) = _
    rw [splitW_cons, if_pos rfl]
  | c :: w, l, h => by
    show splitW (c :: (w ++ 32 :: l)) = _
    rw [splitW_cons, if_neg (h c (List.mem_cons_self ..)), split_app w l fun d hd => h d (List.mem_cons_of_mem _ hd)]
theorem split_join : ∀ (ws : List (List UInt8)), ws ≠ [] → (∀ w ∈ ws, ∀ c ∈ w, c ≠ 32) → splitW (joinW ws) = ws
  | [], h, _ => absurd rfl h
  | [w], _, h => split_word w (h w (List.mem_cons_self ..))
  | w :: v :: ws, _, h => by
    show splitW (w ++ 32 :: joinW (v :: ws)) = _
    rw [split_app w _ (h w (List.mem_cons_self ..)), split_join (v :: ws) (by simp) fun u hu => h u (List.mem_cons_of_mem _ hu)]
theorem split_no : ∀ (l : List UInt8), ∀ w ∈ splitW l, ∀ c ∈ w, c ≠ 32
  | [], w, hw, c, hc => by
    simp only [splitW, List.mem_singleton] at hw
    subst hw
    exact absurd hc (List.not_mem_nil)
  | a :: l, w, hw, c, hc => by
    have ih := split_no l
    rw [splitW_cons] at hw
    by_cases h : a = 32
    · rw [if_pos h] at hw
      rcases List.mem_cons.1 hw with rfl | hw
      · exact absurd hc (List.not_mem_nil)
      · exact ih w hw c hc
    · rw [if_neg h] at hw
      rcases hh : splitW l with _ | ⟨v, vs⟩
      · exact absurd hh (splitW_ne l)
      · rw [hh] at hw ih
        rcases List.mem_cons.1 hw with rfl | hw
        · rcases List.mem_cons.1 hc with rfl | hc
          · exact h
          · exact ih v (List.mem_cons_self ..) c hc
        · exact ih w (List.mem_cons_of_mem _ hw) c hc

/-- numbers -/
def numG : Nat → List UInt8 → Option Nat
  | n, [] => some n
  | n, c :: l => if c < 48 ∨ 57 < c then none else if 1048576 < 10 * n + (c.toNat - 48) then none else numG (10 * n + (c.toNat - 48)) l
def numP : List UInt8 → Option Nat
  | [] => none
  | c :: l => if c = 48 then none else numG 0 (c :: l)
theorem numG_cons (n : Nat) (c : UInt8) (l : List UInt8) : numG n (c :: l) = if c < 48 ∨ 57 < c then none else if 1048576 < 10 * n + (c.toNat - 48) then none else numG (10 * n + (c.toNat - 48)) l := rfl
theorem numG_nil (n : Nat) : numG n [] = some n := rfl
theorem numP_cons (c : UInt8) (l : List UInt8) : numP (c :: l) = if c = 48 then none else numG 0 (c :: l) := rfl
theorem numG_step (c : UInt8) : ∀ (l : List UInt8) (n : Nat), numG n (l ++ [c]) = (numG n l).bind fun m => numG m [c]
  | [], n => rfl
  | d :: l, n => by
    show numG n (d :: (l ++ [c])) = _
    rw [numG_cons, numG_cons]
    by_cases h1 : d < 48 ∨ 57 < d
    · rw [if_pos h1, if_pos h1]; rfl
    · rw [if_neg h1, if_neg h1]
      by_cases h2 : 1048576 < 10 * n + (d.toNat - 48)
      · rw [if_pos h2, if_pos h2]; rfl
      · rw [if_neg h2, if_neg h2]
        exact numG_step c l _
theorem digC_nat (n : Nat) : (digC n).toNat = 48 + n % 10 := by
  have := digC_val n
  omega
theorem digC_dig (n : Nat) : ¬ (digC n < 48 ∨ 57 < digC n) := by
  have h := digC_nat n
  rw [UInt8.lt_iff_toNat_lt, UInt8.lt_iff_toNat_lt]
  rw [h]
  show ¬ (48 + n % 10 < 48 ∨ 57 < 48 + n % 10)
  omega
theorem decDigits_ne : ∀ n, Lib.decDigits n ≠ [] := fun n => by
  by_cases h : n < 10
  · rw [decDigits_small h]; simp
  · rw [decDigits_step h]; simp
theorem numP_snoc {l : List UInt8} (hl : l ≠ []) (c : UInt8) : numP (l ++ [c]) = (numP l).bind fun m => numG m [c] := by
  rcases l with _ | ⟨d, l⟩
  · exact absurd rfl hl
  · show numP (d :: (l ++ [c])) = _
    rw [numP_cons, numP_cons]
    by_cases h : d = 48
    · rw [if_pos h, if_pos h]; rfl
    · rw [if_neg h, if_neg h]
      exact numG_step c (d :: l) 0
theorem numP_dec : ∀ n : Nat, 1 ≤ n → n ≤ 1048576 → numP (Lib.decDigits n) = some n := by
  intro n
  induction n using Nat.strongRecOn with
  | ind n ih =>
    intro h1 h2
    have hv := digC_nat n
    have hd := digC_dig n
    by_cases h : n < 10
    · rw [decDigits_small h]
      rw [numP_cons, if_neg (fun e : digC n = 48 => by rw [e] at hv; simp at hv; omega), numG_cons, if_neg hd, if_neg (by omega), numG_nil]
      congr 1
      omega
    · rw [decDigits_step h, numP_snoc (decDigits_ne _), ih (n / 10) (by omega) (by omega) (by omega)]
      show numG (n / 10) [digC n] = _
      rw [numG_cons, if_neg hd, if_neg (by omega), numG_nil]
      congr 1
      omega
theorem dig_eq {c : UInt8} (h : ¬ (c < 48 ∨ 57 < c)) : 48 ≤ c.toNat ∧ c.toNat ≤ 57 := by
  rw [UInt8.lt_iff_toNat_lt, UInt8.lt_iff_toNat_lt] at h
  have e1 : (48 : UInt8).toNat = 48 := rfl
  have e2 : (57 : UInt8).toNat = 57 := rfl
  omega
theorem dec_ext {n : Nat} {c : UInt8} (hn : 1 ≤ n) (hc : ¬ (c < 48 ∨ 57 < c)) : Lib.decDigits (10 * n + (c.toNat - 48)) = Lib.decDigits n ++ [c] := by
  obtain ⟨h1, h2⟩ := dig_eq hc
  rw [decDigits_step (by omega), show (10 * n + (c.toNat - 48)) / 10 = n by omega]
  congr 2
  apply UInt8.toNat_inj.1
  rw [digC_nat]
  omega
theorem dec_one {c : UInt8} (hc : ¬ (c < 48 ∨ 57 < c)) : Lib.decDigits (c.toNat - 48) = [c] := by
  obtain ⟨h1, h2⟩ := dig_eq hc
  rw [decDigits_small (by omega)]
  congr 1
  apply UInt8.toNat_inj.1
  rw [digC_nat]
  omega
theorem numG_dec : ∀ (l : List UInt8) (n m : Nat), 1 ≤ n → n ≤ 1048576 → numG n l = some m → 1 ≤ m ∧ m ≤ 1048576 ∧ Lib.decDigits m = Lib.decDigits n ++ l
  | [], n, m, h1, h2, h => by
    obtain rfl : n = m := Option.some.inj h
    exact ⟨h1, h2, (List.append_nil _).symm⟩
  | c :: l, n, m, h1, h2, h => by
    rw [numG_cons] at h
    by_cases g1 : c < 48 ∨ 57 < c
    · rw [if_pos g1] at h; cases h
    · rw [if_neg g1] at h
      by_cases g2 : 1048576 < 10 * n + (c.toNat - 48)
      · rw [if_pos g2] at h; cases h
      · rw [if_neg g2] at h
        obtain ⟨k1, k2, k3⟩ := numG_dec l _ m (by omega) (by omega) h
        refine ⟨k1, k2, ?_⟩
        rw [k3, dec_ext h1 g1, List.append_assoc]
        rfl
theorem numP_some {l : List UInt8} {m : Nat} (h : numP l = some m) : 1 ≤ m ∧ m ≤ 1048576 ∧ Lib.decDigits m = l := by
  rcases l with _ | ⟨c, l⟩
  · cases h
  · rw [numP_cons] at h
    by_cases g0 : c = 48
    · rw [if_pos g0] at h; cases h
    · rw [if_neg g0] at h
      rw [numG_cons] at h
      by_cases g1 : c < 48 ∨ 57 < c
      · rw [if_pos g1] at h; cases h
      · rw [if_neg g1] at h
        obtain ⟨d1, d2⟩ := dig_eq g1
        have d3 : c.toNat ≠ 48 := fun e => g0 (UInt8.toNat_inj.1 e)
        by_cases g2 : 1048576 < 10 * 0 + (c.toNat - 48)
        · omega
        · rw [if_neg g2] at h
          obtain ⟨k1, k2, k3⟩ := numG_dec l _ m (by omega) (by omega) h
          refine ⟨k1, k2, ?_⟩
          rw [k3, show 10 * 0 + (c.toNat - 48) = c.toNat - 48 by omega, dec_one g1]
          rfl

/-- hexadecimal digits -/
def halfP (c : UInt8) : Option Nat := if 48 ≤ c ∧ c ≤ 57 then some (c.toNat - 48) else if 97 ≤ c ∧ c ≤ 102 then some (c.toNat - 87) else none
def hexP : List UInt8 → Option (List UInt8)
  | [] => some []
  | [_] => none
  | a :: b :: l => match halfP a, halfP b with
    | some x, some y => (hexP l).map (UInt8.ofNat (16 * x + y) :: ·)
    | _, _ => none
theorem half_hexD : ∀ n : Nat, n < 16 → halfP (hexD n) = some n := by decide +kernel
theorem half_some : ∀ c : UInt8, ∀ x, halfP c = some x → x < 16 ∧ hexD x = c := by
  intro c x h
  unfold halfP at h
  have e1 : (48 : UInt8).toNat = 48 := rfl
  have e2 : (57 : UInt8).toNat = 57 := rfl
  have e3 : (97 : UInt8).toNat = 97 := rfl
  have e4 : (102 : UInt8).toNat = 102 := rfl
  by_cases h1 : 48 ≤ c ∧ c ≤ 57
  · rw [if_pos h1] at h
    obtain rfl := Option.some.inj h
    rw [UInt8.le_iff_toNat_le, UInt8.le_iff_toNat_le] at h1
    refine ⟨by omega, ?_⟩
    unfold hexD
    rw [if_pos (by omega), show 48 + (c.toNat - 48) = c.toNat by omega]
    exact UInt8.ofNat_toNat
  · rw [if_neg h1] at h
    by_cases h2 : 97 ≤ c ∧ c ≤ 102
    · rw [if_pos h2] at h
      obtain rfl := Option.some.inj h
      rw [UInt8.le_iff_toNat_le, UInt8.le_iff_toNat_le] at h2
      refine ⟨by omega, ?_⟩
      unfold hexD
      rw [if_neg (by omega), show 87 + (c.toNat - 87) = c.toNat by omega]
      exact UInt8.ofNat_toNat
    · rw [if_neg h2] at h; cases h
theorem hexP_hexL : ∀ t : List UInt8, hexP (hexL t) = some t
  | [] => rfl
  | b :: t => by
    have hb := u8lt b
    show hexP (hexD (b.toNat / 16) :: hexD (b.toNat % 16) :: hexL t) = _
    unfold hexP
    rw [half_hexD _ (by omega), half_hexD _ (by omega), hexP_hexL t]
    show some (UInt8.ofNat (16 * (b.toNat / 16) + b.toNat % 16) :: t) = _
    rw [Nat.div_add_mod]
    rw [UInt8.ofNat_toNat]
theorem hexP_some : ∀ (l t : List UInt8), hexP l = some t → hexL t = l
  | [], t, h => by
    obtain rfl := Option.some.inj h
    rfl
  | [_], t, h => by cases h
  | a :: b :: l, t, h => by
    unfold hexP at h
    rcases ha : halfP a with _ | x
    · rw [ha] at h; cases h
    rcases hb : halfP b with _ | y
    · rw [ha, hb] at h; cases h
    rw [ha, hb] at h
    rcases hl : hexP l with _ | u
    · rw [hl] at h; cases h
    rw [hl] at h
    obtain rfl := Option.some.inj h
    obtain ⟨x1, x2⟩ := half_some a x ha
    obtain ⟨y1, y2⟩ := half_some b y hb
    show hexB (UInt8.ofNat (16 * x + y)) ++ hexL u = _
    rw [hexP_some l u hl]
    unfold hexB
    have e : (UInt8.ofNat (16 * x + y)).toNat = 16 * x + y := by
      rw [UInt8.toNat_ofNat']
      omega
    rw [e, show (16 * x + y) / 16 = x by omega, show (16 * x + y) % 16 = y by omega, x2, y2]
    rfl

/-- a piece's word -/
def pcT (p : Pc) : List UInt8 := if p.k = 2 then 43 :: hexL p.t.data.toList else if p.k = 3 then 45 :: Lib.decDigits p.n.toNat else 61 :: Lib.decDigits p.n.toNat
def oneP : List UInt8 → Option Pc
  | [] => none
  | c :: w => if c = 43 then (if w = [] then none else (hexP w).map fun t => ⟨2, 0, ⟨t.toArray⟩⟩)
    else if c = 61 then (numP w).map fun (n : Nat) => (⟨1, (n : Int), ⟨#[]⟩⟩ : Pc)
    else if c = 45 then (numP w).map fun (n : Nat) => (⟨3, (n : Int), ⟨#[]⟩⟩ : Pc)
    else none
theorem oneP_cons (c : UInt8) (w : List UInt8) : oneP (c :: w) = if c = 43 then (if w = [] then none else (hexP w).map fun t => ⟨2, 0, ⟨t.toArray⟩⟩)
    else if c = 61 then (numP w).map fun (n : Nat) => (⟨1, (n : Int), ⟨#[]⟩⟩ : Pc)
    else if c = 45 then (numP w).map fun (n : Nat) => (⟨3, (n : Int), ⟨#[]⟩⟩ : Pc)
    else none := by rw [oneP]
def textL (l : List Pc) : List UInt8 := joinW (l.map pcT)
def allP : List (List UInt8) → Option (List Pc)
  | [] => some []
  | w :: ws => match oneP w, allP ws with
    | some p, some l => some (p :: l)
    | _, _ => none
def parseL (s : List UInt8) : Option (List Pc) := if s = [] then some [] else allP (splitW s)
theorem pc_ext {p q : Pc} (h1 : p.k = q.k) (h2 : p.n = q.n) (h3 : p.t = q.t) : p = q := by
  obtain ⟨a, b, c⟩ := p
  obtain ⟨d, e, f⟩ := q
  simp only at h1 h2 h3
  rw [h1, h2, h3]
theorem one_pcT {p : Pc} (h : okP p = true) (hn : p.n ≤ 1048576) : oneP (pcT p) = some p := by
  obtain ⟨k, n, t⟩ := p
  rcases okP_cases h with ⟨rfl, h2, h3⟩ | ⟨rfl, h2, h3⟩ | ⟨rfl, h2, h3⟩
  · simp only at h2 h3 hn
    unfold pcT oneP
    simp only [show ¬ ((1 : Int) = 2) by decide, show ¬ ((1 : Int) = 3) by decide, if_false, show ¬ ((61 : UInt8) = 43) by decide, if_true]
    rw [numP_dec n.toNat (by omega) (by omega)]
    show some _ = _
    congr 1
    exact pc_ext rfl (by show (n.toNat : Int) = n; omega) (str_empty h3).symm
  · simp only at h2 h3 hn
    unfold pcT oneP
    simp only [show ¬ ((3 : Int) = 2) by decide, if_false, show ¬ ((45 : UInt8) = 43) by decide, show ¬ ((45 : UInt8) = 61) by decide, if_true]
    rw [numP_dec n.toNat (by omega) (by omega)]
    show some _ = _
    congr 1
    exact pc_ext rfl (by show (n.toNat : Int) = n; omega) (str_empty h3).symm
  · simp only at h2 h3 hn
    unfold pcT oneP
    simp only [if_true]
    rw [hexP_hexL, if_neg (fun e => h3 (by
      have := congrArg List.length e
      rw [hexL_len, Array.length_toList] at this
      have h0 : ([] : List UInt8).length = 0 := rfl
      rw [h0] at this
      show t.data.size = 0
      omega))]
    show some _ = _
    congr 1
    exact pc_ext rfl h2.symm (by show (⟨t.data.toList.toArray⟩ : ByteArray) = t; rw [Array.toArray_toList])
theorem one_some {w : List UInt8} {p : Pc} (h : oneP w = some p) : okP p = true ∧ p.n ≤ 1048576 ∧ pcT p = w := by
  rcases w with _ | ⟨c, w⟩
  · cases h
  rw [oneP_cons] at h
  by_cases h1 : c = 43
  · subst h1
    rw [if_pos rfl] at h
    by_cases hw : w = []
    · rw [if_pos hw] at h; cases h
    rw [if_neg hw] at h
    rcases hx : hexP w with _ | t
    · rw [hx] at h; cases h
    rw [hx] at h
    obtain rfl := Option.some.inj h
    have := hexP_some w t hx
    have ht : t.toArray.size ≠ 0 := fun e => hw (by
      have e' : t = [] := List.eq_nil_of_length_eq_zero (by rw [← List.size_toArray]; exact e)
      rw [← this, e']; rfl)
    refine ⟨?_, by show (0 : Int) ≤ _; decide, ?_⟩
    · unfold okP
      have ht' : (⟨t.toArray⟩ : ByteArray).size ≠ 0 := ht
      simp [ht']
    · show 43 :: hexL t.toArray.toList = 43 :: w
      rw [this]
  rw [if_neg h1] at h
  by_cases h2 : c = 61
  · subst h2
    rw [if_pos rfl] at h
    rcases hx : numP w with _ | n
    · rw [hx] at h; cases h
    rw [hx] at h
    obtain rfl := Option.some.inj h
    obtain ⟨k1, k2, k3⟩ := numP_some hx
    refine ⟨?_, by show (n : Int) ≤ _; omega, ?_⟩
    · unfold okP
      have : (1 : Int) ≤ n := by omega
      have h0 : (⟨#[]⟩ : ByteArray).size = 0 := rfl
      simp [this, h0]
    · show 61 :: Lib.decDigits (n : Int).toNat = 61 :: w
      rw [← k3]; rfl
  rw [if_neg h2] at h
  by_cases h3 : c = 45
  · subst h3
    rw [if_pos rfl] at h
    rcases hx : numP w with _ | n
    · rw [hx] at h; cases h
    rw [hx] at h
    obtain rfl := Option.some.inj h
    obtain ⟨k1, k2, k3⟩ := numP_some hx
    refine ⟨?_, by show (n : Int) ≤ _; omega, ?_⟩
    · unfold okP
      have : (1 : Int) ≤ n := by omega
      have h0 : (⟨#[]⟩ : ByteArray).size = 0 := rfl
      simp [this, h0]
    · show 45 :: Lib.decDigits (n : Int).toNat = 45 :: w
      rw [← k3]; rfl
  · rw [if_neg h3] at h; cases h
theorem dec_no32 (n : Nat) : ∀ c ∈ Lib.decDigits n, c ≠ 32 := by
  induction n using Nat.strongRecOn with
  | ind n ih =>
    intro c hc
    have hd := digC_nat n
    by_cases h : n < 10
    · rw [decDigits_small h, List.mem_singleton] at hc
      subst hc
      intro e; rw [e] at hd; simp at hd; omega
    · rw [decDigits_step h, List.mem_append, List.mem_singleton] at hc
      rcases hc with hc | rfl
      · exact ih (n / 10) (by omega) c hc
      · intro e; rw [e] at hd; simp at hd; omega
theorem hexD_no32 : ∀ n : Nat, n < 16 → hexD n ≠ 32 := by decide +kernel
theorem hexL_no32 (l : List UInt8) : ∀ c ∈ hexL l, c ≠ 32 := by
  intro c hc
  obtain ⟨b, _, hb⟩ := List.mem_flatMap.1 hc
  have := u8lt b
  simp only [hexB, List.mem_cons, List.not_mem_nil, or_false] at hb
  rcases hb with rfl | rfl
  · exact hexD_no32 _ (by omega)
  · exact hexD_no32 _ (by omega)
theorem pcT_no32 (p : Pc) : ∀ c ∈ pcT p, c ≠ 32 := by
  intro c hc
  unfold pcT at hc
  by_cases h1 : p.k = 2
  · rw [if_pos h1] at hc
    rcases List.mem_cons.1 hc with rfl | hc
    · decide
    · exact hexL_no32 _ c hc
  rw [if_neg h1] at hc
  by_cases h2 : p.k = 3
  · rw [if_pos h2] at hc
    rcases List.mem_cons.1 hc with rfl | hc
    · decide
    · exact dec_no32 _ c hc
  rw [if_neg h2] at hc
  rcases List.mem_cons.1 hc with rfl | hc
  · decide
  · exact dec_no32 _ c hc
theorem allP_map : ∀ (l : List Pc), (∀ p ∈ l, okP p = true ∧ p.n ≤ 1048576) → allP (l.map pcT) = some l
  | [], _ => rfl
  | p :: l, h => by
    show (match oneP (pcT p), allP (l.map pcT) with | some p, some l => some (p :: l) | _, _ => none) = _
    rw [one_pcT (h p (List.mem_cons_self ..)).1 (h p (List.mem_cons_self ..)).2, allP_map l fun q hq => h q (List.mem_cons_of_mem _ hq)]
theorem allP_some : ∀ (ws : List (List UInt8)) (l : List Pc), allP ws = some l → l.map pcT = ws ∧ ∀ p ∈ l, okP p = true ∧ p.n ≤ 1048576
  | [], l, h => by
    obtain rfl := Option.some.inj h
    exact ⟨rfl, fun p hp => absurd hp (List.not_mem_nil)⟩
  | w :: ws, l, h => by
    unfold allP at h
    rcases h1 : oneP w with _ | p
    · rw [h1] at h; cases h
    rcases h2 : allP ws with _ | l'
    · rw [h1, h2] at h; cases h
    rw [h1, h2] at h
    obtain rfl := Option.some.inj h
    obtain ⟨k1, k2⟩ := allP_some ws l' h2
    obtain ⟨g1, g2, g3⟩ := one_some h1
    refine ⟨by rw [List.map_cons, g3, k1], fun q hq => ?_⟩
    rcases List.mem_cons.1 hq with rfl | hq
    · exact ⟨g1, g2⟩
    · exact k2 q hq
theorem pcT_ne (p : Pc) : pcT p ≠ [] := by
  unfold pcT
  by_cases h1 : p.k = 2
  · rw [if_pos h1]; simp
  rw [if_neg h1]
  by_cases h2 : p.k = 3
  · rw [if_pos h2]; simp
  · rw [if_neg h2]; simp
theorem textL_ne {l : List Pc} (h : l ≠ []) : textL l ≠ [] := by
  unfold textL
  rcases l with _ | ⟨p, _ | ⟨q, l⟩⟩
  · exact absurd rfl h
  · exact pcT_ne p
  · show pcT p ++ 32 :: _ ≠ []
    simp
/-- reading what was printed -/
theorem parse_text {l : List Pc} (h : ∀ p ∈ l, okP p = true ∧ p.n ≤ 1048576) : parseL (textL l) = some l := by
  unfold parseL
  by_cases hl : l = []
  · subst hl; rfl
  rw [if_neg (textL_ne hl)]
  unfold textL
  rw [split_join (l.map pcT) (by simpa using hl) (by
    intro w hw
    obtain ⟨p, _, rfl⟩ := List.mem_map.1 hw
    exact pcT_no32 p)]
  exact allP_map l h
/-- printing what was read -/
theorem text_parse {s : List UInt8} {l : List Pc} (h : parseL s = some l) : textL l = s ∧ ∀ p ∈ l, okP p = true ∧ p.n ≤ 1048576 := by
  unfold parseL at h
  by_cases hs : s = []
  · rw [if_pos hs] at h
    obtain rfl := Option.some.inj h
    exact ⟨hs.symm, fun p hp => absurd hp (List.not_mem_nil)⟩
  · rw [if_neg hs] at h
    obtain ⟨h1, h2⟩ := allP_some _ _ h
    exact ⟨by unfold textL; rw [h1, join_split], h2⟩
end Go.Proofs.YtdfkbahlngijcaaDoor
