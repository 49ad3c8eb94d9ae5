/- Text: what Parse gives: plain. (printed by slim.py.) -/
import Derived.Test.YtdfkbahlngijcaaDoorQKi
import Derived.Test.YtdfkbahlngijcaaDoorQUi
import Derived.Test.YtdfkbahlngijcaaDoorQWb
namespace Go.Proofs.YtdfkbahlngijcaaDoor
open Go.RowKit
set_option linter.unusedVariables false

/-- what was read so far -/
structure Rd where
  c : Cf
  ss : List (List Ov)
  ps : List Int
  last : Int
def zeroC : Cf := ⟨0, 0, 0, 0, 0, 0, 0, ⟨#[]⟩⟩
def zeroRd : Rd := ⟨zeroC, [], [], -1⟩
def numsW : List (List UInt8) → Option (List Int)
  | [] => some []
  | w :: r => match numW w with
    | some n => match numsW r with
      | some l => some ((n : Int) :: l)
      | none => none
    | none => none
theorem numsW_len : ∀ {ws : List (List UInt8)} {l : List Int}, numsW ws = some l → l.length = ws.length
  | [], l, h => by cases h; rfl
  | w :: r, l, h => by
    unfold numsW at h
    rcases hn : numW w with _ | n
    · rw [hn] at h; cases h
    · rw [hn] at h
      rcases hr : numsW r with _ | k
      · rw [hr] at h; cases h
      · rw [hr] at h
        cases h
        simp [numsW_len hr]
theorem numsW_ok : ∀ {ws : List (List UInt8)} {l : List Int}, numsW ws = some l → ∀ v ∈ l, numOK v
  | [], l, h, v, hv => by cases h; cases hv
  | w :: r, l, h, v, hv => by
    unfold numsW at h
    rcases hn : numW w with _ | n
    · rw [hn] at h; cases h
    · rw [hn] at h
      rcases hr : numsW r with _ | k
      · rw [hr] at h; cases h
      · rw [hr] at h
        cases h
        rcases List.mem_cons.1 hv with rfl | hv
        · exact ⟨by omega, by have := (numW_some hn).2; omega⟩
        · exact numsW_ok hr v hv
theorem numsW_words : ∀ {ws : List (List UInt8)} {l : List Int}, numsW ws = some l → l.map numL = ws
  | [], l, h => by cases h; rfl
  | w :: r, l, h => by
    unfold numsW at h
    rcases hn : numW w with _ | n
    · rw [hn] at h; cases h
    · rw [hn] at h
      rcases hr : numsW r with _ | k
      · rw [hr] at h; cases h
      · rw [hr] at h
        cases h
        rw [List.map_cons, numsW_words hr, numL_numW hn]
/-- the numbers among the first words, one word further -/
theorem numsW_take {ws : List (List UInt8)} {j : Nat} {l : List Int} (hj : j < ws.length) (h : numsW (ws.take j) = some l) : numsW (ws.take (j + 1)) = match numW ws[j] with
    | some n => some (l ++ [(n : Int)])
    | none => none := by
  induction ws generalizing j l with
  | nil => simp at hj
  | cons w r ih =>
    cases j with
    | zero =>
      rw [List.take_zero] at h
      cases h
      rw [List.getElem_cons_zero]
      show numsW [w] = _
      unfold numsW
      rcases numW w with _ | n <;> rfl
    | succ j =>
      rw [List.take_succ_cons] at h
      rw [List.take_succ_cons]
      unfold numsW at h ⊢
      rcases hn : numW w with _ | n
      · rw [hn] at h; cases h
      · rw [hn] at h
        rcases hr : numsW (r.take j) with _ | k
        · rw [hr] at h; cases h
        · rw [hr] at h
          cases h
          have := ih (by simpa using hj) hr
          simp only [this, List.getElem_cons_succ]
          rcases numW (r[j]'(by simpa using hj)) with _ | m <;> rfl
theorem numsW_stop {ws : List (List UInt8)} {j : Nat} {l : List Int} (hj : j < ws.length) (h : numsW (ws.take j) = some l) (hn : numW ws[j] = none) : numsW ws = none := by
  induction ws generalizing j l with
  | nil => simp at hj
  | cons w r ih =>
    cases j with
    | zero =>
      have hn' : numW w = none := hn
      unfold numsW
      rw [hn']
    | succ j =>
      rw [List.take_succ_cons] at h
      unfold numsW at h ⊢
      rcases hw : numW w with _ | n
      · rfl
      · rw [hw] at h
        rcases hr : numsW (r.take j) with _ | k
        · rw [hr] at h; cases h
        · have := ih (by simpa using hj) hr (by simpa using hn)
          simp only [this]
def cfgN : List UInt8 := [99, 111, 110, 102, 105, 103]
def clientN : List UInt8 := [99, 108, 105, 101, 110, 116]
def pickN : List UInt8 := [112, 105, 99, 107]
/-- the configuration that words say -/
def cfgP (ws : List (List UInt8)) : Option Cf :=
  if ws.length = 9 ∧ ws.getD 0 [] = cfgN then
    match numsW ((ws.drop 1).take 7) with
    | some l => match unqL (ws.getD 8 []) with
      | some t => some ⟨l.getD 0 0, l.getD 1 0, l.getD 2 0, l.getD 3 0, l.getD 4 0, l.getD 5 0, l.getD 6 0, ⟨t.toArray⟩⟩
      | none => none
    | none => none
  else none
def clientP (x : Rd) (ws : List (List UInt8)) : Option Rd :=
  if ws.length = 2 ∧ ws.getD 0 [] = clientN ∧ x.last < 0 then
    match numW (ws.getD 1 []) with
    | some n => if n = x.ss.length then some { x with ss := x.ss ++ [[]] } else none
    | none => none
  else none
def addLast : List (List Ov) → Ov → List (List Ov)
  | [], _ => []
  | [l], o => [l ++ [o]]
  | l :: m :: r, o => l :: addLast (m :: r) o
noncomputable def opP (x : Rd) (row : List UInt8) : Option Rd :=
  if x.ss ≠ [] ∧ x.last < 0 then
    match parO row with
    | some o => some { x with ss := addLast x.ss o }
    | none => none
  else none
def pickP (x : Rd) (ws : List (List UInt8)) : Option Rd :=
  if ws.length = 3 ∧ ws.getD 0 [] = pickN then
    match numsW (ws.drop 1) with
    | some l => if 1 ≤ l.getD 1 0 ∧ l.getD 0 0 ≠ x.last ∧ l.getD 1 0 ≤ 65535 - (x.ps.length : Int) then some { x with ps := x.ps ++ List.replicate (l.getD 1 0).toNat (l.getD 0 0), last := l.getD 0 0 } else none
    | none => none
  else none
/-- a line that is not the first one -/
noncomputable def lineP (x : Rd) (row : List UInt8) : Option Rd :=
  match clientP x (splitW row) with
  | some y => some y
  | none => match opP x row with
    | some y => some y
    | none => pickP x (splitW row)
theorem parO_no {row w : List UInt8} (h : (splitW row).getD 0 [] = w) (hn : ∀ k, 1 ≤ k → k ≤ 16 → nameL k ≠ w) : parO row = none := by
  rcases hs : splitW row with _ | ⟨a, r⟩
  · exact absurd hs (splitW_ne row)
  · rw [hs] at h
    obtain rfl : a = w := h
    exact parO_none (no_name hs hn)
theorem names_free : ∀ k : Nat, k < 17 → 1 ≤ k → nameL k ≠ clientN ∧ nameL k ≠ pickN := by decide +kernel
theorem opP_no {x : Rd} {row : List UInt8} (h : parO row = none) : opP x row = none := by
  unfold opP
  rw [h]
  split <;> rfl
/-- the same by the first word -/
theorem lineP_by (x : Rd) (row : List UInt8) : lineP x row = if (splitW row).getD 0 [] = clientN then clientP x (splitW row) else if (splitW row).getD 0 [] = pickN then pickP x (splitW row) else opP x row := by
  unfold lineP
  by_cases h1 : (splitW row).getD 0 [] = clientN
  · rw [if_pos h1]
    have e1 : opP x row = none := opP_no (parO_no h1 fun k a b => (names_free k (by omega) a).1)
    have e2 : pickP x (splitW row) = none := by unfold pickP; rw [if_neg (by rw [h1]; exact fun k => absurd k.2 (by decide))]
    rw [e1, e2]
    rcases clientP x (splitW row) with _ | y <;> rfl
  · rw [if_neg h1]
    have e0 : clientP x (splitW row) = none := by unfold clientP; rw [if_neg (fun k => h1 k.2.1)]
    rw [e0]
    by_cases h2 : (splitW row).getD 0 [] = pickN
    · rw [if_pos h2]
      have e1 : opP x row = none := opP_no (parO_no h2 fun k a b => (names_free k (by omega) a).2)
      rw [e1]
    · rw [if_neg h2]
      have e2 : pickP x (splitW row) = none := by unfold pickP; rw [if_neg (fun k => h2 k.2)]
      rw [e2]
      rcases opP x row with _ | y <;> rfl
/-- a piece of the text that is not empty, behind n lines -/
noncomputable def stepP (x : Rd) (n : Nat) (p : List UInt8) : Option Rd :=
  if p.getLast? = some 10 then (if n = 0 then (cfgP (splitW p.dropLast)).map (fun c => { x with c := c }) else lineP x p.dropLast) else none
/-- all pieces: what was read, the number of lines, or of the first wrong line -/
noncomputable def foldP : Rd → Nat → List (List UInt8) → Rd × Nat × Bool
  | x, n, [] => (x, n, true)
  | x, n, p :: r => if p = [] then foldP x n r else match stepP x n p with
    | some y => foldP y (n + 1) r
    | none => (x, n + 1, false)
def pgOf (l : List Ov) : Pg := ⟨none, l.length, 0, l⟩
/-- what Parse gives: the script, the line, the error -/
noncomputable def prsR (s : List UInt8) : Rd × Nat × Int :=
  if 65536 < s.length then (zeroRd, 0, 5) else if s = [] then (zeroRd, 1, 4) else
    match foldP zeroRd 0 (segs s) with
    | (x, n, true) => if scE x.c (x.ss.map pgOf) x.ps = 0 then (x, 0, 0) else (zeroRd, 0, scE x.c (x.ss.map pgOf) x.ps)
    | (_, n, false) => (zeroRd, n, 4)
theorem progE_lists : ∀ (ss : List Pg), (∀ s ∈ ss, s.l.length = s.n) → progE ss = progE ((ss.map (·.l)).map pgOf)
  | [], _ => rfl
  | p :: r, h => by
    have ih := progE_lists r fun s hs => h s (List.mem_cons_of_mem _ hs)
    have h1 := h p (List.mem_cons_self ..)
    show (if 256 < p.n then 5 else if p.l.all plainO = true then progE r else 2) = (if 256 < p.l.length then 5 else if p.l.all plainO = true then progE ((r.map (·.l)).map pgOf) else 2)
    rw [ih, h1]
/-- the check of a script looks at the lists alone -/
theorem scE_lists {c : Cf} {ss : List Pg} {ps : List Int} (h : ∀ s ∈ ss, s.l.length = s.n) : scE c ss ps = scE c ((ss.map (·.l)).map pgOf) ps := by
  unfold scE lenSc
  rw [progE_lists ss h]
  have e : (((ss.map (·.l)).map pgOf).map szP) = ss.map szP := by
    rw [List.map_map, List.map_map]
    rfl
  rw [e]
  simp only [List.length_map]
end Go.Proofs.YtdfkbahlngijcaaDoor

