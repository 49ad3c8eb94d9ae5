/- Text: the operation of a line, computed; the reader's state of a text, computed: plain. -/
import Derived.Test.YtdfkbahlngijcaaDoorWc
namespace Go.Proofs.YtdfkbahlngijcaaDoor
open Go.RowKit
set_option linter.unusedVariables false

def fillAll : List UInt8 → List (List UInt8) → Ov → Option Ov
  | [], [], x => some x
  | c :: cs, w :: ws, x => if fillB c w = true then fillAll cs ws (fillO x c w) else none
  | _, _, _ => none
def kindIn (w : List UInt8) : List Nat → Option Nat
  | [] => none
  | k :: r => if nameL k = w then some k else kindIn w r
def kindsL : List Nat := [1, 2, 3, 4, 5, 6, 7, 8, 9, 10, 11, 12, 13, 14, 15, 16]
/-- the operation of a line, computed -/
def parC (s : List UInt8) : Option Ov := match splitW s with
  | [] => none
  | w :: ws => match kindIn w kindsL with
    | none => none
    | some k => match fillAll (letL k) ws (kindO k) with
      | none => none
      | some x => if plainO x = true then some x else none
theorem kindIn_some {w : List UInt8} : ∀ {l : List Nat} {k : Nat}, kindIn w l = some k → k ∈ l ∧ nameL k = w
  | [], k, h => by cases h
  | a :: r, k, h => by
    unfold kindIn at h
    split at h
    · rename_i e
      injection h with h
      subst h
      exact ⟨List.mem_cons_self .., e⟩
    · obtain ⟨h1, h2⟩ := kindIn_some h
      exact ⟨List.mem_cons_of_mem _ h1, h2⟩
theorem kindIn_none {w : List UInt8} : ∀ {l : List Nat}, kindIn w l = none → ∀ k ∈ l, nameL k ≠ w
  | [], _, k, hk => by cases hk
  | a :: r, h, k, hk => by
    unfold kindIn at h
    split at h
    · cases h
    · rename_i e
      rcases List.mem_cons.1 hk with rfl | hk
      · exact e
      · exact kindIn_none h k hk
theorem fillAll_inv {k : Nat} (hk : k < 17) (ws : List (List UInt8)) : ∀ (d i : Nat) (x : Ov), d = (letL k).length - i → i ≤ (letL k).length → i ≤ ws.length → FillInv k ws i x →
    match fillAll ((letL k).drop i) (ws.drop i) x with
    | some y => ws.length = (letL k).length ∧ FillInv k ws (letL k).length y
    | none => ws.length ≠ (letL k).length ∨ ∃ j, ∃ (h1 : j < (letL k).length) (h2 : j < ws.length), fillB (letL k)[j] ws[j] = false
  | 0, i, x, hd, h1, h2, hI => by
    have e : i = (letL k).length := by omega
    subst e
    rw [List.drop_length]
    rcases hw : ws.drop (letL k).length with _ | ⟨a, r⟩
    · have h3 := congrArg List.length hw
      rw [List.length_drop, List.length_nil] at h3
      exact ⟨by omega, hI⟩
    · have h3 := congrArg List.length hw
      rw [List.length_drop, List.length_cons] at h3
      exact .inl (by omega)
  | d + 1, i, x, hd, h1, h2, hI => by
    have hi : i < (letL k).length := by omega
    rw [List.drop_eq_getElem_cons hi]
    rcases Nat.lt_or_ge i ws.length with h3 | h3
    · rw [List.drop_eq_getElem_cons h3]
      show match (if fillB (letL k)[i] ws[i] = true then fillAll ((letL k).drop (i + 1)) (ws.drop (i + 1)) (fillO x (letL k)[i] ws[i]) else none) with
        | some y => ws.length = (letL k).length ∧ FillInv k ws (letL k).length y
        | none => ws.length ≠ (letL k).length ∨ ∃ j, ∃ (h1 : j < (letL k).length) (h2 : j < ws.length), fillB (letL k)[j] ws[j] = false
      by_cases hf : fillB (letL k)[i] ws[i] = true
      · rw [if_pos hf]
        exact fillAll_inv hk ws d (i + 1) _ (by omega) (by omega) (by omega) (hI.step hk hi h3 hf)
      · rw [if_neg hf]
        exact .inr ⟨i, hi, h3, by simpa using hf⟩
    · rw [List.drop_of_length_le h3]
      exact .inl (by omega)
theorem parO_C (s : List UInt8) : parO s = parC s := by
  unfold parC
  rcases hs : splitW s with _ | ⟨w, ws⟩
  · exact absurd hs (splitW_ne s)
  · show parO s = match kindIn w kindsL with
      | none => none
      | some k => match fillAll (letL k) ws (kindO k) with
        | none => none
        | some x => if plainO x = true then some x else none
    rcases hk : kindIn w kindsL with _ | k
    · refine parO_none (no_name hs fun k h1 h2 => kindIn_none hk k ?_)
      unfold kindsL
      rcases kind_cases h1 h2 with rfl | rfl | rfl | rfl | rfl | rfl | rfl | rfl | rfl | rfl | rfl | rfl | rfl | rfl | rfl | rfl <;> simp
    · obtain ⟨hm, rfl⟩ := kindIn_some hk
      have hr : 1 ≤ k ∧ k ≤ 16 := by
        unfold kindsL at hm
        simp only [List.mem_cons, List.not_mem_nil, or_false] at hm
        omega
      have h := fillAll_inv (by omega) ws _ 0 (kindO k) rfl (Nat.zero_le _) (Nat.zero_le _) (FillInv.start (k := k) (by omega) ws)
      rw [List.drop_zero, List.drop_zero] at h
      show parO s = match fillAll (letL k) ws (kindO k) with
        | none => none
        | some x => if plainO x = true then some x else none
      rcases hf : fillAll (letL k) ws (kindO k) with _ | y
      · rw [hf] at h
        rcases h with h | ⟨j, h1, h2, h⟩
        · exact parO_none (no_count hr.1 hr.2 hs h)
        · exact parO_none (no_fill hr.1 hr.2 hs h1 h2 h)
      · rw [hf] at h
        obtain ⟨hl, hI⟩ := h
        show parO s = if plainO y = true then some y else none
        by_cases hp : plainO y = true
        · rw [if_pos hp]
          exact parO_some (hI.line hl hs hp)
        · rw [if_neg hp]
          exact parO_none (hI.noLine (by omega) hr.1 hl hs hp)
/-- a piece, computed -/
def opC (x : Rd) (row : List UInt8) : Option Rd :=
  if x.ss ≠ [] ∧ x.last < 0 then
    match parC row with
    | some o => some { x with ss := addLast x.ss o }
    | none => none
  else none
def lineC (x : Rd) (row : List UInt8) : Option Rd :=
  match clientP x (splitW row) with
  | some y => some y
  | none => match opC x row with
    | some y => some y
    | none => pickP x (splitW row)
def stepC (x : Rd) (n : Nat) (p : List UInt8) : Option Rd :=
  if p.getLast? = some 10 then (if n = 0 then (cfgP (splitW p.dropLast)).map (fun c => { x with c := c }) else lineC x p.dropLast) else none
def foldC : Rd → Nat → List (List UInt8) → Rd × Nat × Bool
  | x, n, [] => (x, n, true)
  | x, n, p :: r => if p = [] then foldC x n r else match stepC x n p with
    | some y => foldC y (n + 1) r
    | none => (x, n + 1, false)
theorem opP_C (x : Rd) (row : List UInt8) : opP x row = opC x row := by unfold opP opC; rw [parO_C]; rfl
theorem lineP_C (x : Rd) (row : List UInt8) : lineP x row = lineC x row := by unfold lineP lineC; rw [opP_C]; rfl
theorem stepP_C (x : Rd) (n : Nat) (p : List UInt8) : stepP x n p = stepC x n p := by unfold stepP stepC; rw [lineP_C]
theorem foldP_C : ∀ (L : List (List UInt8)) (x : Rd) (n : Nat), foldP x n L = foldC x n L
  | [], x, n => rfl
  | p :: r, x, n => by
    show (if p = [] then foldP x n r else match stepP x n p with | some y => foldP y (n + 1) r | none => (x, n + 1, false)) = (if p = [] then foldC x n r else match stepC x n p with | some y => foldC y (n + 1) r | none => (x, n + 1, false))
    rw [stepP_C, foldP_C r x n]
    rcases stepC x n p with _ | y
    · rfl
    · show (if p = [] then _ else foldP y (n + 1) r) = (if p = [] then _ else foldC y (n + 1) r)
      rw [foldP_C r y (n + 1)]
theorem wrong_0 : parC [108, 101, 110, 32, 51, 48, 48] = none := by kernel_rfl
theorem wrong_1 : parC [108, 101, 110, 32, 48, 51] = none := by kernel_rfl
theorem wrong_2 : parC [105, 110, 115, 101, 114, 116, 32, 48, 32, 43, 54] = none := by kernel_rfl
theorem wrong_3 : parC [105, 110, 115, 101, 114, 116, 32, 48] = none := by kernel_rfl
theorem wrong_4 : parC [105, 110, 115, 101, 114, 116, 32, 48, 32, 43, 32] = none := by kernel_rfl
theorem wrong_5 : parC [32, 108, 101, 110, 32, 48] = none := by kernel_rfl
theorem wrong_6 : parC [108, 101, 110, 32, 32, 48] = none := by kernel_rfl
theorem wrong_7 : parC [108, 101, 110] = none := by kernel_rfl
theorem wrong_8 : parC [99, 108, 111, 115, 101, 32, 48] = none := by kernel_rfl
theorem wrong_9 : parC [] = none := by kernel_rfl
theorem wrong_10 : parC [67, 108, 111, 115, 101] = none := by kernel_rfl
theorem wrong_11 : parC [105, 110, 115, 101, 114, 116, 32, 48, 32, 43, 54, 65] = none := by kernel_rfl
theorem wrong_12 : parC [112, 105, 99, 107, 32, 48, 32, 49] = none := by kernel_rfl
theorem wrong_13 : parC [115, 101, 116, 32, 49, 32, 50, 32, 50, 53, 54] = none := by kernel_rfl
theorem good_0 : parC [105, 110, 115, 101, 114, 116, 32, 48, 32, 43] = some ⟨1, 0, 0, 0, 0, 0, ⟨#[]⟩⟩ := by kernel_rfl
theorem good_1 : parC [115, 101, 116, 32, 52, 50, 57, 52, 57, 54, 55, 50, 57, 53, 32, 54, 53, 53, 51, 53, 32, 50, 53, 53] = some ⟨3, 0, 65535, 0, 4294967295, 255, ⟨#[]⟩⟩ := by kernel_rfl
def exA : List UInt8 := [99, 111, 110, 102, 105, 103, 32, 49, 54, 32, 49, 32, 49, 32, 48, 32, 49, 32, 49, 32, 49, 32, 43, 54, 49, 10, 99, 108, 105, 101, 110, 116, 32, 48, 10, 99, 108, 111, 115, 101, 10, 112, 105, 99, 107, 32, 48, 32, 50, 10, 112, 105, 99, 107, 32, 49, 32, 49, 10]
theorem ex_6 : (foldC zeroRd 0 (segs (exA ++ [112, 105, 99, 107, 32, 49, 32, 49, 10]))).2 = (6, false) := by kernel_rfl
theorem ex_7 : (foldC zeroRd 0 (segs (exA ++ [99, 108, 111, 115, 101, 10]))).2 = (6, false) := by kernel_rfl
theorem ex_8 : (foldC zeroRd 0 (segs (exA ++ [112, 105, 99, 107, 32, 48, 32, 49]))).2 = (6, false) := by kernel_rfl
end Go.Proofs.YtdfkbahlngijcaaDoor

