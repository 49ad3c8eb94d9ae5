/- Text: slices.Contains over fields; the closure of script.plain: their walks. -/
import Derived.Test.YtdfkbahlngijcaaDoorSa
namespace Go.Proofs.YtdfkbahlngijcaaDoor
open Go.RowKit
set_option linter.unusedVariables false

/-- a list of fields in memory, whole -/
def FldAt (w : World) (b : Nat) (l : List Nat) : Prop := ∀ j (h : j < l.length), w.cell? ⟨b, j, none⟩ = some (.int .u8 (l[j] : Nat))
def IdxPost (f : Nat) (l : List Nat) (w : World) (e : Ending) (w' : World) : Prop :=
  (∃ z : Int, e = .returned (.int .i64 z) ∧ (0 ≤ z ↔ f ∈ l)) ∧ w = w'
set_option maxRecDepth 100000 in
set_option maxHeartbeats 4000000 in
theorem findex_any (b f : Nat) (l : List Nat) (w : World) (h : FldAt w b l) (hl : l.length ≤ 10) :
    Calls Tryd.prog 111 #[.slice (some ⟨b, 0, none⟩) l.length l.length, .int .u8 f] w (IdxPost f l w) := by
  have HF := Lib.hid h
  obtain ⟨n, hn⟩ : ∃ n, n = l.length := ⟨_, rfl⟩
  have HN := Lib.hid hn
  rw [← hn] at hl ⊢
  clear hn h
  go_enter Tryd.func111, Tryd.ntmps111
  go_wp2_with fail
  go_loop [8] (fun s8 => ∃ (j : Nat), j ≤ n ∧ s8 = .int .i64 j ∧ ∀ i (h : i < l.length), i < j → l[i] ≠ f) (fun s8 => n - (intOf s8).toNat)
  case atStart => exact ⟨0, Nat.zero_le _, rfl, fun i _ h => absurd h (Nat.not_lt_zero _)⟩
  case round =>
    obtain ⟨j, hj, rfl, hne⟩ := hrel
    have HNE := Lib.hid hne
    clear hne
    by_cases hlt : j < n
    · have hlt' : (j : Int) < (n : Int) := by omega
      have hj0 : (0 : Int) ≤ (j : Int) := by omega
      have HJL := Lib.hid (show j < l.length by rw [← HN.out]; exact hlt)
      have q := HF.out j HJL.out
      obtain ⟨x, hx⟩ : ∃ x, x = l[j]'HJL.out := ⟨_, rfl⟩
      rw [← hx] at q
      have HX := Lib.hid hx
      clear hx
      by_cases he : f = x
      · as_aux_lemma =>
        subst he
        have HM := Lib.hid (show f ∈ l by rw [HX.out]; exact List.getElem_mem _)
        go_wp2_with fail
        go_ret
        exact ⟨⟨j, rfl, fun _ => HM.out, fun _ => by omega⟩, rfl⟩
      · as_aux_lemma =>
        have hf1 : ((f : Int) == (x : Int)) = false := by rw [beq_eq_false_iff_ne]; omega
        have HNX := Lib.hid (show ∀ i (h : i < l.length), i < j + 1 → l[i] ≠ f from fun i h hi => by
          rcases Nat.lt_or_ge i j with h1 | h1
          · exact HNE.out i h h1
          · obtain rfl : i = j := by omega
            rw [← HX.out]; exact fun e => he e.symm)
        clear he
        go_wp2_with fail
        go_round
        case rel => exact ⟨j + 1, by omega, by go_num, HNX.out⟩
        case measure => (simp [intOf] <;> omega)
    · as_aux_lemma =>
      have hlt' : ¬ ((j : Int) < (n : Int)) := by omega
      have HM := Lib.hid (show f ∉ l from fun h => by
        obtain ⟨i, hi, e⟩ := List.getElem_of_mem h
        exact HNE.out i hi (by rw [← HN.out] at hi; omega) e)
      clear hlt
      go_wp2_with fail
      go_ret
      exact ⟨⟨-1, rfl, fun h => absurd h (by decide), fun h => absurd h HM.out⟩, rfl⟩
set_option maxRecDepth 100000 in
set_option maxHeartbeats 4000000 in
theorem fcontains_any (b f : Nat) (l : List Nat) (w : World) (h : FldAt w b l) (hl : l.length ≤ 10) :
    Calls Tryd.prog 90 #[.slice (some ⟨b, 0, none⟩) l.length l.length, .int .u8 f] w fun e w' => e = .returned (.bool (decide (f ∈ l))) ∧ w = w' := by
  have HC := Lib.hid (findex_any b f l w h hl)
  clear h
  generalize l.length = n at *
  go_enter Tryd.func90, Tryd.ntmps90
  go_wp2_with fail
  refine (HC.out).mono ?_; rintro e w1 ⟨⟨z, rfl, hz⟩, rfl⟩
  by_cases h0 : 0 ≤ z
  · have HE := Lib.hid (show decide (f ∈ l) = true from decide_eq_true (hz.1 h0))
    have hd := decide_eq_true h0
    clear hz
    go_wp2_with fail
    go_ret
    exact ⟨by rw [HE.out] <;> rfl, rfl⟩
  · have HE := Lib.hid (show decide (f ∈ l) = false from decide_eq_false fun k => h0 (hz.2 k))
    have hd := decide_eq_false h0
    clear hz
    go_wp2_with fail
    go_ret
    exact ⟨by rw [HE.out] <;> rfl, rfl⟩
def hasB (l : List Nat) (f : Nat) (z1 z2 : Bool) : Bool := if f ∈ l then z2 else z1
set_option maxRecDepth 100000 in
set_option maxHeartbeats 4000000 in
theorem hasF_any (bq b f : Nat) (z1 z2 : Bool) (l : List Nat) (w : World) (hq : w.cell? ⟨bq, 0, none⟩ = some (.slice (some ⟨b, 0, none⟩) l.length l.length)) (h : FldAt w b l) (hl : l.length ≤ 10) :
    Calls Tryd.prog 89 #[.int .u8 f, .bool z1, .bool z2, .pointer (some ⟨bq, 0, none⟩)] w fun e w' => e = .returned (.bool (hasB l f z1 z2)) ∧ w = w' := by
  have HC := Lib.hid (fcontains_any b f l w h hl)
  clear h
  by_cases hm : f ∈ l
  · have HE := Lib.hid (show hasB l f z1 z2 = z2 from if_pos hm)
    rw [decide_eq_true hm] at HC
    generalize l.length = n at *
    clear hm
    go_enter Tryd.func89, Tryd.ntmps89
    go_wp2_with fail
    refine (HC.out).mono ?_; rintro e w1 ⟨rfl, rfl⟩
    go_wp2_with fail
    go_ret
    exact ⟨by rw [HE.out] <;> rfl, rfl⟩
  · have HE := Lib.hid (show hasB l f z1 z2 = z1 from if_neg hm)
    rw [decide_eq_false hm] at HC
    generalize l.length = n at *
    clear hm
    go_enter Tryd.func89, Tryd.ntmps89
    go_wp2_with fail
    refine (HC.out).mono ?_; rintro e w1 ⟨rfl, rfl⟩
    go_wp2_with fail
    go_ret
    exact ⟨by rw [HE.out] <;> rfl, rfl⟩
end Go.Proofs.YtdfkbahlngijcaaDoor
