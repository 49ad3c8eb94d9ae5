/- Which child choose finds: plain law. -/
import Derived.Test.YtbodacjhhkjdfaaNi
namespace Go.Proofs.Ytbodacjhhkjdfaa
open Go.RowKit

theorem chooseL_to (p : Trip → Int) (l : List Kid) (S : Nat → Int) (h0 : S 0 = 0) (hs : ∀ k (h : k < l.length), S (k + 1) = S k + p l[k].2 ∧ 0 ≤ p l[k].2) (n : Int) :
    ∀ k, k ≤ l.length → S k ≤ n → chooseL p l 0 n = chooseL p (l.drop k) k (n - S k)
  | 0, _, _ => by rw [h0, Int.sub_zero]; rfl
  | k + 1, hk, hn => by
    obtain ⟨e, hp⟩ := hs k (by omega)
    rw [chooseL_to p l S h0 hs n k (by omega) (by omega), chooseL_drop p l k _ (by omega), if_neg (by omega), e]
    congr 1
    omega
theorem chooseL_at {p : Trip → Int} {l : List Kid} {S : Nat → Int} (h0 : S 0 = 0) (hs : ∀ k (h : k < l.length), S (k + 1) = S k + p l[k].2 ∧ 0 ≤ p l[k].2) {n : Int} {k : Nat} (hk : k < l.length) (h1 : S k ≤ n) (h2 : n < S (k + 1)) :
    chooseL p l 0 n = ((k : Int), n - S k, 0) := by
  obtain ⟨e, hp⟩ := hs k hk
  rw [chooseL_to p l S h0 hs n k (by omega) h1, chooseL_drop p l k _ hk, if_pos (by omega)]
theorem chooseL_none {p : Trip → Int} {l : List Kid} {S : Nat → Int} (h0 : S 0 = 0) (hs : ∀ k (h : k < l.length), S (k + 1) = S k + p l[k].2 ∧ 0 ≤ p l[k].2) {n : Int} (h1 : S l.length ≤ n) :
    chooseL p l 0 n = (0, 0, 3) := by
  rw [chooseL_to p l S h0 hs n l.length (Nat.le_refl _) h1, List.drop_length]
  rfl

/-- children whose measures add without wrapping -/
def tame (l : List Kid) : Prop := l.length ≤ 4 ∧ ∀ x ∈ l, 0 ≤ x.2.1 ∧ x.2.1 ≤ 65536 ∧ 0 ≤ x.2.2.1 ∧ x.2.2.1 ≤ 65536 ∧ 0 ≤ x.2.2.2 ∧ x.2.2.2 ≤ 65536

theorem formed_tame {x : Nd} (hf : formedP x) : tame x.kids := by
  rcases formed_cases hf with ⟨h1, h2, h3, h4⟩ | ⟨h0, h1, h2, h3, h4, h5, h6⟩
  · rw [h4]
    refine ⟨by simp, ?_⟩
    intro x hx
    simp at hx
  · refine ⟨h5, fun k hk => ?_⟩
    obtain ⟨_, b0, b1, b2, b3, b4, b5⟩ := h6 k hk
    have := bnd_pos (x.h - 1).toNat (by omega)
    omega
theorem tame_sum {l : List Kid} (h : tame l) : ∀ k, k ≤ l.length →
    (0 ≤ (sumM (msTo l k)).1 ∧ (sumM (msTo l k)).1 ≤ k * 65536) ∧ (0 ≤ (sumM (msTo l k)).2.1 ∧ (sumM (msTo l k)).2.1 ≤ k * 65536) ∧ (0 ≤ (sumM (msTo l k)).2.2 ∧ (sumM (msTo l k)).2.2 ≤ k * 65536)
  | 0, _ => by simp [msTo, sumM]
  | k + 1, hk => by
    obtain ⟨⟨a0, a1⟩, ⟨b0, b1⟩, c0, c1⟩ := tame_sum h k (by omega)
    have hl := h.1
    obtain ⟨u0, u1, u2, u3, u4, u5⟩ := h.2 _ (List.getElem_mem (show k < l.length by omega))
    rw [msTo_succ l k (by omega), sumM_snoc]
    unfold addM
    simp only
    rw [IntWalk.wrap64_in _ (by omega), IntWalk.wrap64_in _ (by omega), IntWalk.wrap64_in _ (by omega)]
    omega
theorem tame_step {l : List Kid} (h : tame l) (k : Nat) (hk : k < l.length) :
    (sumM (msTo l (k + 1))).1 = (sumM (msTo l k)).1 + l[k].2.1 ∧ (sumM (msTo l (k + 1))).2.1 = (sumM (msTo l k)).2.1 + l[k].2.2.1 ∧ (sumM (msTo l (k + 1))).2.2 = (sumM (msTo l k)).2.2 + l[k].2.2.2 := by
  obtain ⟨⟨a0, a1⟩, ⟨b0, b1⟩, c0, c1⟩ := tame_sum h k (by omega)
  have hl := h.1
  obtain ⟨u0, u1, u2, u3, u4, u5⟩ := h.2 _ (List.getElem_mem hk)
  rw [msTo_succ l k hk, sumM_snoc]
  unfold addM
  simp only
  rw [IntWalk.wrap64_in _ (by omega), IntWalk.wrap64_in _ (by omega), IntWalk.wrap64_in _ (by omega)]
  omega

/-- one of the three parts of a measure -/
def isPart (p : Trip → Int) : Prop := p = pB ∨ p = pR ∨ p = pL
theorem part_zero {p : Trip → Int} (hp : isPart p) (l : List Kid) : p (sumM (msTo l 0)) = 0 := by
  rcases hp with rfl | rfl | rfl <;> rfl
theorem part_step {p : Trip → Int} (hp : isPart p) {l : List Kid} (h : tame l) (k : Nat) (hk : k < l.length) : p (sumM (msTo l (k + 1))) = p (sumM (msTo l k)) + p l[k].2 ∧ 0 ≤ p l[k].2 := by
  obtain ⟨e1, e2, e3⟩ := tame_step h k hk
  obtain ⟨u0, u1, u2, u3, u4, u5⟩ := h.2 _ (List.getElem_mem hk)
  rcases hp with rfl | rfl | rfl
  · exact ⟨e1, u0⟩
  · exact ⟨e2, u2⟩
  · exact ⟨e3, u4⟩
theorem part_le {p : Trip → Int} (hp : isPart p) {l : List Kid} (h : tame l) (k : Nat) (hk : k ≤ l.length) : 0 ≤ p (sumM (msTo l k)) ∧ p (sumM (msTo l k)) ≤ 262144 := by
  obtain ⟨⟨a0, a1⟩, ⟨b0, b1⟩, c0, c1⟩ := tame_sum h k hk
  have hl := h.1
  rcases hp with rfl | rfl | rfl
  · exact ⟨a0, by unfold pB; omega⟩
  · exact ⟨b0, by unfold pR; omega⟩
  · exact ⟨c0, by unfold pL; omega⟩

theorem find_at {p : Trip → Int} (hp : isPart p) {l : List Kid} (h : tame l) {n : Int} {k : Nat} (hk : k < l.length) (h1 : p (sumM (msTo l k)) ≤ n) (h2 : n < p (sumM (msTo l (k + 1)))) :
    chooseL p l 0 n = ((k : Int), n - p (sumM (msTo l k)), 0) := chooseL_at (S := fun k => p (sumM (msTo l k))) (part_zero hp l) (part_step hp h) hk h1 h2
theorem find_none {p : Trip → Int} (hp : isPart p) {l : List Kid} (h : tame l) {n : Int} (h1 : p (sumM (l.map (·.2))) ≤ n) :
    chooseL p l 0 n = (0, 0, 3) := chooseL_none (S := fun k => p (sumM (msTo l k))) (part_zero hp l) (part_step hp h) (by simpa only [msTo_end] using h1)
theorem find_ex {p : Trip → Int} (hp : isPart p) {l : List Kid} (h : tame l) {n : Int} (h0 : 0 ≤ n) : ∀ m, m ≤ l.length → n < p (sumM (msTo l m)) → ∃ k, k < l.length ∧ p (sumM (msTo l k)) ≤ n ∧ n < p (sumM (msTo l (k + 1)))
  | 0, _, h1 => by rw [part_zero hp] at h1; omega
  | m + 1, hm, h1 => by
    by_cases h2 : n < p (sumM (msTo l m))
    · exact find_ex hp h h0 m (by omega) h2
    · exact ⟨m, by omega, by omega, h1⟩

theorem chooseN_err {p : Trip → Int} {x : Nd} {n : Int} (h : (innerN x).2 ≠ 0) : chooseN p x n = (0, 0, (innerN x).2) := by
  unfold chooseN innerN at *
  by_cases hc : checkN x = 0
  · by_cases hh : x.h = 0
    · rw [if_pos hc, if_pos hh, if_pos ⟨hc, hh⟩]
    · rw [if_neg (fun h => hh h.2)] at h
      exact absurd hc h
  · rw [if_neg hc, if_neg (fun h => hc h.1)]
theorem innerN_ok {x : Nd} (h : (innerN x).2 = 0) : checkN x = 0 ∧ x.h ≠ 0 ∧ (innerN x).1 = sumM (x.kids.map (·.2)) := by
  unfold innerN at *
  by_cases hc : checkN x = 0 ∧ x.h = 0
  · rw [if_pos hc] at h; exact absurd h (by decide)
  · rw [if_neg hc] at h ⊢
    have hh : x.h ≠ 0 := fun e => hc ⟨h, e⟩
    refine ⟨h, hh, ?_⟩
    show measN x = _
    unfold measN
    rw [if_pos h, sumN_inner hh]
theorem chooseN_ok {p : Trip → Int} {x : Nd} {n : Int} (h : (innerN x).2 = 0) : chooseN p x n = if n < 0 then (0, 0, 3) else chooseL p x.kids 0 n := by
  obtain ⟨hc, hh, _⟩ := innerN_ok h
  unfold chooseN
  rw [if_pos hc, if_neg hh]
theorem chooseN_out {p : Trip → Int} (hp : isPart p) {x : Nd} {n : Int} (h : (innerN x).2 = 0) (ho : n < 0 ∨ p (innerN x).1 ≤ n) : chooseN p x n = (0, 0, 3) := by
  obtain ⟨hc, hh, e⟩ := innerN_ok h
  rw [chooseN_ok h]
  by_cases hn : n < 0
  · rw [if_pos hn]
  · rw [if_neg hn]
    refine find_none hp (formed_tame (checkN_zero hc).1) ?_
    rw [← e]
    rcases ho with ho | ho
    · exact absurd ho hn
    · exact ho

/-- what both Lines return -/
def lineN (x : Nd) (n : Int) : Int × Int × Int :=
  if (innerN x).2 = 0 then (if n < 1 then (0, 0, 3) else if (chooseN pL x (n - 1)).2.2 = 0 then ((chooseN pL x (n - 1)).1, (chooseN pL x (n - 1)).2.1 + 1, 0) else (0, 0, (chooseN pL x (n - 1)).2.2)) else (0, 0, (innerN x).2)
end Go.Proofs.Ytbodacjhhkjdfaa
