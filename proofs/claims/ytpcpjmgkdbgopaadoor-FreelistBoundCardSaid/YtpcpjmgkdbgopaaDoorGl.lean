/- The freelist: plain facts for the bound: sums over the slots. -/
import Derived.Test.YtpcpjmgkdbgopaaDoorGk
namespace Go.Proofs.YtpcpjmgkdbgopaaDoor
open Go.RowKit

def sumN : Nat → (Nat → Nat) → Nat
  | 0, _ => 0
  | k + 1, f => sumN k f + f k
theorem sumN_congr {f g : Nat → Nat} : ∀ n, (∀ t, t < n → f t = g t) → sumN n f = sumN n g
  | 0, _ => rfl
  | n + 1, h => by
    unfold sumN
    rw [sumN_congr n (fun t ht => h t (by omega)), h n (by omega)]
theorem sumN_one {f g : Nat → Nat} {s : Nat} : ∀ n, s < n → (∀ t, t < n → t ≠ s → f t = g t) → sumN n f + g s = sumN n g + f s
  | 0, hs, _ => absurd hs (Nat.not_lt_zero _)
  | n + 1, hs, h => by
    unfold sumN
    by_cases e : s = n
    · subst e
      have := sumN_congr s (fun t ht => h t (by omega) (by omega))
      omega
    · have := sumN_one n (by omega) (fun t ht hne => h t (by omega) hne)
      have := h n (by omega) (fun h => e h.symm)
      omega
theorem sumN_zero {f : Nat → Nat} : ∀ n, sumN n f = 0 → ∀ t, t < n → f t = 0
  | 0, _, t, ht => absurd ht (Nat.not_lt_zero _)
  | n + 1, h, t, ht => by
    unfold sumN at h
    by_cases e : t = n
    · rw [e]; omega
    · exact sumN_zero n (by omega) t (by omega)
theorem sumN_pos {f : Nat → Nat} {s : Nat} : ∀ n, s < n → f s ≤ sumN n f
  | 0, hs => absurd hs (Nat.not_lt_zero _)
  | n + 1, hs => by
    unfold sumN
    by_cases e : s = n
    · rw [e]; omega
    · have := sumN_pos (f := f) n (show s < n by omega)
      omega
theorem sumN_const (k : Nat) : ∀ n, sumN n (fun _ => k) = n * k
  | 0 => by simp [sumN]
  | n + 1 => by
    show sumN n (fun _ => k) + k = _
    rw [sumN_const k n, Nat.add_mul, Nat.one_mul]

def stW (t : Nat) : Nat := if t = 0 then 2 else if t = 1 then 1 else 0
/-- the calls that are still to come -/
def phiT (x : FL) (s : Nat) : Nat := 2 * (x.most - x.gn s) + stW (x.st s)
def phi (x : FL) : Nat := sumN x.n (phiT x)
/-- the slots that were withdrawn -/
def goneT (x : FL) (s : Nat) : Nat := if x.st s = 2 then 1 else 0
def goneN (x : FL) : Nat := sumN x.n (goneT x)
/-- how often a slot was taken -/
def cntS (x : FL) (s : Nat) : Nat := if x.st s = 0 then x.gn s - 1 else x.gn s
/-- a withdrawn slot has the last generation -/
def WInv (x : FL) : Prop := ∀ s, s < x.n → x.st s = 2 → x.gn s = x.most

theorem take_st (x : FL) (s : Nat) : (takeL x).st s = if s = topS x then 1 else x.st s := rfl
theorem top_lt {x : FL} (hf : FInv x) (hm : x.m ≠ 0) : topS x < x.n ∧ x.st (topS x) = 0 := hf.lo (x.m - 1) (by omega)
theorem phi_take {x : FL} (hf : FInv x) (hm : x.m ≠ 0) : phi (takeL x) + 1 = phi x := by
  have hl := top_lt hf hm
  have h1 := sumN_one (f := phiT (takeL x)) (g := phiT x) x.n hl.1 (fun t _ hne => by
    unfold phiT
    rw [take_st, if_neg hne]
    rfl)
  have h2 : phiT x (topS x) = phiT (takeL x) (topS x) + 1 := by
    unfold phiT
    rw [take_st, if_pos rfl, hl.2]
    rfl
  have e1 : phi (takeL x) = sumN x.n (phiT (takeL x)) := rfl
  unfold phi at *
  omega
theorem gone_take {x : FL} (hf : FInv x) (hm : x.m ≠ 0) : goneN (takeL x) = goneN x := by
  have hl := top_lt hf hm
  refine sumN_congr x.n fun t _ => ?_
  unfold goneT
  rw [take_st]
  by_cases e : t = topS x
  · rw [if_pos e, e, hl.2]; rfl
  · rw [if_neg e]
theorem cnt_take {x : FL} (hf : FInv x) (hm : x.m ≠ 0) (s : Nat) : cntS (takeL x) s = if s = topS x then cntS x s + 1 else cntS x s := by
  have hl := top_lt hf hm
  have hg := hf.gn _ hl.1
  unfold cntS
  rw [take_st]
  by_cases e : s = topS x
  · rw [if_pos e, if_pos e, e, hl.2]
    show x.gn (topS x) = x.gn (topS x) - 1 + 1
    omega
  · rw [if_neg e, if_neg e]
    rfl
theorem winv_take {x : FL} (hw : WInv x) : WInv (takeL x) := fun s hs h => by
  rw [take_st] at h
  by_cases e : s = topS x
  · rw [if_pos e] at h; omega
  · rw [if_neg e] at h; exact hw s hs h
theorem give_at (x : FL) (s t : Nat) : (giveL x s).gn t = (if x.gn s = x.most then x.gn t else if t = s then x.gn s + 1 else x.gn t) ∧ (giveL x s).st t = (if t = s then (if x.gn s = x.most then 2 else 0) else x.st t) := by
  unfold giveL
  by_cases h : x.gn s = x.most
  · rw [if_pos h, if_pos h, if_pos h]
    exact ⟨rfl, rfl⟩
  · rw [if_neg h, if_neg h, if_neg h]
    exact ⟨rfl, rfl⟩
theorem phi_give {x : FL} (hf : FInv x) {s : Nat} (hs : s < x.n) (h1 : x.st s = 1) : phi (giveL x s) + 1 = phi x := by
  have hg := hf.gn s hs
  have hn := giveL_n x s
  have k1 := sumN_one (f := phiT (giveL x s)) (g := phiT x) x.n hs (fun t _ hne => by
    unfold phiT
    rw [(give_at x s t).1, (give_at x s t).2, if_neg hne, if_neg hne, hn.2]
    split <;> rfl)
  have k2 : phiT x s = phiT (giveL x s) s + 1 := by
    unfold phiT
    rw [(give_at x s s).1, (give_at x s s).2, if_pos rfl, if_pos rfl, hn.2, h1]
    by_cases e : x.gn s = x.most
    · rw [if_pos e, if_pos e]; rfl
    · rw [if_neg e, if_neg e]
      show 2 * (x.most - x.gn s) + 1 = 2 * (x.most - (x.gn s + 1)) + 2 + 1
      omega
  unfold phi
  rw [hn.1]
  omega
theorem gone_give {x : FL} {s : Nat} (hs : s < x.n) (h1 : x.st s = 1) : goneN (giveL x s) = goneN x + (if x.gn s = x.most then 1 else 0) := by
  have hn := giveL_n x s
  have k1 := sumN_one (f := goneT (giveL x s)) (g := goneT x) x.n hs (fun t _ hne => by
    unfold goneT
    rw [(give_at x s t).2, if_neg hne])
  have k2 : goneT x s = 0 := by
    unfold goneT
    rw [h1]; rfl
  have k3 : goneT (giveL x s) s = if x.gn s = x.most then 1 else 0 := by
    unfold goneT
    rw [(give_at x s s).2, if_pos rfl]
    by_cases e : x.gn s = x.most
    · rw [if_pos e, if_pos e]; rfl
    · rw [if_neg e, if_neg e]; rfl
  unfold goneN
  rw [hn.1]
  omega
theorem cnt_give {x : FL} {s : Nat} (h1 : x.st s = 1) (t : Nat) : cntS (giveL x s) t = cntS x t := by
  unfold cntS
  rw [(give_at x s t).1, (give_at x s t).2]
  by_cases e : t = s
  · subst e
    rw [if_pos rfl, if_pos rfl, h1]
    by_cases e2 : x.gn t = x.most
    · rw [if_pos e2, if_pos e2]; rfl
    · rw [if_neg e2, if_neg e2]; rfl
  · rw [if_neg e, if_neg e, ite_self]
theorem winv_give {x : FL} (hw : WInv x) {s : Nat} : WInv (giveL x s) := fun t ht h => by
  have hn := giveL_n x s
  rw [hn.1] at ht
  rw [(give_at x s t).2] at h
  rw [(give_at x s t).1, hn.2]
  by_cases e : t = s
  · subst e
    rw [if_pos rfl] at h
    by_cases e2 : x.gn t = x.most
    · rw [if_pos e2]; exact e2
    · rw [if_neg e2] at h; omega
  · rw [if_neg e] at h
    rw [if_neg e]
    split
    · exact hw t ht h
    · exact hw t ht h
theorem phi_new (n g : Nat) (hg : 1 ≤ g) : phi (newL n g) = n * (2 * g) := by
  unfold phi
  rw [← sumN_const]
  refine sumN_congr n fun t _ => ?_
  show 2 * (g - 1) + 2 = 2 * g
  omega
theorem gone_new (n g : Nat) : goneN (newL n g) = 0 := by
  have : goneN (newL n g) = sumN n (fun _ => 0) := sumN_congr n fun t _ => rfl
  rw [this, sumN_const, Nat.mul_zero]
theorem winv_new (n g : Nat) : WInv (newL n g) := fun s _ h => by
  have h' : (0 : Nat) = 2 := h
  omega
/-- what is left where no call is to come -/
theorem phi_end {x : FL} (hf : FInv x) (h : phi x = 0) : (∀ s, s < x.n → x.st s = 2 ∧ x.gn s = x.most) ∧ x.m = 0 ∧ goneN x = x.n ∧ goN x 2 = x.n := by
  have h1 : ∀ s, s < x.n → x.st s = 2 ∧ x.gn s = x.most := fun s hs => by
    have h2 := sumN_zero x.n h s hs
    have h3 := hf.gn s hs
    have h4 := hf.s2 s hs
    unfold phiT stW at h2
    by_cases e0 : x.st s = 0
    · rw [if_pos e0] at h2; omega
    · rw [if_neg e0] at h2
      by_cases e1 : x.st s = 1
      · rw [if_pos e1] at h2; omega
      · exact ⟨by omega, by omega⟩
  refine ⟨h1, ?_, ?_, ?_⟩
  · by_cases e : x.m = 0
    · exact e
    · have := hf.lo 0 (by omega)
      have := (h1 _ this.1).1
      omega
  · have : goneN x = sumN x.n (fun _ => 1) := sumN_congr x.n fun t ht => by
      unfold goneT
      rw [(h1 t ht).1]; rfl
    rw [this, sumN_const, Nat.mul_one]
  · unfold goN slotsTo
    rw [List.filter_eq_self.2 (fun s hs => decide_eq_true (h1 s (List.mem_range.1 hs)).1), List.length_range]
/-- where a call is to come and no slot is free, one is taken -/
theorem phi_live {x : FL} (hf : FInv x) (hw : WInv x) (h : phi x ≠ 0) (hm : x.m = 0) : goN x 1 ≠ 0 := by
  intro h0
  apply h
  have h1 : ∀ s, s < x.n → phiT x s = 0 := fun s hs => by
    have h4 := hf.s2 s hs
    have n0 : x.st s ≠ 0 := fun e => by
      obtain ⟨i, hi, _⟩ := hf.all s hs e
      omega
    have n1 : x.st s ≠ 1 := fun e => by
      obtain ⟨i, hi, _⟩ := go_all hs e
      omega
    have e2 : x.st s = 2 := by omega
    unfold phiT stW
    rw [hw s hs e2, e2]
    simp
  have : phi x = sumN x.n (fun _ => 0) := sumN_congr x.n h1
  rw [this, sumN_const, Nat.mul_zero]
/-- a live handle of the list of handles -/
theorem give_hs {x : FL} (hf : FInv x) {t : Nat} (ht : t < goN x 1) : liveL x (hMk (goF x 1 t) (x.gn (goF x 1 t))) ∧ giveS x (hMk (goF x 1 t) (x.gn (goF x 1 t))) = giveL x (goF x 1 t) ∧ giveR x (hMk (goF x 1 t) (x.gn (goF x 1 t))) = (decide (x.gn (goF x 1 t) = x.most), 0) := by
  have hl := go_lt ht
  have hm := mkOK_of hf hl.1
  have hv : liveL x (hMk (goF x 1 t) (x.gn (goF x 1 t))) := (liveL_mk hm).2 ⟨hl.1, hl.2, rfl⟩
  refine ⟨hv, ?_, ?_⟩
  · unfold giveS; rw [if_pos hv, slotOf_mk hm]
  · unfold giveR; rw [if_pos hv, slotOf_mk hm]
end Go.Proofs.YtpcpjmgkdbgopaaDoor
