/- The freelist: Take and Give as functions of the plain state; two lists side by side. -/
import Derived.Test.YtpcpjmgkdbgopaaDoorFx
namespace Go.Proofs.YtpcpjmgkdbgopaaDoor
open Go.RowKit

def takeR (x : FL) : Int × Int := if x.m = 0 then (0, 6) else (hMk (x.sk (x.m - 1)) (x.gn (x.sk (x.m - 1))), 0)
def takeS (x : FL) : FL := if x.m = 0 then x else takeL x
def slotOf (h : Int) : Nat := (h % 65536).toNat
def giveR (x : FL) (h : Int) : Bool × Int := if liveL x h then (decide (x.gn (slotOf h) = x.most), 0) else (false, 10)
def giveS (x : FL) (h : Int) : FL := if liveL x h then giveL x (slotOf h) else x
theorem takeS_inv {x : FL} (h : FInv x) : FInv (takeS x) := by
  unfold takeS
  split
  · exact h
  · exact takeL_inv h (by omega)
theorem giveS_inv {x : FL} (h : FInv x) (k : Int) : FInv (giveS x k) := by
  unfold giveS
  split
  · rename_i hl
    exact giveL_inv h hl.2.1 hl.2.2.1
  · exact h
theorem takeR_range {x : FL} (h : FInv x) : 0 ≤ (takeR x).1 ∧ (takeR x).1 ≤ 18446744073709551615 := by
  unfold takeR
  split
  · exact ⟨by decide, by decide⟩
  · exact hMk_le (mkOK_of h (h.lo _ (by omega)).1)
theorem slotOf_mk {s g : Nat} (h : mkOK s g) : slotOf (hMk s g) = s := by
  unfold slotOf
  rw [hMk_mod h]
  rfl

theorem take_any (b : LB) (x : FL) (w : World) (hl : IsL w b x) (hi : FInv x) :
    Calls Tryd.prog 13 #[.pointer (some ⟨b.p, 0, none⟩)] w fun e w' => e = .returned (.tuple #[.int .u64 (takeR x).1, .int .i64 (takeR x).2]) ∧ IsL w' b (takeS x) ∧ KeepL b w w' := by
  unfold takeR takeS
  by_cases hm : x.m = 0
  · rw [if_pos hm, if_pos hm]
    refine (take_full b x w hl hm).mono ?_
    rintro e w1 ⟨rfl, rfl⟩
    exact ⟨rfl, hl, KeepL.refl _ _⟩
  · rw [if_neg hm, if_neg hm]
    exact take_ok b x w hl hi (x.m - 1) (by omega)
theorem refTake_any (b : YB) (x : FL) (w : World) (hl : IsY w b x) (hi : FInv x) :
    Calls Tryd.prog 14 #[.pointer (some ⟨b.p, 0, none⟩)] w fun e w' => e = .returned (.tuple #[.int .u64 (takeR x).1, .int .i64 (takeR x).2]) ∧ IsY w' b (takeS x) ∧ KeepL b.toLB w w' := by
  unfold takeR takeS
  by_cases hm : x.m = 0
  · rw [if_pos hm, if_pos hm]
    refine (refTake_full b x w hl hm).mono ?_
    rintro e w1 ⟨rfl, rfl⟩
    exact ⟨rfl, hl, KeepL.refl _ _⟩
  · rw [if_neg hm, if_neg hm]
    exact refTake_ok b x w hl hi (x.m - 1) (by omega)
theorem give_any (b : LB) (x : FL) (h : Int) (w : World) (h0 : 0 ≤ h) (h1 : h ≤ 18446744073709551615) (hl : IsL w b x) (hi : FInv x) :
    Calls Tryd.prog 15 #[.pointer (some ⟨b.p, 0, none⟩), .int .u64 h] w fun e w' => e = .returned (.tuple #[.bool (giveR x h).1, .int .i64 (giveR x h).2]) ∧ IsL w' b (giveS x h) ∧ KeepL b w w' := by
  unfold giveR giveS
  by_cases hd : liveL x h
  · rw [if_pos hd, if_pos hd]
    obtain ⟨s, g, hm, rfl⟩ := hOK_mk hd.1
    rw [slotOf_mk hm]
    by_cases hg : x.gn s = x.most
    · rw [decide_eq_true hg]
      exact give_last b x s g w hm hd hl hg
    · rw [decide_eq_false hg]
      exact give_push b x s g w hm hd hl hi hg
  · rw [if_neg hd, if_neg hd]
    refine (give_dead b x h w h0 h1 hd hl).mono ?_
    rintro e w1 ⟨rfl, n, rfl⟩
    exact ⟨rfl, hl, (KeepL.refl _ _).drewN n⟩
theorem refGive_any (b : YB) (x : FL) (h : Int) (w : World) (h0 : 0 ≤ h) (h1 : h ≤ 18446744073709551615) (hl : IsY w b x) (hi : FInv x) (hc : b.cs ≤ maxLen) :
    Calls Tryd.prog 16 #[.pointer (some ⟨b.p, 0, none⟩), .int .u64 h] w fun e w' => e = .returned (.tuple #[.bool (giveR x h).1, .int .i64 (giveR x h).2]) ∧ IsY w' b (giveS x h) ∧ KeepL b.toLB w w' := by
  unfold giveR giveS
  by_cases hd : liveL x h
  · rw [if_pos hd, if_pos hd]
    obtain ⟨s, g, hm, rfl⟩ := hOK_mk hd.1
    rw [slotOf_mk hm]
    by_cases hg : x.gn s = x.most
    · rw [decide_eq_true hg]
      exact refGive_last b x s g w hm hd hl hg
    · rw [decide_eq_false hg]
      exact refGive_push b x s g w hm hd hl hi hg hc
  · rw [if_neg hd, if_neg hd]
    refine (refGive_dead b x h w h0 h1 hd hl).mono ?_
    rintro e w1 ⟨rfl, n, rfl⟩
    exact ⟨rfl, hl, (KeepL.refl _ _).drewN n⟩

/-- the blocks lie at B or above -/
def LB.ge (b : LB) (B : Nat) : Prop := B ≤ b.p ∧ B ≤ b.s ∧ B ≤ b.t ∧ B ≤ b.g
/-- no block is of both -/
def LB.apart (b c : LB) : Prop := ∀ q, (q = c.p ∨ q = c.s ∨ q = c.t ∨ q = c.g) → q ≠ b.p ∧ q ≠ b.s ∧ q ≠ b.t ∧ q ≠ b.g
theorem LB.apart.symm {b c : LB} (h : b.apart c) : c.apart b := by
  intro q hq
  refine ⟨fun e => ?_, fun e => ?_, fun e => ?_, fun e => ?_⟩
  · obtain ⟨a1, a2, a3, a4⟩ := h q (.inl e)
    rcases hq with k | k | k | k <;> contradiction
  · obtain ⟨a1, a2, a3, a4⟩ := h q (.inr (.inl e))
    rcases hq with k | k | k | k <;> contradiction
  · obtain ⟨a1, a2, a3, a4⟩ := h q (.inr (.inr (.inl e)))
    rcases hq with k | k | k | k <;> contradiction
  · obtain ⟨a1, a2, a3, a4⟩ := h q (.inr (.inr (.inr e)))
    rcases hq with k | k | k | k <;> contradiction
theorem apart_of {b c : LB} {w : World} {x : FL} (h : IsL w b x) (hc : c.ge w.heap.size) : b.apart c := by
  have h1 := block_lt h.1
  have h2 := h.2.1.lt
  have h3 := h.2.2.1.lt
  have h4 := h.2.2.2.lt
  obtain ⟨c1, c2, c3, c4⟩ := hc
  intro q hq
  omega
theorem KeepL.below {b : LB} {w w' : World} {B : Nat} (h : KeepL b w w') (hB : B ≤ w.heap.size) (hb : b.ge B) : Below B w w' := h.1 B hB hb.1 hb.2.1 hb.2.2.1 hb.2.2.2
theorem IsY.keep {b : LB} {c : YB} {w w' : World} {x : FL} (h : IsY w c x) (hk : KeepL b w w') (ha : b.apart c.toLB) : IsY w' c x := by
  have k : ∀ q, q < w.heap.size → (q = c.p ∨ q = c.s ∨ q = c.t ∨ q = c.g) → w'.heap[q]? = w.heap[q]? := fun q hq hc => by
    obtain ⟨a1, a2, a3, a4⟩ := ha q hc
    exact hk.2 q hq a1 a2 a3 a4
  exact ⟨(k _ (block_lt h.1) (.inl rfl)).trans h.1, h.2.1.keep (k _ h.2.1.lt (.inr (.inl rfl))), h.2.2.1.keep (k _ h.2.2.1.lt (.inr (.inr (.inl rfl)))), h.2.2.2.1.keep (k _ h.2.2.2.1.lt (.inr (.inr (.inr rfl)))), h.2.2.2.2⟩
theorem IsL.keep {b c : LB} {w w' : World} {x : FL} (h : IsL w c x) (hk : KeepL b w w') (ha : b.apart c) : IsL w' c x := by
  have k : ∀ q, q < w.heap.size → (q = c.p ∨ q = c.s ∨ q = c.t ∨ q = c.g) → w'.heap[q]? = w.heap[q]? := fun q hq hc => by
    obtain ⟨a1, a2, a3, a4⟩ := ha q hc
    exact hk.2 q hq a1 a2 a3 a4
  exact ⟨(k _ (block_lt h.1) (.inl rfl)).trans h.1, h.2.1.keep (k _ h.2.1.lt (.inr (.inl rfl))), h.2.2.1.keep (k _ h.2.2.1.lt (.inr (.inr (.inl rfl)))), h.2.2.2.keep (k _ h.2.2.2.lt (.inr (.inr (.inr rfl))))⟩
end Go.Proofs.YtpcpjmgkdbgopaaDoor
