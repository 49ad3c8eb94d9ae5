/- Text: the reference's Decode: plain law: it finds the same first rune as the program's. (printed by slim.py.) -/
import Derived.Test.YtdfkbahlngijcaaDoorQKg
import Derived.Test.YtdfkbahlngijcaaDoorQKb
import Derived.Deep.DeepCutAuto
import Derived.Deep.CutBlock
import Derived.Test.YtdfkbahlngijcaaDoorQKh
namespace Go.Proofs.YtdfkbahlngijcaaDoor
open Go.RowKit
set_option linter.unusedVariables false

theorem band_i64 (a b : Nat) (ha : a < 9223372036854775808) (hb : b < 9223372036854775808) : bits .and .i64 (a : Int) (b : Int) = ((a &&& b : Nat) : Int) := by
  have hx : a &&& b < 2 ^ 63 := Nat.and_lt_two_pow _ (by omega)
  have h1 : (BitVec.ofInt 64 (a : Int)).toNat = a := by
    rw [BitVec.ofInt_natCast, BitVec.toNat_ofNat]; exact Nat.mod_eq_of_lt (by omega)
  have h2 : (BitVec.ofInt 64 (b : Int)).toNat = b := by
    rw [BitVec.ofInt_natCast, BitVec.toNat_ofNat]; exact Nat.mod_eq_of_lt (by omega)
  show IntKind.i64.wrap ((BitVec.ofInt 64 (a : Int) &&& BitVec.ofInt 64 (b : Int)).toNat : Int) = _
  rw [BitVec.toNat_and, h1, h2, IntKind.wrap_i64]
  omega
theorem bor_i64 (a b : Nat) (ha : a < 9223372036854775808) (hb : b < 9223372036854775808) : bits .or .i64 (a : Int) (b : Int) = ((a ||| b : Nat) : Int) := by
  have hx : a ||| b < 2 ^ 63 := Nat.or_lt_two_pow (by omega) (by omega)
  have h1 : (BitVec.ofInt 64 (a : Int)).toNat = a := by
    rw [BitVec.ofInt_natCast, BitVec.toNat_ofNat]; exact Nat.mod_eq_of_lt (by omega)
  have h2 : (BitVec.ofInt 64 (b : Int)).toNat = b := by
    rw [BitVec.ofInt_natCast, BitVec.toNat_ofNat]; exact Nat.mod_eq_of_lt (by omega)
  show IntKind.i64.wrap ((BitVec.ofInt 64 (a : Int) ||| BitVec.ofInt 64 (b : Int)).toNat : Int) = _
  rw [BitVec.toNat_or, h1, h2, IntKind.wrap_i64]
  omega
theorem band_u8 (a b : Nat) (ha : a < 256) (hb : b < 256) : bits .and .u8 (a : Int) (b : Int) = ((a &&& b : Nat) : Int) := by
  have hx : a &&& b < 2 ^ 8 := Nat.and_lt_two_pow _ (by omega)
  have h1 : (BitVec.ofInt 8 (a : Int)).toNat = a := by
    rw [BitVec.ofInt_natCast, BitVec.toNat_ofNat]; exact Nat.mod_eq_of_lt (by omega)
  have h2 : (BitVec.ofInt 8 (b : Int)).toNat = b := by
    rw [BitVec.ofInt_natCast, BitVec.toNat_ofNat]; exact Nat.mod_eq_of_lt (by omega)
  show IntKind.u8.wrap ((BitVec.ofInt 8 (a : Int) &&& BitVec.ofInt 8 (b : Int)).toNat : Int) = _
  rw [BitVec.toNat_and, h1, h2, IntKind.wrap_u8]
  omega
theorem low63 (c : UInt8) : bits .and .u8 (c.toNat : Int) 63 = ((c.toNat % 64 : Nat) : Int) := by
  have h := c.toNat_lt
  have e := band_u8 c.toNat 63 (by omega) (by omega)
  rw [show (63 : Nat) = 2 ^ 6 - 1 from rfl, Nat.and_two_pow_sub_one_eq_mod] at e
  exact e
theorem join64 (r x : Nat) (hr : r < 72057594037927936) (hx : x < 64) : bits .or .i64 (wrap64 ((r : Int) * 64)) (wrap64 (x : Int)) = ((64 * r + x : Nat) : Int) := by
  rw [IntWalk.wrap64_in _ (by omega), IntWalk.wrap64_in _ (by omega), show ((r : Int) * 64) = ((64 * r : Nat) : Int) by omega, bor_i64 _ _ (by omega) (by omega)]
  have e := Nat.two_pow_add_eq_or_of_lt (i := 6) (b := x) (by omega) r
  rw [show 64 * r + x = 2 ^ 6 * r + x from rfl, e]
/-- the rune so far, as the reference reckons it -/
def rF (l : List UInt8) (n : Nat) : Nat → Nat
  | 0 => 0
  | 1 => (l.getD 0 0).toNat - (if n = 4 then 240 else if n = 3 then 224 else if n = 2 then 192 else 0)
  | i + 2 => 64 * rF l n (i + 1) + ((l.getD (i + 1) 0).toNat - 128)
theorem rF_next (l : List UInt8) (n : Nat) {i : Nat} (h : 1 ≤ i) : rF l n (i + 1) = 64 * rF l n i + ((l.getD i 0).toNat - 128) := by
  obtain ⟨k, rfl⟩ : ∃ k, i = k + 1 := ⟨i - 1, by omega⟩
  rfl
theorem rF_most (l : List UInt8) (n : Nat) : ∀ i, i ≤ 4 → rF l n i ≤ 67375167
  | 0, _ => Nat.zero_le _
  | i + 1, h => by
    have h0 : rF l n 1 ≤ 255 := by
      have := (l.getD 0 0).toNat_lt
      show _ - _ ≤ _
      omega
    have st : ∀ k, rF l n (k + 2) ≤ 64 * rF l n (k + 1) + 127 := fun k => by
      have := (l.getD (k + 1) 0).toNat_lt
      show 64 * rF l n (k + 1) + (_ - 128) ≤ _
      omega
    have h1 : rF l n 2 ≤ 64 * rF l n 1 + 127 := st 0
    have h2 : rF l n 3 ≤ 64 * rF l n 2 + 127 := st 1
    have h3 : rF l n 4 ≤ 64 * rF l n 3 + 127 := st 2
    rcases (by omega : i = 0 ∨ i = 1 ∨ i = 2 ∨ i = 3) with rfl | rfl | rfl | rfl
    · show rF l n 1 ≤ _; omega
    · show rF l n 2 ≤ _; omega
    · show rF l n 3 ≤ _; omega
    · show rF l n 4 ≤ _; omega
def annR (c : UInt8) : Nat := if 240 ≤ c.toNat then 4 else if 224 ≤ c.toNat then 3 else if 192 ≤ c.toNat then 2 else 1
theorem isC_iff (c : UInt8) : isC c = true ↔ 128 ≤ c.toNat ∧ c.toNat ≤ 191 := by unfold isC; simp
/-- both reckon alike -/
theorem rN_rF {l : List UInt8} {n : Nat} (hn : annN (l.getD 0 0) = n) (h0 : n ≠ 0) : ∀ i, 1 ≤ i → i ≤ n → conts l i → rN l n i = (rF l n i : Int)
  | 0, h, _, _ => absurd h (by omega)
  | 1, _, _, _ => by
    have hc := (l.getD 0 0).toNat_lt
    show (if 1 < n then bits BinOp.and IntKind.i64 (wrap64 ((l.getD 0 0).toNat : Int)) (127 / 2 ^ n) else wrap64 ((l.getD 0 0).toNat : Int)) = (((l.getD 0 0).toNat - (if n = 4 then 240 else if n = 3 then 224 else if n = 2 then 192 else 0) : Nat) : Int)
    unfold annN at hn
    generalize (l.getD 0 0).toNat = c at *
    rw [IntWalk.wrap64_in _ (by omega)]
    by_cases g1 : 244 < c
    · rw [if_pos g1] at hn; omega
    · rw [if_neg g1] at hn
      by_cases g2 : 240 ≤ c
      · rw [if_pos g2] at hn
        subst hn
        rw [if_pos (by decide), if_pos rfl, show ((127 : Int) / 2 ^ 4) = ((7 : Nat) : Int) by decide, band_i64 _ _ (by omega) (by omega), show (7 : Nat) = 2 ^ 3 - 1 from rfl, Nat.and_two_pow_sub_one_eq_mod]
        omega
      · rw [if_neg g2] at hn
        by_cases g3 : 224 ≤ c
        · rw [if_pos g3] at hn
          subst hn
          rw [if_pos (by decide), if_neg (by decide), if_pos rfl, show ((127 : Int) / 2 ^ 3) = ((15 : Nat) : Int) by decide, band_i64 _ _ (by omega) (by omega), show (15 : Nat) = 2 ^ 4 - 1 from rfl, Nat.and_two_pow_sub_one_eq_mod]
          omega
        · rw [if_neg g3] at hn
          by_cases g4 : 194 ≤ c
          · rw [if_pos g4] at hn
            subst hn
            rw [if_pos (by decide), if_neg (by decide), if_neg (by decide), if_pos rfl, show ((127 : Int) / 2 ^ 2) = ((31 : Nat) : Int) by decide, band_i64 _ _ (by omega) (by omega), show (31 : Nat) = 2 ^ 5 - 1 from rfl, Nat.and_two_pow_sub_one_eq_mod]
            omega
          · rw [if_neg g4] at hn
            by_cases g5 : c < 128
            · rw [if_pos g5] at hn
              subst hn
              rw [if_neg (by decide), if_neg (by decide), if_neg (by decide), if_neg (by decide)]
              omega
            · rw [if_neg g5] at hn; omega
  | i + 2, _, hi, hc => by
    have ih := rN_rF hn h0 (i + 1) (by omega) (by omega) (fun j a b => hc j a (by omega))
    have hk := (isC_iff _).1 (hc (i + 1) (by omega) (by omega))
    have hle : n ≤ 4 := by rw [← hn]; exact ann_le _
    have hm := rF_most l n (i + 1) (by omega)
    show bits BinOp.or IntKind.i64 (wrap64 (rN l n (i + 1) * 64)) (wrap64 (bits BinOp.and IntKind.u8 ((l.getD (i + 1) 0).toNat : Int) 63)) = ((64 * rF l n (i + 1) + ((l.getD (i + 1) 0).toNat - 128) : Nat) : Int)
    rw [ih, low63, join64 _ _ (by omega) (by omega)]
    omega
def isRune (r : Nat) : Prop := r ≤ 1114111 ∧ (r < 55296 ∨ 57343 < r)
def encR (r : Nat) : List UInt8 :=
  if r < 128 then [UInt8.ofNat r] else if r < 2048 then [UInt8.ofNat (192 + r / 64), UInt8.ofNat (128 + r % 64)]
  else if r < 65536 then [UInt8.ofNat (224 + r / 4096), UInt8.ofNat (128 + r / 64 % 64), UInt8.ofNat (128 + r % 64)]
  else [UInt8.ofNat (240 + r / 262144), UInt8.ofNat (128 + r / 4096 % 64), UInt8.ofNat (128 + r / 64 % 64), UInt8.ofNat (128 + r % 64)]
def okRef (l : List UInt8) (n : Nat) : Prop := n ≤ l.length ∧ conts l n ∧ isRune (rF l n n) ∧ encR (rF l n n) = l.take n
theorem u8_of {x : Nat} {c : UInt8} (h : x = c.toNat) : UInt8.ofNat x = c := by subst h; exact UInt8.ofNat_toNat
theorem lenR_is {r : Nat} {n : Nat} (h : lenR (r : Int) = n) (h0 : n ≠ 0) : isRune r := by
  unfold lenR at h
  by_cases k : (r : Int) < 0 ∨ 1114111 < (r : Int) ∨ (55296 ≤ (r : Int) ∧ (r : Int) ≤ 57343)
  · rw [if_pos k] at h; omega
  · exact ⟨by omega, by omega⟩
theorem lenR_of {r : Nat} (h : isRune r) : lenR (r : Int) = if r < 128 then 1 else if r < 2048 then 2 else if r < 65536 then 3 else 4 := by
  obtain ⟨h1, h2⟩ := h
  unfold lenR
  rw [if_neg (by omega)]
  by_cases k1 : r < 128
  · rw [if_pos k1, if_pos (by omega)]
  · rw [if_neg k1, if_neg (by omega)]
    by_cases k2 : r < 2048
    · rw [if_pos k2, if_pos (by omega)]
    · rw [if_neg k2, if_neg (by omega)]
      by_cases k3 : r < 65536
      · rw [if_pos k3, if_pos (by omega)]
      · rw [if_neg k3, if_neg (by omega)]
theorem encR_len (r : Nat) : ((encR r).length : Int) = if r < 128 then 1 else if r < 2048 then 2 else if r < 65536 then 3 else 4 := by
  unfold encR
  by_cases k1 : r < 128
  · rw [if_pos k1, if_pos k1]; rfl
  · rw [if_neg k1, if_neg k1]
    by_cases k2 : r < 2048
    · rw [if_pos k2, if_pos k2]; rfl
    · rw [if_neg k2, if_neg k2]
      by_cases k3 : r < 65536
      · rw [if_pos k3, if_pos k3]; rfl
      · rw [if_neg k3, if_neg k3]; rfl
/-- the reference's first rune is the program's -/
theorem ok_ref {l : List UInt8} (h0 : l ≠ []) (h : okRef l (annR (l.getD 0 0))) : vstep l = some (annR (l.getD 0 0)) := by
  obtain ⟨h1, h2, h3, h4⟩ := h
  have hlen : lenR (rF l (annR (l.getD 0 0)) (annR (l.getD 0 0)) : Int) = (annR (l.getD 0 0) : Nat) := by
    rw [lenR_of h3, ← encR_len, h4, List.length_take]
    omega
  have hann : annN (l.getD 0 0) = annR (l.getD 0 0) := by
    have hm : rF l (annR (l.getD 0 0)) (annR (l.getD 0 0)) ≤ 1114111 := h3.1
    have hl2 : lenR (rF l (annR (l.getD 0 0)) (annR (l.getD 0 0)) : Int) = _ := lenR_of h3
    rw [hlen] at hl2
    generalize hc : (l.getD 0 0) = c at *
    unfold annN annR at *
    by_cases g2 : 240 ≤ c.toNat
    · rw [if_pos g2] at *
      have e : rF l 4 4 = 64 * (64 * (64 * ((l.getD 0 0).toNat - 240) + ((l.getD 1 0).toNat - 128)) + ((l.getD 2 0).toNat - 128)) + ((l.getD 3 0).toNat - 128) := rfl
      rw [hc] at e
      rw [if_neg (by omega), if_pos g2]
    · rw [if_neg g2] at *
      rw [if_neg (by omega)]
      rw [if_neg g2]
      by_cases g3 : 224 ≤ c.toNat
      · rw [if_pos g3, if_pos g3]
      · rw [if_neg g3] at *
        rw [if_neg g3]
        by_cases g4 : 192 ≤ c.toNat
        · rw [if_pos g4] at *
          have e : rF l 2 2 = 64 * ((l.getD 0 0).toNat - 192) + ((l.getD 1 0).toNat - 128) := rfl
          rw [hc] at e
          have k := (isC_iff _).1 (h2 1 (by omega) (by omega))
          rw [if_pos]
          apply Classical.byContradiction
          intro hk
          rw [if_pos (by omega)] at hl2
          exact absurd hl2 (by decide)
        · rw [if_neg g4] at *
          have e : rF l 1 1 = (l.getD 0 0).toNat - 0 := rfl
          rw [hc] at e
          rw [if_neg (by omega), if_pos]
          apply Classical.byContradiction
          intro hk
          rw [if_neg (by omega)] at hl2
          by_cases k2 : rF l 1 1 < 2048
          · rw [if_pos k2] at hl2; exact absurd hl2 (by decide)
          · have := c.toNat_lt; omega
  have hne : annR (l.getD 0 0) ≠ 0 := by unfold annR; split <;> (try split) <;> (try split) <;> decide
  rw [← hann]
  exact vstep_yes ⟨by rw [hann]; exact hne, by rw [hann]; exact h1, by rw [hann]; exact h2, by rw [hann, rN_rF hann hne _ (by omega) (Nat.le_refl _) h2]; exact hlen⟩
theorem no_ref {l : List UInt8} (h0 : l ≠ []) (h : ¬ okRef l (annR (l.getD 0 0))) : vstep l = none := by
  refine vstep_no fun hok => h ?_
  obtain ⟨k0, k1, k2, k3⟩ := hok
  have hR := rN_rF rfl k0 _ (by omega) (Nat.le_refl _) k2
  rw [hR] at k3
  have hru := lenR_is k3 k0
  have k4 := k3
  rw [lenR_of hru] at k4
  have hann : annR (l.getD 0 0) = annN (l.getD 0 0) := by
    unfold annN at k0 ⊢
    unfold annR
    by_cases g1 : 244 < (l.getD 0 0).toNat
    · rw [if_pos g1] at k0; omega
    · rw [if_neg g1] at k0 ⊢
      by_cases g2 : 240 ≤ (l.getD 0 0).toNat
      · rw [if_pos g2, if_pos g2]
      · rw [if_neg g2] at k0 ⊢
        rw [if_neg g2]
        by_cases g3 : 224 ≤ (l.getD 0 0).toNat
        · rw [if_pos g3, if_pos g3]
        · rw [if_neg g3] at k0 ⊢
          rw [if_neg g3]
          by_cases g4 : 194 ≤ (l.getD 0 0).toNat
          · rw [if_pos g4, if_pos (by omega)]
          · rw [if_neg g4] at k0 ⊢
            by_cases g5 : (l.getD 0 0).toNat < 128
            · rw [if_pos g5, if_neg (by omega)]
            · rw [if_neg g5] at k0; omega
  rw [hann]
  refine ⟨k1, k2, hru, ?_⟩
  have hcls : annR (l.getD 0 0) = annN (l.getD 0 0) := hann
  generalize hn : annN (l.getD 0 0) = n at *
  have hn4 : n ≤ 4 := by rw [← hn]; exact ann_le _
  unfold annR at hcls
  rcases l with _ | ⟨c0, l⟩
  · exact absurd rfl h0
  have b0 := c0.toNat_lt
  have hc0 : (c0 :: l).getD 0 0 = c0 := rfl
  rw [hc0] at hcls
  rcases (by omega : n = 1 ∨ n = 2 ∨ n = 3 ∨ n = 4) with rfl | rfl | rfl | rfl
  · have e : rF (c0 :: l) 1 1 = c0.toNat - 0 := rfl
    rw [e] at k4 ⊢
    have hlt : c0.toNat - 0 < 128 := by
      apply Classical.byContradiction
      intro hk
      rw [if_neg hk, if_pos (by omega)] at k4
      exact absurd k4 (by decide)
    unfold encR
    rw [if_pos hlt]
    show [UInt8.ofNat (c0.toNat - 0)] = [c0]
    rw [u8_of (c := c0) (by omega)]
  · rcases l with _ | ⟨c1, l⟩
    · simp at k1
    have d1 := (isC_iff _).1 (k2 1 (by omega) (by omega))
    replace d1 : 128 ≤ c1.toNat ∧ c1.toNat ≤ 191 := d1
    have e : rF (c0 :: c1 :: l) 2 2 = 64 * (c0.toNat - 192) + (c1.toNat - 128) := rfl
    rw [e] at k4 ⊢
    have hc : 192 ≤ c0.toNat ∧ c0.toNat < 224 := by
      by_cases g1 : 240 ≤ c0.toNat
      · rw [if_pos g1] at hcls; omega
      · rw [if_neg g1] at hcls
        by_cases g2 : 224 ≤ c0.toNat
        · rw [if_pos g2] at hcls; omega
        · rw [if_neg g2] at hcls
          by_cases g3 : 192 ≤ c0.toNat
          · omega
          · rw [if_neg g3] at hcls; omega
    have hge : ¬ (64 * (c0.toNat - 192) + (c1.toNat - 128) < 128) := by
      intro hk
      rw [if_pos hk] at k4
      exact absurd k4 (by decide)
    unfold encR
    rw [if_neg hge, if_pos (by omega)]
    show _ = [c0, c1]
    rw [u8_of (c := c0) (by omega), u8_of (c := c1) (by omega)]
  · rcases l with _ | ⟨c1, l⟩
    · simp at k1
    rcases l with _ | ⟨c2, l⟩
    · simp at k1
    have d1 := (isC_iff _).1 (k2 1 (by omega) (by omega))
    replace d1 : 128 ≤ c1.toNat ∧ c1.toNat ≤ 191 := d1
    have d2 := (isC_iff _).1 (k2 2 (by omega) (by omega))
    replace d2 : 128 ≤ c2.toNat ∧ c2.toNat ≤ 191 := d2
    have e : rF (c0 :: c1 :: c2 :: l) 3 3 = 64 * (64 * (c0.toNat - 224) + (c1.toNat - 128)) + (c2.toNat - 128) := rfl
    rw [e] at k4 ⊢
    have hc : 224 ≤ c0.toNat ∧ c0.toNat < 240 := by
      by_cases g1 : 240 ≤ c0.toNat
      · rw [if_pos g1] at hcls; omega
      · rw [if_neg g1] at hcls
        by_cases g2 : 224 ≤ c0.toNat
        · omega
        · rw [if_neg g2] at hcls
          by_cases g3 : 192 ≤ c0.toNat
          · rw [if_pos g3] at hcls; omega
          · rw [if_neg g3] at hcls; omega
    have hge : ¬ (64 * (64 * (c0.toNat - 224) + (c1.toNat - 128)) + (c2.toNat - 128) < 2048) := by
      intro hk
      by_cases hk2 : 64 * (64 * (c0.toNat - 224) + (c1.toNat - 128)) + (c2.toNat - 128) < 128
      · rw [if_pos hk2] at k4; exact absurd k4 (by decide)
      · rw [if_neg hk2, if_pos hk] at k4; exact absurd k4 (by decide)
    unfold encR
    rw [if_neg (by omega), if_neg hge, if_pos (by omega)]
    show _ = [c0, c1, c2]
    rw [u8_of (c := c0) (by omega), u8_of (c := c1) (by omega), u8_of (c := c2) (by omega)]
  · rcases l with _ | ⟨c1, l⟩
    · simp at k1
    rcases l with _ | ⟨c2, l⟩
    · simp at k1
    rcases l with _ | ⟨c3, l⟩
    · simp at k1
    have d1 := (isC_iff _).1 (k2 1 (by omega) (by omega))
    replace d1 : 128 ≤ c1.toNat ∧ c1.toNat ≤ 191 := d1
    have d2 := (isC_iff _).1 (k2 2 (by omega) (by omega))
    replace d2 : 128 ≤ c2.toNat ∧ c2.toNat ≤ 191 := d2
    have d3 := (isC_iff _).1 (k2 3 (by omega) (by omega))
    replace d3 : 128 ≤ c3.toNat ∧ c3.toNat ≤ 191 := d3
    have e : rF (c0 :: c1 :: c2 :: c3 :: l) 4 4 = 64 * (64 * (64 * (c0.toNat - 240) + (c1.toNat - 128)) + (c2.toNat - 128)) + (c3.toNat - 128) := rfl
    have hru1 := hru.1
    rw [e] at k4 hru1 ⊢
    have hc : 240 ≤ c0.toNat := by
      by_cases g1 : 240 ≤ c0.toNat
      · exact g1
      · rw [if_neg g1] at hcls
        by_cases g2 : 224 ≤ c0.toNat
        · rw [if_pos g2] at hcls; omega
        · rw [if_neg g2] at hcls
          by_cases g3 : 192 ≤ c0.toNat
          · rw [if_pos g3] at hcls; omega
          · rw [if_neg g3] at hcls; omega
    generalize hr : 64 * (64 * (64 * (c0.toNat - 240) + (c1.toNat - 128)) + (c2.toNat - 128)) + (c3.toNat - 128) = r at *
    have hge : ¬ (r < 65536) := by
      intro hk
      by_cases hk2 : r < 128
      · rw [if_pos hk2] at k4; exact absurd k4 (by decide)
      · rw [if_neg hk2] at k4
        by_cases hk3 : r < 2048
        · rw [if_pos hk3] at k4; exact absurd k4 (by decide)
        · rw [if_neg hk3, if_pos hk] at k4; exact absurd k4 (by decide)
    unfold encR
    rw [if_neg (by omega), if_neg (by omega), if_neg hge]
    show _ = [c0, c1, c2, c3]
    rw [u8_of (c := c0) (by omega), u8_of (c := c1) (by omega), u8_of (c := c2) (by omega), u8_of (c := c3) (by omega)]
end Go.Proofs.YtdfkbahlngijcaaDoor

namespace Go.Proofs.YtdfkbahlngijcaaDoor
open Go.RowKit
set_option linter.unusedVariables false

instance (r : Nat) : Decidable (isRune r) := by unfold isRune; infer_instance
set_option maxRecDepth 100000 in
set_option maxHeartbeats 2000000 in
theorem refRune_any (r : Nat) (w : World) : Calls Tryd.prog 137 #[.int .i64 r] w fun e w' => e = .returned (.bool (decide (isRune r))) ∧ w = w' := by
  have h0 : (0 : Int) ≤ (r : Int) := by omega
  by_cases h1 : r ≤ 1114111
  · have g1 : (r : Int) ≤ 1114111 := by omega
    by_cases h2 : r < 55296
    · have g2 : (r : Int) < 55296 := by omega
      have HE := Lib.hid (show decide (isRune r) = true from decide_eq_true ⟨h1, .inl h2⟩)
      clear h1 h2
      go_enter Tryd.func137, Tryd.ntmps137
      go_wp2_with fail
      go_ret
      exact ⟨by rw [HE.out] <;> rfl, rfl⟩
    · have g2 : ¬ ((r : Int) < 55296) := by omega
      by_cases h3 : 57343 < r
      · have g3 : (57343 : Int) < (r : Int) := by omega
        have HE := Lib.hid (show decide (isRune r) = true from decide_eq_true ⟨h1, .inr h3⟩)
        clear h1 h2 h3
        go_enter Tryd.func137, Tryd.ntmps137
        go_wp2_with fail
        go_ret
        exact ⟨by rw [HE.out] <;> rfl, rfl⟩
      · have g3 : ¬ ((57343 : Int) < (r : Int)) := by omega
        have g3d := decide_eq_false g3
        have HE := Lib.hid (show decide (isRune r) = false from decide_eq_false (fun k => by rcases k.2 with k | k <;> omega))
        clear h1 h2 h3
        go_enter Tryd.func137, Tryd.ntmps137
        go_wp2_with fail
        go_ret
        exact ⟨by rw [HE.out] <;> rfl, rfl⟩
  · have g1 : ¬ ((r : Int) ≤ 1114111) := by omega
    have g1d := decide_eq_false g1
    have HE := Lib.hid (show decide (isRune r) = false from decide_eq_false (fun k => h1 k.1))
    clear h1
    go_enter Tryd.func137, Tryd.ntmps137
    go_wp2_with fail
    go_ret
    exact ⟨by rw [HE.out] <;> rfl, rfl⟩
theorem bytes_list (w : World) (l : List UInt8) (cs : Array Value) (n : Nat) (hcs : cs = (Lib.byteCells l).toArray) (hn : l.length = n) (h : 0 < n) (hm : n ≤ maxLen) :
    (w.alloc (.cells cs 5)).ownsRow w.heap.size 5 1 (.slice (some ⟨w.heap.size, 0, none⟩) n n) n (Lib.byteCells l) := by
  subst hcs
  subst hn
  refine ⟨by simp [Lib.byteCells], .inr ⟨w.heap.size, l.length, _, rfl, Nat.le_refl _, block_new _ _, Nat.le_refl _, hm, by simp [Lib.byteCells], ?_⟩⟩
  show List.take (l.length * 1) (Lib.byteCells l) = Lib.byteCells l
  rw [List.take_of_length_le]
  simp [Lib.byteCells]
set_option maxRecDepth 100000 in
set_option maxHeartbeats 2000000 in
theorem bytes_conv (w : World) (l : List UInt8) (cs : Array Value) (n : Nat) (hcs : cs = (Lib.byteCells l).toArray) (hn : l.length = n) (h : 0 < n) (hm : n ≤ maxLen) :
    (convert 73 9 (.slice (some ⟨w.heap.size, 0, none⟩) n n)).run Tryd.prog (w.alloc (.cells cs 5)) = .ok (.string ⟨l.toArray⟩) (w.alloc (.cells cs 5)) := by
  obtain ⟨g, cap, e, hconv⟩ := own_str (bytes_list w l cs n hcs hn h hm) hn h
  injection e with e1 e2 e3
  injection e1 with e1
  injection e1 with e1
  subst e1 e3
  exact hconv
theorem quoN (r k : Nat) : Int.tdiv (r : Int) (k : Int) = ((r / k : Nat) : Int) := by rw [Int.tdiv_eq_ediv_of_nonneg (by omega)]; rfl
theorem remN (r k : Nat) : Int.tmod (r : Int) (k : Int) = ((r % k : Nat) : Int) := by rw [Int.tmod_eq_emod_of_nonneg (by omega)]; rfl
theorem wrapC (a b : Nat) (h : a + b < 256) : IntKind.u8.wrap ((a : Int) + (b : Int)) = ((UInt8.ofNat (a + b)).toNat : Int) := by
  rw [wrap8 _ (by omega) (by omega), UInt8.toNat_ofNat_of_lt' (by show a + b < 256; omega)]
  omega
def EncP (r : Nat) (w : World) (e : Ending) (w' : World) : Prop := e = .returned (.tuple #[.string ⟨(if isRune r then encR r else []).toArray⟩, .int .i64 (if isRune r then 0 else 2)]) ∧ Below w.heap.size w w'
theorem encP_of {r : Nat} {w w' : World} {l : List UInt8} (h : isRune r) (hl : encR r = l) (hb : Below w.heap.size w w') : EncP r w (.returned (.tuple #[.string ⟨l.toArray⟩, .int .i64 0])) w' :=
  ⟨by rw [if_pos h, if_pos h, hl], hb⟩
theorem encP_no {r : Nat} {w : World} (h : ¬ isRune r) (w' : World) (hb : Below w.heap.size w w') : EncP r w (.returned (.tuple #[.string ⟨#[]⟩, .int .i64 2])) w' :=
  ⟨by rw [if_neg h, if_neg h], hb⟩
set_option maxRecDepth 100000 in
set_option maxHeartbeats 4000000 in
theorem refEncode_r (r : Nat) (w : World) (hr : r ≤ 67375167) : Calls Tryd.prog 134 #[.int .i64 r] w (EncP r w) := by
  have h0 : (0 : Int) ≤ (r : Int) := by omega
  have HRU := Lib.hid (refRune_any r w)
  have HB := Lib.hid (Below.refl w.heap.size w)
  by_cases hru : isRune r
  · rw [decide_eq_true hru] at HRU
    have HP := Lib.hid (fun (l : List UInt8) (w' : World) (hl : encR r = l) (hb : Below w.heap.size w w') => encP_of hru hl hb)
    have hmax := hru.1
    clear hru
    by_cases k1 : r < 128
    · have g1 : (r : Int) < 128 := by omega
      have HL := Lib.hid (show encR r = [UInt8.ofNat r] from if_pos k1)
      have hw : IntKind.u8.wrap (r : Int) = ((UInt8.ofNat r).toNat : Int) := by
        rw [wrap8 _ (by omega) (by omega), UInt8.toNat_ofNat_of_lt' (by show r < 256; omega)]
      generalize UInt8.ofNat r = c at *
      have hconv := bytes_conv w [c] #[.int .u8 (c.toNat : Int)] 1 rfl rfl (by decide) (by decide)
      clear k1
      go_enter Tryd.func134, Tryd.ntmps134
      go_wp2_with fail
      refine (HRU.out).mono ?_; rintro e w1 ⟨rfl, rfl⟩
      go_wp2_with fail
      go_ret2
      exact HP.out _ _ HL.out (HB.out.alloc (Nat.le_refl _) _)
    · have g1 : ¬ ((r : Int) < 128) := by omega
      by_cases k2 : r < 2048
      · have g2 : (r : Int) < 2048 := by omega
        have HL := Lib.hid (show encR r = [UInt8.ofNat (192 + r / 64), UInt8.ofNat (128 + r % 64)] by unfold encR; rw [if_neg k1, if_pos k2])
        obtain ⟨q1, hq1, e1⟩ : ∃ q : Nat, Int.tdiv (r : Int) 64 = (q : Int) ∧ q = r / 64 := ⟨_, quoN r 64, rfl⟩
        obtain ⟨q2, hq2, e2⟩ : ∃ q : Nat, Int.tmod (r : Int) 64 = (q : Int) ∧ q = r % 64 := ⟨_, remN r 64, rfl⟩
        rw [← e1, ← e2] at HL
        have l1 : q1 < 32 := by omega
        have l2 : q2 < 64 := by omega
        have hw1 : IntKind.u8.wrap (192 + (q1 : Int)) = _ := wrapC 192 q1 (by omega)
        have hw2 : IntKind.u8.wrap (128 + (q2 : Int)) = _ := wrapC 128 q2 (by omega)
        generalize UInt8.ofNat (192 + q1) = c1 at *
        generalize UInt8.ofNat (128 + q2) = c2 at *
        have hconv := bytes_conv w [c1, c2] #[.int .u8 (c1.toNat : Int), .int .u8 (c2.toNat : Int)] 2 rfl rfl (by decide) (by decide)
        clear k1 k2 e1 e2
        go_enter Tryd.func134, Tryd.ntmps134
        go_wp2_with fail
        refine (HRU.out).mono ?_; rintro e w1 ⟨rfl, rfl⟩
        go_wp2_with fail
        go_ret2
        exact HP.out _ _ HL.out (HB.out.alloc (Nat.le_refl _) _)
      · have g2 : ¬ ((r : Int) < 2048) := by omega
        by_cases k3 : r < 65536
        · have g3 : (r : Int) < 65536 := by omega
          have HL := Lib.hid (show encR r = [UInt8.ofNat (224 + r / 4096), UInt8.ofNat (128 + r / 64 % 64), UInt8.ofNat (128 + r % 64)] by unfold encR; rw [if_neg k1, if_neg k2, if_pos k3])
          obtain ⟨q1, hq1, e1⟩ : ∃ q : Nat, Int.tdiv (r : Int) 4096 = (q : Int) ∧ q = r / 4096 := ⟨_, quoN r 4096, rfl⟩
          obtain ⟨q2, hq2, e2⟩ : ∃ q : Nat, Int.tdiv (r : Int) 64 = (q : Int) ∧ q = r / 64 := ⟨_, quoN r 64, rfl⟩
          obtain ⟨q3, hq3, e3⟩ : ∃ q : Nat, Int.tmod (q2 : Int) 64 = (q : Int) ∧ q = q2 % 64 := ⟨_, remN q2 64, rfl⟩
          obtain ⟨q4, hq4, e4⟩ : ∃ q : Nat, Int.tmod (r : Int) 64 = (q : Int) ∧ q = r % 64 := ⟨_, remN r 64, rfl⟩
          rw [← e1, ← e2, ← e3, ← e4] at HL
          have l1 : q1 < 16 := by omega
          have l2 : q2 < 1024 := by omega
          have l3 : q3 < 64 := by omega
          have l4 : q4 < 64 := by omega
          have hw1 : IntKind.u8.wrap (224 + (q1 : Int)) = _ := wrapC 224 q1 (by omega)
          have hw2 : IntKind.u8.wrap (128 + (q3 : Int)) = _ := wrapC 128 q3 (by omega)
          have hw3 : IntKind.u8.wrap (128 + (q4 : Int)) = _ := wrapC 128 q4 (by omega)
          generalize UInt8.ofNat (224 + q1) = c1 at *
          generalize UInt8.ofNat (128 + q3) = c2 at *
          generalize UInt8.ofNat (128 + q4) = c3 at *
          have hconv := bytes_conv w [c1, c2, c3] #[.int .u8 (c1.toNat : Int), .int .u8 (c2.toNat : Int), .int .u8 (c3.toNat : Int)] 3 rfl rfl (by decide) (by decide)
          have g1d := decide_eq_false g1
          have g2d := decide_eq_false g2
          clear k1 k2 k3 e1 e2 e3 e4 g1 g2
          go_enter Tryd.func134, Tryd.ntmps134
          go_wp2_with fail
          refine (HRU.out).mono ?_; rintro e w1 ⟨rfl, rfl⟩
          go_wp2_with fail
          go_ret2
          exact HP.out _ _ HL.out (HB.out.alloc (Nat.le_refl _) _)
        · have g3 : ¬ ((r : Int) < 65536) := by omega
          have HL := Lib.hid (show encR r = [UInt8.ofNat (240 + r / 262144), UInt8.ofNat (128 + r / 4096 % 64), UInt8.ofNat (128 + r / 64 % 64), UInt8.ofNat (128 + r % 64)] by unfold encR; rw [if_neg k1, if_neg k2, if_neg k3])
          obtain ⟨q0, hq0, e0⟩ : ∃ q : Nat, Int.tdiv (r : Int) 262144 = (q : Int) ∧ q = r / 262144 := ⟨_, quoN r 262144, rfl⟩
          obtain ⟨q1, hq1, e1⟩ : ∃ q : Nat, Int.tdiv (r : Int) 4096 = (q : Int) ∧ q = r / 4096 := ⟨_, quoN r 4096, rfl⟩
          obtain ⟨q5, hq5, e5⟩ : ∃ q : Nat, Int.tmod (q1 : Int) 64 = (q : Int) ∧ q = q1 % 64 := ⟨_, remN q1 64, rfl⟩
          obtain ⟨q2, hq2, e2⟩ : ∃ q : Nat, Int.tdiv (r : Int) 64 = (q : Int) ∧ q = r / 64 := ⟨_, quoN r 64, rfl⟩
          obtain ⟨q3, hq3, e3⟩ : ∃ q : Nat, Int.tmod (q2 : Int) 64 = (q : Int) ∧ q = q2 % 64 := ⟨_, remN q2 64, rfl⟩
          obtain ⟨q4, hq4, e4⟩ : ∃ q : Nat, Int.tmod (r : Int) 64 = (q : Int) ∧ q = r % 64 := ⟨_, remN r 64, rfl⟩
          rw [← e0, ← e1, ← e5, ← e2, ← e3, ← e4] at HL
          have l0 : q0 < 5 := by omega
          have l1 : q1 < 1024 := by omega
          have l5 : q5 < 64 := by omega
          have l2 : q2 < 65536 := by omega
          have l3 : q3 < 64 := by omega
          have l4 : q4 < 64 := by omega
          have hw0 : IntKind.u8.wrap (240 + (q0 : Int)) = _ := wrapC 240 q0 (by omega)
          have hw1 : IntKind.u8.wrap (128 + (q5 : Int)) = _ := wrapC 128 q5 (by omega)
          have hw2 : IntKind.u8.wrap (128 + (q3 : Int)) = _ := wrapC 128 q3 (by omega)
          have hw3 : IntKind.u8.wrap (128 + (q4 : Int)) = _ := wrapC 128 q4 (by omega)
          generalize UInt8.ofNat (240 + q0) = c0 at *
          generalize UInt8.ofNat (128 + q5) = c1 at *
          generalize UInt8.ofNat (128 + q3) = c2 at *
          generalize UInt8.ofNat (128 + q4) = c3 at *
          have hconv := bytes_conv w [c0, c1, c2, c3] #[.int .u8 (c0.toNat : Int), .int .u8 (c1.toNat : Int), .int .u8 (c2.toNat : Int), .int .u8 (c3.toNat : Int)] 4 rfl rfl (by decide) (by decide)
          have g1d := decide_eq_false g1
          have g2d := decide_eq_false g2
          have g3d := decide_eq_false g3
          clear k1 k2 k3 e0 e1 e2 e3 e4 e5 g1 g2 g3
          go_enter Tryd.func134, Tryd.ntmps134
          go_wp2_with fail
          refine (HRU.out).mono ?_; rintro e w1 ⟨rfl, rfl⟩
          go_wp2_with fail
          go_ret2
          exact HP.out _ _ HL.out (HB.out.alloc (Nat.le_refl _) _)
  · rw [decide_eq_false hru] at HRU
    have HP := Lib.hid (encP_no hru w HB.out)
    clear hru
    go_enter Tryd.func134, Tryd.ntmps134
    go_wp2_with fail
    refine (HRU.out).mono ?_; rintro e w1 ⟨rfl, rfl⟩
    go_wp2_with fail
    go_ret2
    exact HP.out
end Go.Proofs.YtdfkbahlngijcaaDoor

namespace Go.Proofs.YtdfkbahlngijcaaDoor
open Go.RowKit
set_option linter.unusedVariables false

def DecRef (l : List UInt8) (w : World) (e : Ending) (w' : World) : Prop :=
  ((∃ (r : Int) (m : Nat), vstep l = some m ∧ e = .returned (.tuple #[.int .i64 r, .int .i64 m, .int .i64 0])) ∨ (vstep l = none ∧ e = .returned (.tuple #[.int .i64 0, .int .i64 0, .int .i64 11]))) ∧ Below w.heap.size w w'
theorem decR_bad {l : List UInt8} {w w' : World} (h : vstep l = none) (hb : Below w.heap.size w w') : DecRef l w (.returned (.tuple #[.int .i64 0, .int .i64 0, .int .i64 11])) w' := ⟨.inr ⟨h, rfl⟩, hb⟩
theorem decR_good {l : List UInt8} {w w' : World} {m : Nat} (r : Int) (h : vstep l = some m) (hb : Below w.heap.size w w') : DecRef l w (.returned (.tuple #[.int .i64 r, .int .i64 m, .int .i64 0])) w' := ⟨.inl ⟨r, m, h, rfl⟩, hb⟩
theorem ext_take (t : ByteArray) (n : Nat) : (t.extract 0 n).data.toList = t.data.toList.take n := by
  rw [ByteArray.data_extract, Array.toList_extract]
  simp [List.extract]
theorem bs_ne {t u : ByteArray} (h : t ≠ u) : (t == u) = false := by
  show (t.data == u.data) = false
  rw [beq_eq_false_iff_ne]
  exact fun e => h (ByteArray.ext e)
theorem bs_ne' {t u : ByteArray} (h : t ≠ u) : (t.toList == u.toList) = false := by
  rw [beq_eq_false_iff_ne, ByteArray.toList_eq, ByteArray.toList_eq]
  exact fun e => h (ByteArray.ext (Array.toList_inj.1 e))
set_option maxRecDepth 100000 in
set_option maxHeartbeats 8000000 in
theorem refDecode_any (s : ByteArray) (w : World) (h0 : 0 < s.size) (hs : s.size ≤ 1048576) : Calls Tryd.prog 120 #[.string s] w (DecRef s.data.toList w) := by
  have hne := str_some (t := s) (by omega)
  have HG0 := Lib.hid (getD_at s h0)
  have HLL := Lib.hid (show s.data.toList.length = s.size from Array.length_toList ..)
  have HNN := Lib.hid (show s.data.toList ≠ [] from fun e => by have h := congrArg List.length e; rw [Array.length_toList] at h; have : s.size = 0 := h; omega)
  have hb0 : (0 : Int) ≤ (s[0].toNat : Int) := by omega
  have hb1 : (s[0].toNat : Int) < 256 := by have := u8lt s[0]; omega
  obtain ⟨n, hn⟩ : ∃ n, n = annR s[0] := ⟨_, rfl⟩
  have HVY := Lib.hid (fun h : okRef s.data.toList n => (show vstep s.data.toList = some n by
    have := ok_ref (l := s.data.toList) HNN.out (by rw [HG0.out, ← hn]; exact h)
    rw [HG0.out, ← hn] at this; exact this))
  have HVN := Lib.hid (fun h : ¬ okRef s.data.toList n => (show vstep s.data.toList = none from no_ref (l := s.data.toList) HNN.out (by rw [HG0.out, ← hn]; exact h)))
  have HN := Lib.hid hn
  have hn1 : 1 ≤ n := by rw [hn]; unfold annR; split <;> (try split) <;> (try split) <;> decide
  have hn4 : n ≤ 4 := by rw [hn]; unfold annR; split <;> (try split) <;> (try split) <;> decide
  have hs0 : (0 : Int) < (s.size : Int) := by omega
  have HF1 := Lib.hid (show rF s.data.toList n 1 = s[0].toNat - (if n = 4 then 240 else if n = 3 then 224 else if n = 2 then 192 else 0) by rw [← HG0.out]; rfl)
  clear hn
  go_enter Tryd.func120, Tryd.ntmps120
  go_upto_block 0 with (fail)
  go_cut [5, 6] (fun v5 v6 wq => v5 = .int .i64 (rF s.data.toList n 1 : Nat) ∧ v6 = .int .i64 n ∧ w = wq)
  case first =>
    by_cases g1 : 240 ≤ s[0].toNat
    · have g1i : (240 : Int) ≤ (s[0].toNat : Int) := by omega
      have HA := Lib.hid (show n = 4 by rw [HN.out]; exact if_pos g1)
      go_wp2_with fail
      go_meet
      case rel => exact ⟨by rw [HF1.out, HA.out, if_pos rfl]; congr 1; omega, by rw [HA.out] <;> rfl, rfl⟩
    · have g1i : ¬ ((240 : Int) ≤ (s[0].toNat : Int)) := by omega
      by_cases g2 : 224 ≤ s[0].toNat
      · have g2i : (224 : Int) ≤ (s[0].toNat : Int) := by omega
        have HA := Lib.hid (show n = 3 by rw [HN.out]; unfold annR; rw [if_neg g1, if_pos g2])
        go_wp2_with fail
        go_meet
        case rel => exact ⟨by rw [HF1.out, HA.out, if_neg (by decide), if_pos rfl]; congr 1; omega, by rw [HA.out] <;> rfl, rfl⟩
      · have g2i : ¬ ((224 : Int) ≤ (s[0].toNat : Int)) := by omega
        by_cases g3 : 192 ≤ s[0].toNat
        · have g3i : (192 : Int) ≤ (s[0].toNat : Int) := by omega
          have HA := Lib.hid (show n = 2 by rw [HN.out]; unfold annR; rw [if_neg g1, if_neg g2, if_pos g3])
          go_wp2_with fail
          go_meet
          case rel => exact ⟨by rw [HF1.out, HA.out, if_neg (by decide), if_neg (by decide), if_pos rfl]; congr 1; omega, by rw [HA.out] <;> rfl, rfl⟩
        · have g3i : ¬ ((192 : Int) ≤ (s[0].toNat : Int)) := by omega
          have HA := Lib.hid (show n = 1 by rw [HN.out]; unfold annR; rw [if_neg g1, if_neg g2, if_neg g3])
          go_wp2_with fail
          go_meet
          case rel => exact ⟨by rw [HF1.out, HA.out, if_neg (by decide), if_neg (by decide), if_neg (by decide)]; congr 1, by rw [HA.out] <;> rfl, rfl⟩
  case rest =>
    obtain ⟨rfl, rfl, rfl⟩ := hcut
    clear hb0 hb1
    go_wp2_with fail
    go_loop [5, 7] (fun s5 s7 => ∃ (i r : Nat), i ≤ n ∧ 1 ≤ i ∧ s7 = .int .i64 i ∧ s5 = .int .i64 r ∧ r = rF s.data.toList n i ∧ conts s.data.toList i ∧ i ≤ s.size) (fun _ s7 => n - (intOf s7).toNat)
    case atStart => exact ⟨1, _, hn1, Nat.le_refl _, rfl, rfl, rfl, fun j h1 h2 => absurd h2 (by omega), by omega⟩
    case round =>
      obtain ⟨i, r, hi, hi1, rfl, rfl, hr, hct, his⟩ := hrel
      have HR := Lib.hid hr
      have HCT := Lib.hid hct
      have hrm : r ≤ 67375167 := by rw [hr]; exact rF_most _ _ _ (by omega)
      clear hr hct
      by_cases hlt : i < n
      · have hlt' : (i : Int) < (n : Int) := by omega
        have hi0 : (0 : Int) ≤ (i : Int) := by omega
        by_cases hsz : i < s.size
        · have hsz1 : ¬ ((s.size : Int) ≤ (i : Int)) := by omega
          have hsz2 : (i : Int) < (s.size : Int) := by omega
          have hszd := decide_eq_false hsz1
          have HC := Lib.hid (refCont_any s[i] w)
          have HGI := Lib.hid (getD_at s hsz)
          by_cases hc : isC s[i] = true
          · as_aux_lemma =>
            rw [hc] at HC
            have HCT2 := Lib.hid (show conts s.data.toList (i + 1) from fun j h1 h2 => by
              rcases Nat.lt_or_ge j i with h | h
              · exact HCT.out j h1 h
              · obtain rfl : j = i := by omega
                rw [HGI.out]; exact hc)
            have HRN := Lib.hid (rF_next s.data.toList n hi1)
            have hk := (isC_iff _).1 hc
            have hk1 : (128 : Int) ≤ (s[i].toNat : Int) := by omega
            have hk2 : (s[i].toNat : Int) ≤ 191 := by omega
            have hr0 : (0 : Int) ≤ (r : Int) := by omega
            have hr1 : (r : Int) ≤ 67375167 := by omega
            clear hc hk
            go_wp2_with fail
            refine (HC.out).mono ?_; rintro e w1 ⟨rfl, rfl⟩
            go_wp2_with fail
            go_round
            case rel => exact ⟨i + 1, 64 * r + (s[i].toNat - 128), by omega, by omega, by go_num, by congr 1; omega, (by rw [HRN.out, ← HR.out, HGI.out]), HCT2.out, by omega⟩
            case measure => (simp [intOf] <;> omega)
          · as_aux_lemma =>
            rw [Bool.eq_false_iff.2 hc] at HC
            have HN2 := Lib.hid (HVN.out fun h => hc (by rw [← HGI.out]; exact h.2.1 i hi1 hlt))
            clear hc
            go_wp2_with fail
            refine (HC.out).mono ?_; rintro e w1 ⟨rfl, rfl⟩
            go_wp2_with fail
            go_ret3
            exact decR_bad HN2.out (Below.refl _ _)
        · as_aux_lemma =>
          have hsz1 : (s.size : Int) ≤ (i : Int) := by omega
          have hszd := decide_eq_true hsz1
          have HN2 := Lib.hid (HVN.out fun h => by have := h.1; rw [HLL.out] at this; omega)
          clear hsz
          go_wp2_with fail
          go_ret3
          exact decR_bad HN2.out (Below.refl _ _)
      · obtain rfl : i = n := by omega
        have hge : ¬ ((i : Int) < (i : Int)) := by omega
        have hn0 : (0 : Int) ≤ (i : Int) := by omega
        have hns : (i : Int) ≤ (s.size : Int) := by omega
        have HEN := Lib.hid (refEncode_r r w hrm)
        have HTK := Lib.hid (ext_take s i)
        clear hlt
        by_cases hru : isRune r
        · by_cases heq : encR r = s.data.toList.take i
          · as_aux_lemma =>
            have HV := Lib.hid (HVY.out ⟨by rw [HLL.out]; exact his, HCT.out, by rw [← HR.out]; exact hru, by rw [← HR.out]; exact heq⟩)
            have hE : (⟨(encR r).toArray⟩ : ByteArray) = s.extract 0 i := by
              rw [heq, ← HTK.out]
            unfold EncP at HEN
            rw [if_pos hru, if_pos hru, hE] at HEN
            have hbb : (s.extract 0 i == s.extract 0 i) = true := by show ((s.extract 0 i).data == (s.extract 0 i).data) = true; simp
            have hbn : (s.extract 0 i != s.extract 0 i) = false := by show (!(s.extract 0 i == s.extract 0 i)) = false; rw [hbb]; rfl
            clear hru heq hE
            go_wp2_with fail
            refine (HEN.out).mono ?_; rintro e w1 ⟨rfl, hb⟩
            have HB1 := Lib.hid hb
            clear hb
            go_wp2_with fail
            go_ret3
            exact decR_good _ HV.out HB1.out
          · as_aux_lemma =>
            have HV := Lib.hid (HVN.out fun h => heq (by rw [HR.out]; exact h.2.2.2))
            have hE : (⟨(encR r).toArray⟩ : ByteArray) ≠ s.extract 0 i := fun e => heq (by rw [← HTK.out, ← e])
            unfold EncP at HEN
            rw [if_pos hru, if_pos hru] at HEN
            generalize (⟨(encR r).toArray⟩ : ByteArray) = t at *
            have hbb := bs_ne hE
            have hbn := bs_ne' hE
            clear hru heq
            go_wp2_with fail
            refine (HEN.out).mono ?_; rintro e w1 ⟨rfl, hb⟩
            have HB1 := Lib.hid hb
            clear hb
            go_wp2_with fail
            go_ret3
            exact decR_bad HV.out HB1.out
        · as_aux_lemma =>
          have HV := Lib.hid (HVN.out fun h => hru (by rw [HR.out]; exact h.2.2.1))
          unfold EncP at HEN
          rw [if_neg hru, if_neg hru] at HEN
          clear hru
          go_wp2_with fail
          refine (HEN.out).mono ?_; rintro e w1 ⟨rfl, hb⟩
          have HB1 := Lib.hid hb
          clear hb
          go_wp2_with fail
          go_ret3
          exact decR_bad HV.out HB1.out
set_option maxRecDepth 100000 in
set_option maxHeartbeats 4000000 in
theorem refValid_any (s : ByteArray) (w : World) (hs : s.size ≤ 1048576) : Calls Tryd.prog 101 #[.string s] w fun e w' => e = .returned (.bool (validB s.data.toList)) ∧ Below w.heap.size w w' := by
  have HLL := Lib.hid (show s.data.toList.length = s.size from Array.length_toList ..)
  go_enter Tryd.func101, Tryd.ntmps101
  go_wp2_with fail
  go_loopw [3] (fun s3 wr => ∃ i : Nat, s3 = .int .i64 i ∧ i ≤ s.size ∧ (VL s.data.toList ↔ VL (s.data.toList.drop i)) ∧ Below w.heap.size w wr) (fun s3 _ => s.size - (intOf s3).toNat)
  case atStart => exact ⟨0, rfl, Nat.zero_le _, Iff.rfl, Below.refl _ _⟩
  case round =>
    obtain ⟨i, rfl, hi, hv, hb⟩ := hrel
    have HV := Lib.hid hv
    have HB := Lib.hid hb
    clear hv hb
    by_cases h0 : i = s.size
    · as_aux_lemma =>
      have HE := Lib.hid (show validB s.data.toList = true from validB_iff.2 (HV.out.2 (by rw [h0, ← HLL.out, List.drop_length]; exact .nil)))
      have h0' : ¬ ((i : Int) < (s.size : Int)) := by omega
      clear h0
      go_wp2_with fail
      go_ret
      exact ⟨by rw [HE.out] <;> rfl, HB.out⟩
    · as_aux_lemma =>
      have h0' : (i : Int) < (s.size : Int) := by omega
      have hi0 : (0 : Int) ≤ (i : Int) := by omega
      have hi1 : (i : Int) ≤ (s.size : Int) := by omega
      have HX := Lib.hid (ext_drop s i)
      have HSZ := Lib.hid (show (s.extract i s.size).size = s.size - i by rw [ByteArray.size_extract]; omega)
      have HD := Lib.hid (refDecode_any (s.extract i s.size) wr (by rw [HSZ.out]; omega) (by rw [HSZ.out]; omega))
      rw [HX.out] at HD
      have HNE := Lib.hid (show s.data.toList.drop i ≠ [] from fun e => h0 (by have h := congrArg List.length e; rw [List.length_drop, HLL.out] at h; simp at h; omega))
      clear h0
      go_wp2_with fail
      refine (HD.out).mono ?_; rintro e w1 ⟨hd, hb1⟩
      have HB1 := Lib.hid (below_two HB.out hb1)
      clear hb1
      rcases hd with ⟨r, m, hm, rfl⟩ | ⟨hm, rfl⟩
      · obtain ⟨-, k2, k3, -, -⟩ := vstep_some hm
        have k3' : m ≤ s.size - i := by rw [List.length_drop, HLL.out] at k3; exact k3
        have HN := Lib.hid (VL.next hm)
        have HDD := Lib.hid (show (s.data.toList.drop i).drop m = s.data.toList.drop (i + m) from List.drop_drop ..)
        have hm2 : 0 < m := by omega
        clear hm k2 k3
        go_wp2_with fail
        go_roundw
        case rel => exact ⟨i + m, by go_num, by omega, by rw [HV.out, HN.out, HDD.out], HB1.out⟩
        case measure => (simp [intOf] <;> omega)
      · have HE := Lib.hid (show validB s.data.toList = false from Bool.eq_false_iff.2 fun h => VL.none hm HNE.out (HV.out.1 (validB_iff.1 h)))
        clear hm
        go_wp2_with fail
        go_ret
        exact ⟨by rw [HE.out] <;> rfl, HB1.out⟩
end Go.Proofs.YtdfkbahlngijcaaDoor

namespace Go.Proofs.YtdfkbahlngijcaaDoor
open Go.RowKit
set_option linter.unusedVariables false

def bad1 (a b c d : Int) : Bool := !(inR a 1 16384 && (inR b 1 4294967295 && (inR c 0 8 && inR d 0 8)))
def bad2 (a b c : Int) : Bool := !(inR a 1 64 && (inR b 1 16 && inR c 1 64))
theorem cfgE_bad (x : Cf) : cfgE x = if bad1 x.slots x.gens x.clients x.readers = true then 2 else if bad2 x.queue x.batch x.feed = true then 2 else if 65536 < x.t.size then 5 else if validB x.t.data.toList = true then 0 else 11 := by
  unfold cfgE cfgOk bad1 bad2
  generalize inR x.slots 1 16384 = b1
  generalize inR x.gens 1 4294967295 = b2
  generalize inR x.clients 0 8 = b3
  generalize inR x.readers 0 8 = b4
  generalize inR x.queue 1 64 = b5
  generalize inR x.batch 1 16 = b6
  generalize inR x.feed 1 64 = b7
  cases b1 <;> cases b2 <;> cases b3 <;> cases b4 <;> cases b5 <;> cases b6 <;> cases b7 <;> simp
set_option maxRecDepth 100000 in
set_option maxHeartbeats 16000000 in
theorem refCfg_any (x : Cf) (w : World) (ht : x.t.size ≤ 140737488355328) :
    Calls Tryd.prog 75 #[.agg #[.int .i64 x.slots, .int .u64 x.gens, .int .i64 x.clients, .int .i64 x.readers, .int .i64 x.queue, .int .i64 x.batch, .int .i64 x.feed, .string x.t]] w fun e w' => e = .returned (.int .i64 (cfgE x)) ∧ Below w.heap.size w w' := by
  have HPE := Lib.hid (cfgE_bad x)
  generalize cfgE x = P at *
  obtain ⟨a, b, c, d, e', f, g, t⟩ := x
  replace ht : t.size ≤ 140737488355328 := ht
  replace HPE := Lib.hid (show P = if bad1 a b c d = true then 2 else if bad2 e' f g = true then 2 else if 65536 < t.size then 5 else if validB t.data.toList = true then 0 else 11 from HPE.out)
  have HD1 := Lib.hid (show bad1 a b c d = !(inR a 1 16384 && (inR b 1 4294967295 && (inR c 0 8 && inR d 0 8))) from rfl)
  have HD2 := Lib.hid (show bad2 e' f g = !(inR e' 1 64 && (inR f 1 16 && inR g 1 64)) from rfl)
  generalize bad1 a b c d = P1 at *
  generalize bad2 e' f g = P2 at *
  have HNB := Lib.hid (block_new w (.cells #[.int .i64 a, .int .u64 b, .int .i64 c, .int .i64 d, .int .i64 e', .int .i64 f, .int .i64 g, .string t] 38))
  have HB2 := Lib.hid ((Below.refl w.heap.size w).alloc (Nat.le_refl _) (.cells #[.int .i64 a, .int .u64 b, .int .i64 c, .int .i64 d, .int .i64 e', .int .i64 f, .int .i64 g, .string t] 38))
  have HV := Lib.hid (fun (h : t.size ≤ 1048576) => refValid_any t (w.alloc (.cells #[.int .i64 a, .int .u64 b, .int .i64 c, .int .i64 d, .int .i64 e', .int .i64 f, .int .i64 g, .string t] 38)) h)
  simp only at ht ⊢
  go_enter Tryd.func75, Tryd.ntmps75
  go_upto_region 1 with (fail)
  go_cut [40] from 3 to 40 (fun v wq => v = .bool P1 ∧ wq = w.alloc (.cells #[.int .i64 a, .int .u64 b, .int .i64 c, .int .i64 d, .int .i64 e', .int .i64 f, .int .i64 g, .string t] 38))
  case first =>
    by_cases g0 : a < 1
    · have HX := Lib.hid (show P1 = true by rw [HD1.out]; simp [inR]; omega)
      go_wp2_with fail
      go_meet
      case rel => exact ⟨by rw [HX.out] <;> rfl, rfl⟩
    · have g0d := decide_eq_false g0
      by_cases g1 : 16384 < a
      · have HX := Lib.hid (show P1 = true by rw [HD1.out]; simp [inR]; omega)
        go_wp2_with fail
        go_meet
        case rel => exact ⟨by rw [HX.out] <;> rfl, rfl⟩
      · have g1d := decide_eq_false g1
        by_cases g2 : b < 1
        · have HX := Lib.hid (show P1 = true by rw [HD1.out]; simp [inR]; omega)
          go_wp2_with fail
          go_meet
          case rel => exact ⟨by rw [HX.out] <;> rfl, rfl⟩
        · have g2d := decide_eq_false g2
          by_cases g3 : 4294967295 < b
          · have HX := Lib.hid (show P1 = true by rw [HD1.out]; simp [inR]; omega)
            go_wp2_with fail
            go_meet
            case rel => exact ⟨by rw [HX.out] <;> rfl, rfl⟩
          · have g3d := decide_eq_false g3
            by_cases g4 : c < 0
            · have HX := Lib.hid (show P1 = true by rw [HD1.out]; simp [inR]; omega)
              go_wp2_with fail
              go_meet
              case rel => exact ⟨by rw [HX.out] <;> rfl, rfl⟩
            · have g4d := decide_eq_false g4
              by_cases g5 : 8 < c
              · have HX := Lib.hid (show P1 = true by rw [HD1.out]; simp [inR]; omega)
                go_wp2_with fail
                go_meet
                case rel => exact ⟨by rw [HX.out] <;> rfl, rfl⟩
              · have g5d := decide_eq_false g5
                by_cases g6 : d < 0
                · have HX := Lib.hid (show P1 = true by rw [HD1.out]; simp [inR]; omega)
                  go_wp2_with fail
                  go_meet
                  case rel => exact ⟨by rw [HX.out] <;> rfl, rfl⟩
                · have g6d := decide_eq_false g6
                  by_cases g7 : 8 < d
                  · have HX := Lib.hid (show P1 = true by rw [HD1.out]; simp [inR]; omega)
                    go_wp2_with fail
                    go_meet
                    case rel => exact ⟨by rw [HX.out] <;> rfl, rfl⟩
                  · have g7d := decide_eq_false g7
                    have HX := Lib.hid (show P1 = false by rw [HD1.out]; simp [inR]; omega)
                    go_wp2_with fail
                    go_meet
                    case rel => exact ⟨by rw [HX.out] <;> rfl, rfl⟩
  case rest =>
    obtain ⟨rfl, rfl⟩ := hcut
    rcases P1 with _ | _
    · go_upto_region 3 with (fail)
      go_cut [68] from 41 to 68 (fun v wq => v = .bool P2 ∧ wq = w.alloc (.cells #[.int .i64 a, .int .u64 b, .int .i64 c, .int .i64 d, .int .i64 e', .int .i64 f, .int .i64 g, .string t] 38))
      case first =>
        by_cases g0 : e' < 1
        · have HX := Lib.hid (show P2 = true by rw [HD2.out]; simp [inR]; omega)
          go_wp2_with fail
          go_meet
          case rel => exact ⟨by rw [HX.out] <;> rfl, rfl⟩
        · have g0d := decide_eq_false g0
          by_cases g1 : 64 < e'
          · have HX := Lib.hid (show P2 = true by rw [HD2.out]; simp [inR]; omega)
            go_wp2_with fail
            go_meet
            case rel => exact ⟨by rw [HX.out] <;> rfl, rfl⟩
          · have g1d := decide_eq_false g1
            by_cases g2 : f < 1
            · have HX := Lib.hid (show P2 = true by rw [HD2.out]; simp [inR]; omega)
              go_wp2_with fail
              go_meet
              case rel => exact ⟨by rw [HX.out] <;> rfl, rfl⟩
            · have g2d := decide_eq_false g2
              by_cases g3 : 16 < f
              · have HX := Lib.hid (show P2 = true by rw [HD2.out]; simp [inR]; omega)
                go_wp2_with fail
                go_meet
                case rel => exact ⟨by rw [HX.out] <;> rfl, rfl⟩
              · have g3d := decide_eq_false g3
                by_cases g4 : g < 1
                · have HX := Lib.hid (show P2 = true by rw [HD2.out]; simp [inR]; omega)
                  go_wp2_with fail
                  go_meet
                  case rel => exact ⟨by rw [HX.out] <;> rfl, rfl⟩
                · have g4d := decide_eq_false g4
                  by_cases g5 : 64 < g
                  · have HX := Lib.hid (show P2 = true by rw [HD2.out]; simp [inR]; omega)
                    go_wp2_with fail
                    go_meet
                    case rel => exact ⟨by rw [HX.out] <;> rfl, rfl⟩
                  · have g5d := decide_eq_false g5
                    have HX := Lib.hid (show P2 = false by rw [HD2.out]; simp [inR]; omega)
                    go_wp2_with fail
                    go_meet
                    case rel => exact ⟨by rw [HX.out] <;> rfl, rfl⟩
      case rest =>
        obtain ⟨rfl, rfl⟩ := hcut
        rcases P2 with _ | _
        · by_cases h1 : 65536 < t.size
          · have h1i : (65536 : Int) < (t.size : Int) := by omega
            have HX := Lib.hid (show P = 5 by rw [HPE.out, if_neg (by decide), if_neg (by decide), if_pos h1])
            go_wp2_with fail
            go_ret
            exact ⟨by rw [HX.out] <;> rfl, HB2.out⟩
          · have h1i : ¬ ((65536 : Int) < (t.size : Int)) := by omega
            have HV := Lib.hid (HV.out (by omega))
            have HX := Lib.hid (show P = if validB t.data.toList = true then 0 else 11 by rw [HPE.out, if_neg (by decide), if_neg (by decide), if_neg h1])
            rcases hv : validB t.data.toList with _ | _
            · rw [hv] at HV HX
              clear hv h1
              go_wp2_with fail
              refine (HV.out).mono ?_; rintro e w1 ⟨rfl, hb⟩
              have HB3 := Lib.hid (below_two HB2.out hb)
              clear hb
              go_wp2_with fail
              go_ret
              exact ⟨by rw [HX.out] <;> rfl, HB3.out⟩
            · rw [hv] at HV HX
              clear hv h1
              go_wp2_with fail
              refine (HV.out).mono ?_; rintro e w1 ⟨rfl, hb⟩
              have HB3 := Lib.hid (below_two HB2.out hb)
              clear hb
              go_wp2_with fail
              go_ret
              exact ⟨by rw [HX.out] <;> rfl, HB3.out⟩
        · have HX := Lib.hid (show P = 2 by rw [HPE.out, if_neg (by decide), if_pos rfl])
          go_wp2_with fail
          go_ret
          exact ⟨by rw [HX.out] <;> rfl, HB2.out⟩
    · have HX := Lib.hid (show P = 2 by rw [HPE.out, if_pos rfl])
      go_wp2_with fail
      go_ret
      exact ⟨by rw [HX.out] <;> rfl, HB2.out⟩
end Go.Proofs.YtdfkbahlngijcaaDoor

