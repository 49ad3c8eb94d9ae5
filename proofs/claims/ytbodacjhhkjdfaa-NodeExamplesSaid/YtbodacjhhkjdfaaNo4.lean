/- The plain law of encodings: Decode inverts Encode, and Encode inverts Decode. -/
import Derived.Test.YtbodacjhhkjdfaaNo1
import Derived.Test.YtbodacjhhkjdfaaNm2
namespace Go.Proofs.Ytbodacjhhkjdfaa
open Go.RowKit

def valL (l : List UInt8) : Nat := l.foldl (fun a b => a * 256 + b.toNat) 0
theorem val_acc : ∀ (l : List UInt8) (a : Nat), l.foldl (fun a b => a * 256 + b.toNat) a = a * 256 ^ l.length + valL l
  | [], a => by simp [valL]
  | b :: l, a => by
    unfold valL
    rw [List.foldl_cons, List.foldl_cons, val_acc l, val_acc l, List.length_cons, Nat.pow_succ]
    rw [Nat.add_mul, Nat.mul_assoc, Nat.mul_comm 256, Nat.zero_mul, Nat.zero_add, Nat.add_assoc]
theorem val_cons (b : UInt8) (l : List UInt8) : valL (b :: l) = b.toNat * 256 ^ l.length + valL l := by
  have := val_acc l b.toNat
  unfold valL at this ⊢
  rw [List.foldl_cons, Nat.zero_mul, Nat.zero_add]
  exact this
theorem val_lt : ∀ l : List UInt8, valL l < 256 ^ l.length
  | [] => by simp [valL]
  | b :: l => by
    have h := val_lt l
    have hb := b.toNat_lt
    rw [val_cons, List.length_cons, Nat.pow_succ]
    have : b.toNat * 256 ^ l.length ≤ 255 * 256 ^ l.length := Nat.mul_le_mul_right _ (by omega)
    omega
theorem getV_val (s : ByteArray) : getV s = valL s.data.toList := by
  unfold getV getTo valL
  have e : s.data.toList.take s.size = s.data.toList := List.take_of_length_le (Nat.le_of_eq rfl)
  rw [e]
theorem val_be : ∀ m v, valL (be m v) = v % 256 ^ m
  | 0, v => by simp [be, valL, Nat.mod_one]
  | m + 1, v => by
    unfold be
    rw [val_cons, val_be m v, be_len, UInt8.toNat_ofNat']
    have h := Nat.mod_pow_succ (b := 256) (k := m) (x := v)
    rw [h, Nat.mod_eq_of_lt (Nat.mod_lt _ (by decide)), Nat.mul_comm, Nat.add_comm]
theorem be_mod : ∀ m x v, be m (x * 256 ^ m + v) = be m v
  | 0, _, _ => rfl
  | m + 1, x, v => by
    unfold be
    have e : x * 256 ^ (m + 1) + v = (x * 256) * 256 ^ m + v := by rw [Nat.pow_succ, Nat.mul_assoc x 256, Nat.mul_comm 256]
    have hp : 0 < 256 ^ m := Nat.pow_pos (by decide)
    rw [e, be_mod m (x * 256) v]
    congr 1
    rw [Nat.add_comm, Nat.add_mul_div_right _ _ hp, Nat.add_mul_mod_self_right]
theorem be_val : ∀ l : List UInt8, be l.length (valL l) = l
  | [] => rfl
  | b :: l => by
    rw [List.length_cons, val_cons]
    unfold be
    rw [be_mod, be_val l]
    congr 1
    have hp : 0 < 256 ^ l.length := Nat.pow_pos (by decide)
    rw [Nat.add_comm, Nat.add_mul_div_right _ _ hp, Nat.div_eq_of_lt (val_lt l), Nat.zero_add, Nat.mod_eq_of_lt b.toNat_lt]
    exact UInt8.ofNat_toNat

theorem ex_list (s : ByteArray) (i j : Nat) : (s.extract i j).data.toList = (s.data.toList.drop i).take (j - i) := by
  rw [ByteArray.data_extract, Array.toList_extract, List.extract_eq_take_drop]
theorem ba_ext {s t : ByteArray} (h : s.data.toList = t.data.toList) : s = t := ByteArray.ext (Array.toList_inj.1 h)
theorem ba_size (s : ByteArray) : s.size = s.data.toList.length := rfl

/-! ### Decode inverts Encode -/
theorem kidsTo_get (s : ByteArray) (k j : Nat) (h : j < (kidsTo s k).length) : (kidsTo s k)[j] = kidAt s (1 + 12 * j) := by simp [kidsTo]
theorem flat_at : ∀ (l : List Kid) (j : Nat) (h : j < l.length), ∃ r, (l.flatMap encK).drop (12 * j) = encK l[j] ++ r
  | [], j, h => absurd h (Nat.not_lt_zero _)
  | k :: l, 0, h => ⟨l.flatMap encK, by simp⟩
  | k :: l, j + 1, h => by
    obtain ⟨r, hr⟩ := flat_at l j (by simpa using h)
    refine ⟨r, ?_⟩
    rw [List.flatMap_cons, show 12 * (j + 1) = (encK k).length + 12 * j by rw [encK_len]; omega, List.drop_length_add_append]
    exact hr
theorem nat_id {z : Int} (h : 0 ≤ z) : ((z.toNat : Nat) : Int) = z := by omega
theorem kid_back {s : ByteArray} {i : Nat} {k : Kid} {r : List UInt8} (h : s.data.toList.drop i = encK k ++ r) (h0 : 0 ≤ k.1 ∧ k.1 < 281474976710656) (h1 : 0 ≤ k.2.1 ∧ k.2.1 < 65536) (h2 : 0 ≤ k.2.2.1 ∧ k.2.2.1 < 65536) (h3 : 0 ≤ k.2.2.2 ∧ k.2.2.2 < 65536) : kidAt s i = k := by
  obtain ⟨a, b, c, d⟩ := k
  simp only at h0 h1 h2 h3
  have l0 : (be 6 a.toNat).length = 6 := be_len _ _
  have l1 : (be 2 b.toNat).length = 2 := be_len _ _
  have l2 : (be 2 c.toNat).length = 2 := be_len _ _
  have l3 : (be 2 d.toNat).length = 2 := be_len _ _
  have e : s.data.toList.drop i = be 6 a.toNat ++ (be 2 b.toNat ++ (be 2 c.toNat ++ (be 2 d.toNat ++ r))) := by
    rw [h]; unfold encK; simp only [List.append_assoc]
  have e6 : s.data.toList.drop (i + 6) = be 2 b.toNat ++ (be 2 c.toNat ++ (be 2 d.toNat ++ r)) := by
    rw [← List.drop_drop, e, List.drop_left' l0]
  have e8 : s.data.toList.drop (i + 8) = be 2 c.toNat ++ (be 2 d.toNat ++ r) := by
    rw [show i + 8 = i + 6 + 2 by omega, ← List.drop_drop, e6, List.drop_left' l1]
  have e10 : s.data.toList.drop (i + 10) = be 2 d.toNat ++ r := by
    rw [show i + 10 = i + 8 + 2 by omega, ← List.drop_drop, e8, List.drop_left' l2]
  have g : ∀ (p q m v : Nat) (t : List UInt8), s.data.toList.drop p = be m v ++ t → q - p = m → v < 256 ^ m → getV (s.extract p q) = v := by
    intro p q m v t hd hq hv
    rw [getV_val, ex_list, hd, hq, List.take_left' (be_len m v), val_be, Nat.mod_eq_of_lt hv]
  unfold kidAt
  rw [g i (i + 6) 6 _ _ e (by omega) (by omega), g (i + 6) (i + 8) 2 _ _ e6 (by omega) (by omega), g (i + 8) (i + 10) 2 _ _ e8 (by omega) (by omega), g (i + 10) (i + 12) 2 _ _ e10 (by omega) (by omega)]
  rw [nat_id h0.1, nat_id h1.1, nat_id h2.1, nat_id h3.1]
theorem hOK_lt {h : Int} (hk : hOK h) : 0 ≤ h ∧ h < 281474976710656 := by unfold hOK at hk; omega

theorem part_up {l : List Kid} (h : tame l) (hm : ∀ x ∈ l, 0 ≤ x.2.1) : ∀ k, k ≤ l.length → ∀ j (hj : j < l.length), j < k → l[j].2.1 ≤ (sumM (msTo l k)).1
  | 0, _, _, _, h => absurd h (Nat.not_lt_zero _)
  | k + 1, hk, j, hj, hjk => by
    have hs := (tame_step h k (by omega)).1
    have hp := (tame_sum h k (by omega)).1.1
    have h0 := hm _ (List.getElem_mem (show k < l.length by omega))
    rw [hs]
    rcases Nat.lt_or_ge j k with e | e
    · have := part_up h hm k (by omega) j hj e
      omega
    · obtain rfl : j = k := by omega
      omega
/-- beside a child there is another one of at least 8 bytes -/
theorem two_le {l : List Kid} (h : tame l) (h2 : 2 ≤ l.length) {m : Nat} (hm : ∀ x ∈ l, kidOK m x) (hb : 8 ≤ (bnd m).1) (j : Nat) (hj : j < l.length) : l[j].2.1 + 8 ≤ (sumM (msTo l l.length)).1 := by
  have hk : ∀ x ∈ l, 8 ≤ x.2.1 := fun x hx => by have := (hm x hx).2.1; omega
  have h0 : ∀ x ∈ l, 0 ≤ x.2.1 := fun x hx => by have := hk x hx; omega
  have hs := (tame_step h (l.length - 1) (by omega)).1
  rw [show l.length - 1 + 1 = l.length by omega] at hs
  have hl := hk _ (List.getElem_mem (show l.length - 1 < l.length by omega))
  rcases Nat.lt_or_ge j (l.length - 1) with e | e
  · have := part_up h h0 (l.length - 1) (by omega) j hj e
    omega
  · obtain rfl : j = l.length - 1 := by omega
    have := part_up h h0 (l.length - 1) (by omega) 0 (by omega) (by omega)
    have := hk _ (List.getElem_mem (show 0 < l.length by omega))
    omega

theorem decode_encode {x : Nd} (hc : checkN x = 0) : decN (encN x) = x ∧ decE (encN x) = 0 := by
  have key : 0 < (encN x).size ∧ (hdN (encN x) = 0 ∨ ((encN x).size - 1) % 12 = 0) ∧ decX (encN x) = x := by
    rcases formed_cases (checkN_zero hc).1 with ⟨h1, h2, h3, h4⟩ | ⟨h0, h1, h2, h3, h4, h5, h6⟩
    · have e : encN x = ⟨#[0]⟩ ++ x.text := by unfold encN; rw [if_pos hc, if_pos h1]
      have el : (encN x).data.toList = 0 :: x.text.data.toList := by rw [e]; simp
      have hd : hdN (encN x) = 0 := by unfold hdN; rw [el]; rfl
      refine ⟨by rw [ba_size, el]; simp, .inl hd, ?_⟩
      unfold decX
      rw [if_pos hd]
      obtain ⟨h, t, l⟩ := x
      simp only at h1 h4 el ⊢
      subst h1 h4
      congr 1
      apply ba_ext
      rw [ex_list, el, ba_size, el]
      simp
      exact List.take_of_length_le (Nat.le_of_eq rfl)
    · have e : encN x = ⟨(encL x).toArray⟩ := by unfold encN; rw [if_pos hc, if_neg h0]
      have el : (encN x).data.toList = encL x := by rw [e]
      have hd : hdN (encN x) = x.h.toNat := by
        unfold hdN; rw [el]
        show (UInt8.ofNat x.h.toNat).toNat = _
        rw [UInt8.toNat_ofNat']
        exact Nat.mod_eq_of_lt (by omega)
      have hlen : (encN x).size = 1 + 12 * x.kids.length := by
        rw [ba_size, el]
        unfold encL
        rw [List.length_cons, flat_encK_len]; omega
      have hm : ((encN x).size - 1) / 12 = x.kids.length := by omega
      refine ⟨by omega, .inr (by omega), ?_⟩
      unfold decX
      rw [if_neg (by rw [hd]; omega), hm, hd]
      have hk : kidsTo (encN x) x.kids.length = x.kids := by
        apply List.ext_getElem
        · rw [kidsTo_len]
        · intro j hj hj'
          rw [kidsTo_get]
          obtain ⟨r, hr⟩ := flat_at x.kids j hj'
          obtain ⟨k0, k1, k2, k3, k4, k5, k6⟩ := h6 _ (List.getElem_mem hj')
          have hb := bnd_pos (x.h - 1).toNat (by omega)
          have hs : (x.kids[j]).2.1 < 65536 := by
            have hT := (checkN_zero hc).2
            rw [sumN_inner h0] at hT
            have ht := formed_tame (checkN_zero hc).1
            have hge := two_le ht h4 h6 hb.1 j hj'
            rw [msTo_end] at hge
            omega
          refine kid_back (r := r) ?_ (hOK_lt k0) ⟨by omega, hs⟩ ⟨by omega, by omega⟩ ⟨by omega, by omega⟩
          rw [el]
          unfold encL
          rw [show 1 + 12 * j = 12 * j + 1 by omega, List.drop_succ_cons]
          exact hr
      rw [hk]
      obtain ⟨h, t, l⟩ := x
      simp only at h1 h3 ⊢
      subst h3
      rw [nat_id (by omega)]
  have hok : decOK (encN x) := ⟨key.1, key.2.1, by rw [key.2.2]; exact hc⟩
  exact ⟨by rw [(decN_ok hok).1, key.2.2], (decN_ok hok).2⟩

theorem encode_inj {x y : Nd} (hx : checkN x = 0) (hy : checkN y = 0) : encN x = encN y ↔ x = y :=
  ⟨fun h => by rw [← (decode_encode hx).1, h, (decode_encode hy).1], fun h => by rw [h]⟩

/-! ### Encode inverts Decode -/
theorem chunks : ∀ (m : Nat) (l : List UInt8), l.length = 12 * m → l = (List.range m).flatMap fun j => (l.drop (12 * j)).take 12
  | 0, l, h => by simp at h; subst h; rfl
  | m + 1, l, h => by
    have h1 : (l.take (12 * m)).length = 12 * m := by rw [List.length_take]; omega
    have ih := chunks m (l.take (12 * m)) h1
    rw [List.range_succ, List.flatMap_append, List.flatMap_singleton]
    have e : (List.range m).flatMap (fun j => (l.drop (12 * j)).take 12) = (List.range m).flatMap fun j => ((l.take (12 * m)).drop (12 * j)).take 12 := by
      rw [List.flatMap_def, List.flatMap_def]
      congr 1
      apply List.map_congr_left
      intro j hj
      rw [List.mem_range] at hj
      rw [List.drop_take, List.take_take, Nat.min_eq_left (by omega)]
    rw [e, ← ih, List.take_of_length_le (l := l.drop (12 * m)) (by rw [List.length_drop]; omega), List.take_append_drop]
theorem enc_kidAt (s : ByteArray) (i : Nat) (h : i + 12 ≤ s.size) : encK (kidAt s i) = (s.data.toList.drop i).take 12 := by
  have g : ∀ p q m : Nat, q - p = m → q ≤ s.size → be m (getV (s.extract p q)) = (s.data.toList.drop p).take m := by
    intro p q m hm hq
    rw [getV_val]
    have hl : (s.extract p q).data.toList.length = m := by rw [← ba_size, ex_size _ _ _ hq, hm]
    have := be_val (s.extract p q).data.toList
    rw [hl] at this
    rw [this, ex_list, hm]
  unfold encK kidAt
  simp only [Int.toNat_natCast]
  rw [g i (i + 6) 6 (by omega) (by omega), g (i + 6) (i + 8) 2 (by omega) (by omega), g (i + 8) (i + 10) 2 (by omega) (by omega), g (i + 10) (i + 12) 2 (by omega) (by omega)]
  have t1 : ∀ (L : List UInt8) (a b : Nat), L.take a ++ (L.drop a).take b = L.take (a + b) := fun L a b => by rw [List.take_add]
  rw [← List.drop_drop (i := 6) (j := i), show i + 8 = i + (6 + 2) by omega, show i + 10 = i + (6 + 2 + 2) by omega, ← List.drop_drop (j := i) (i := 6 + 2), ← List.drop_drop (j := i) (i := 6 + 2 + 2), t1, t1, t1]
theorem encode_decode {s : ByteArray} (h : decOK s) : encN (decN s) = s ∧ checkN (decN s) = 0 := by
  rw [(decN_ok h).1]
  obtain ⟨h1, h2, hc⟩ := h
  refine ⟨?_, hc⟩
  have hcons : s.data.toList = UInt8.ofNat (hdN s) :: s.data.toList.drop 1 := by
    unfold hdN
    rcases e : s.data.toList with _ | ⟨a, l⟩
    · rw [ba_size, e] at h1; simp at h1
    · simp
  by_cases hh : hdN s = 0
  · have hx : decX s = ⟨0, s.extract 1 s.size, []⟩ := if_pos hh
    rw [hx] at hc ⊢
    unfold encN
    rw [if_pos hc, if_pos rfl]
    apply ba_ext
    have : (⟨#[0]⟩ ++ s.extract 1 s.size : ByteArray).data.toList = 0 :: (s.extract 1 s.size).data.toList := by simp
    rw [this, ex_list]
    rw [List.take_of_length_le (by rw [List.length_drop, ← ba_size]; exact Nat.le_refl _)]
    rw [hh] at hcons
    exact hcons.symm
  · have hx : decX s = ⟨hdN s, ⟨#[]⟩, kidsTo s ((s.size - 1) / 12)⟩ := if_neg hh
    have hrem : (s.size - 1) % 12 = 0 := by exact h2.resolve_left hh
    rw [hx] at hc ⊢
    unfold encN
    rw [if_pos hc, if_neg (by simp only; omega)]
    apply ba_ext
    show encL _ = _
    unfold encL
    simp only [Int.toNat_natCast]
    rw [hcons]
    congr 1
    have hl : (s.data.toList.drop 1).length = 12 * ((s.size - 1) / 12) := by rw [List.length_drop, ← ba_size]; omega
    rw [chunks _ _ hl]
    unfold kidsTo
    rw [List.flatMap_def, List.flatMap_def, List.map_map]
    congr 1
    apply List.map_congr_left
    intro j hj
    rw [List.mem_range] at hj
    show encK (kidAt s (1 + 12 * j)) = _
    rw [enc_kidAt s _ (by omega), List.drop_drop]
end Go.Proofs.Ytbodacjhhkjdfaa
