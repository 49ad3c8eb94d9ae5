/- Diff: valid UTF-8: plain laws; the program's Valid: its walk. -/
import Derived.Test.YtdfkbahlngijcaaDoorHh
namespace Go.Proofs.YtdfkbahlngijcaaDoor
open Go.RowKit
set_option linter.unusedVariables false

inductive VL : List UInt8 → Prop
  | nil : VL []
  | step {l : List UInt8} {n : Nat} (h : vstep l = some n) (k : VL (l.drop n)) : VL l
theorem vstep_some {l : List UInt8} {n : Nat} (h : vstep l = some n) : n = annN (l.getD 0 0) ∧ okRune l n := by
  by_cases k : okRune l (annN (l.getD 0 0))
  · rw [vstep_yes k] at h
    injection h with h
    subst h
    exact ⟨rfl, k⟩
  · rw [vstep_no k] at h; cases h
theorem VL.next {l : List UInt8} {n : Nat} (h : vstep l = some n) : VL l ↔ VL (l.drop n) := by
  constructor
  · intro k
    cases k with
    | nil =>
      have := (vstep_some h).2.2.1
      simp at this
      exact absurd this (vstep_some h).2.1
    | step h2 k2 =>
      rw [h] at h2
      injection h2 with h2
      rw [h2]; exact k2
  · exact fun k => .step h k
theorem VL.none {l : List UInt8} (h : vstep l = Option.none) (h0 : l ≠ []) : ¬ VL l := by
  intro k
  cases k with
  | nil => exact h0 rfl
  | step h2 _ => rw [h] at h2; cases h2
theorem rN_congr {l l' : List UInt8} {n : Nat} (h : ∀ i, i < n → l'.getD i 0 = l.getD i 0) : ∀ i, i ≤ n → rN l' n i = rN l n i
  | 0, _ => rfl
  | 1, hi => by
    show (if 1 < n then _ else _) = (if 1 < n then _ else _)
    rw [h 0 (by omega)]
  | i + 2, hi => by
    rw [rN_next l' n (by omega), rN_next l n (by omega), rN_congr h (i + 1) (by omega), h (i + 1) (by omega)]
theorem vstep_take {l l' : List UInt8} {n : Nat} (h : vstep l = some n) (e : l'.take n = l.take n) : vstep l' = some n := by
  obtain ⟨h1, h2, h3, h4, h5⟩ := vstep_some h
  have hl : n ≤ l'.length := by
    have := congrArg List.length e
    rw [List.length_take, List.length_take] at this
    omega
  have hg : ∀ i, i < n → l'.getD i 0 = l.getD i 0 := fun i hi => by
    rw [List.getD_eq_getElem?_getD, List.getD_eq_getElem?_getD]
    have := congrArg (fun t => t[i]?) e
    simp only [List.getElem?_take_of_lt hi] at this
    rw [this]
  have h0 : n = annN (l'.getD 0 0) := by rw [hg 0 (by omega)]; exact h1
  have hok : okRune l' n := ⟨h2, hl, fun j a b => by rw [hg j b]; exact h4 j a b, by rw [rN_congr hg n (Nat.le_refl _)]; exact h5⟩
  rw [h0] at hok ⊢
  exact vstep_yes hok
theorem VL.app {u v : List UInt8} (h : VL u) (k : VL v) : VL (u ++ v) := by
  induction h with
  | nil => exact k
  | @step l n h1 _ ih =>
    have hn := (vstep_some h1).2.2.1
    refine .step (vstep_take h1 (List.take_append_of_le_length hn)) ?_
    rw [List.drop_append_of_le_length hn]
    exact ih
def bndL (l : List UInt8) (p : Nat) : Prop := p = l.length ∨ (p < l.length ∧ isC (l.getD p 0) = false)
theorem getD_drop (l : List UInt8) (n i : Nat) : (l.drop n).getD i 0 = l.getD (n + i) 0 := by
  rw [List.getD_eq_getElem?_getD, List.getD_eq_getElem?_getD, List.getElem?_drop]
theorem VL.cut {l : List UInt8} (h : VL l) : ∀ p, bndL l p → VL (l.take p) ∧ VL (l.drop p) := by
  induction h with
  | nil => exact fun p _ => ⟨by rw [List.take_nil]; exact .nil, by rw [List.drop_nil]; exact .nil⟩
  | @step l n h1 h2 ih =>
    intro p hp
    obtain ⟨k1, k2, k3, k4, k5⟩ := vstep_some h1
    rcases Nat.eq_zero_or_pos p with e | e
    · subst e
      exact ⟨by rw [List.take_zero]; exact .nil, .step h1 h2⟩
    · rcases Nat.lt_or_ge p n with hpn | hpn
      · rcases hp with hp | ⟨_, hp⟩
        · omega
        · rw [k4 p (by omega) hpn] at hp; cases hp
      · have hb : bndL (l.drop n) (p - n) := by
          rcases hp with hp | ⟨hp1, hp2⟩
          · exact .inl (by rw [List.length_drop]; omega)
          · exact .inr ⟨by rw [List.length_drop]; omega, by rw [getD_drop, show n + (p - n) = p by omega]; exact hp2⟩
        obtain ⟨i1, i2⟩ := ih (p - n) hb
        refine ⟨.step (vstep_take h1 (by rw [List.take_take, Nat.min_eq_left hpn])) ?_, ?_⟩
        · rw [List.drop_take]
          exact i1
        · rw [List.drop_drop, show n + (p - n) = p by omega] at i2
          exact i2
/-- the bytes between two boundaries -/
theorem VL.mid {l : List UInt8} (h : VL l) {p q : Nat} (hpq : p ≤ q) (hp : bndL l p) (hq : bndL l q) : VL ((l.drop p).take (q - p)) := by
  have h1 := (h.cut p hp).2
  refine (h1.cut (q - p) ?_).1
  rcases hq with hq | ⟨hq1, hq2⟩
  · exact .inl (by rw [List.length_drop]; omega)
  · exact .inr ⟨by rw [List.length_drop]; omega, by rw [getD_drop, show p + (q - p) = q by omega]; exact hq2⟩
theorem bnd_list (s : ByteArray) (p : Nat) : bnd s p = true ↔ bndL s.data.toList p := by
  have hl : s.data.toList.length = s.size := Array.length_toList ..
  unfold bnd bndL
  rw [hl]
  by_cases h : p < s.size
  · rw [dif_pos h, getD_at s h]
    constructor
    · exact fun k => .inr ⟨h, by simpa using k⟩
    · rintro (k | ⟨_, k⟩)
      · omega
      · rw [k]; rfl
  · rw [dif_neg h]
    constructor
    · exact fun k => .inl (of_decide_eq_true k)
    · rintro (k | ⟨k, _⟩)
      · exact decide_eq_true k
      · exact absurd k h
open Classical in
noncomputable def validB (l : List UInt8) : Bool := decide (VL l)
open Classical in
theorem validB_iff {l : List UInt8} : validB l = true ↔ VL l := by unfold validB; exact decide_eq_true_iff
def strN : Value → Nat
  | .string t => t.size
  | _ => 0
theorem ext_drop (t : ByteArray) (m : Nat) : (t.extract m t.size).data.toList = t.data.toList.drop m := by
  rw [ByteArray.data_extract, Array.toList_extract]
  have hl : t.data.toList.length = t.size := Array.length_toList ..
  show (t.data.toList.drop m).take (t.size - m) = _
  rw [List.take_of_length_le]
  rw [List.length_drop, hl]
  exact Nat.le_refl _
set_option maxRecDepth 100000 in
set_option maxHeartbeats 4000000 in
theorem valid_str (s : ByteArray) (w : World) (hs : s.size ≤ 1048576) : Calls Tryd.prog 87 #[.string s] w fun e w' => e = .returned (.bool (validB s.data.toList)) ∧ w = w' := by
  go_enter Tryd.func87, Tryd.ntmps87
  go_wp2_with fail
  go_loop [0] (fun s0 => ∃ t : ByteArray, s0 = .string t ∧ t.size ≤ s.size ∧ (VL s.data.toList ↔ VL t.data.toList)) (fun s0 => strN s0)
  case atStart => exact ⟨s, rfl, Nat.le_refl _, Iff.rfl⟩
  case round =>
    obtain ⟨t, rfl, ht, hv⟩ := hrel
    have HV := Lib.hid hv
    clear hv
    by_cases h0 : t.size = 0
    · as_aux_lemma =>
      have HE := Lib.hid (show validB s.data.toList = true from validB_iff.2 (HV.out.2 (by rw [str_empty h0]; exact .nil)))
      obtain rfl := str_empty h0
      clear h0
      go_wp2_with fail
      go_ret
      exact ⟨by rw [HE.out] <;> rfl, rfl⟩
    · as_aux_lemma =>
      have hne := str_some h0
      have HD := Lib.hid (decode_any t w (by omega) (by omega))
      have HNE := Lib.hid (show t.data.toList ≠ [] from fun e => h0 (by have h := congrArg List.length e; rw [Array.length_toList] at h; exact h))
      have hp : 0 < t.size := by omega
      clear h0
      go_wp2_with fail
      refine (HD.out).mono ?_; rintro e w1 ⟨hd, rfl⟩
      rcases hd with ⟨r, m, hm, rfl⟩ | ⟨hm, rfl⟩
      · obtain ⟨-, k2, k3, -, -⟩ := vstep_some hm
        have k3' : m ≤ t.size := by rw [show t.data.toList.length = t.size from Array.length_toList ..] at k3; exact k3
        have hm0 : (0 : Int) ≤ (m : Int) := by omega
        have hm1 : (m : Int) ≤ (t.size : Int) := by omega
        have HN := Lib.hid (VL.next hm)
        have HSZ := Lib.hid (show (t.extract m t.size).size = t.size - m by rw [ByteArray.size_extract]; omega)
        have hm2 : 0 < m := by omega
        clear hm k2 k3
        go_wp2_with fail
        go_round
        case rel => exact ⟨t.extract m t.size, rfl, by rw [HSZ.out]; omega, by rw [HV.out, HN.out, ext_drop]⟩
        case measure =>
          show (t.extract m t.size).size < t.size
          rw [HSZ.out]; omega
      · have HE := Lib.hid (show validB s.data.toList = false from Bool.eq_false_iff.2 fun h => VL.none hm HNE.out (HV.out.1 (validB_iff.1 h)))
        clear hm
        go_wp2_with fail
        go_ret
        exact ⟨by rw [HE.out] <;> rfl, rfl⟩
end Go.Proofs.YtdfkbahlngijcaaDoor
