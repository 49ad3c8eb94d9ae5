/- Deltas: reading: words; the reader's number. -/
import Derived.Test.YtkocknhpnmkicaaDoorDp
namespace Go.Proofs.YtkocknhpnmkicaaDoor
open Go.RowKit
set_option linter.unusedVariables false

/-- the word that begins at a place -/
def wordAt (s : ByteArray) (a : Nat) : List UInt8 := (s.data.toList.drop a).takeWhile (fun c => decide (c ≠ 32))
theorem takeWhile_at {α : Type} (p : α → Bool) : ∀ (l : List α) (j : Nat) (h : j < (l.takeWhile p).length) (h2 : j < l.length), (l.takeWhile p)[j] = l[j] ∧ p l[j] = true
  | [], j, h, _ => by simp at h
  | x :: l, j, h, h2 => by
    by_cases hp : p x = true
    · cases j with
      | zero => simp [hp]
      | succ j =>
        have h' : j < (l.takeWhile p).length := by simpa [List.takeWhile_cons, hp] using h
        have := takeWhile_at p l j h' (by simpa using h2)
        simpa [List.takeWhile_cons, hp] using this
    · simp [hp] at h
theorem takeWhile_end {α : Type} (p : α → Bool) : ∀ (l : List α) (h : (l.takeWhile p).length < l.length), p (l[(l.takeWhile p).length]) = false
  | [], h => by simp at h
  | x :: l, h => by
    by_cases hp : p x = true
    · have h' : (l.takeWhile p).length < l.length := by simpa [List.takeWhile_cons, hp] using h
      have := takeWhile_end p l h'
      simpa [List.takeWhile_cons, hp] using this
    · simp [hp]
theorem takeWhile_le {α : Type} (p : α → Bool) (l : List α) : (l.takeWhile p).length ≤ l.length := by
  induction l with
  | nil => simp
  | cons x l ih =>
    by_cases hp : p x = true
    · simp [hp, ih]
    · simp [hp]
theorem word_le (s : ByteArray) {a : Nat} (ha : a ≤ s.size) : a + (wordAt s a).length ≤ s.size := by
  have h := takeWhile_le (fun c => decide (c ≠ 32)) (s.data.toList.drop a)
  have e : s.data.toList.length = s.size := Array.length_toList ..
  rw [List.length_drop, e] at h
  unfold wordAt
  omega
theorem word_at (s : ByteArray) {a j : Nat} (ha : a ≤ s.size) (hj : j < (wordAt s a).length) : ∃ h : a + j < s.size, (wordAt s a)[j] = s[a + j] ∧ s[a + j] ≠ 32 := by
  have hle := word_le s ha
  have e : s.data.toList.length = s.size := Array.length_toList ..
  have h2 : j < (s.data.toList.drop a).length := by rw [List.length_drop, e]; omega
  obtain ⟨h3, h4⟩ := takeWhile_at (fun c => decide (c ≠ 32)) (s.data.toList.drop a) j hj h2
  have h5 : (s.data.toList.drop a)[j] = s[a + j]'(by omega) := by
    rw [List.getElem_drop, Array.getElem_toList]
    rfl
  rw [h5] at h3 h4
  exact ⟨by omega, h3, by simpa using h4⟩
theorem word_end (s : ByteArray) {a : Nat} (ha : a ≤ s.size) (h : a + (wordAt s a).length < s.size) : s[a + (wordAt s a).length] = 32 := by
  have e : s.data.toList.length = s.size := Array.length_toList ..
  have key : ∀ (k : Nat) (hk : k = ((s.data.toList.drop a).takeWhile (fun c => decide (c ≠ 32))).length) (h2 : a + k < s.size), s[a + k] = 32 := by
    intro k hk h2
    have h3 : ((s.data.toList.drop a).takeWhile (fun c => decide (c ≠ 32))).length < (s.data.toList.drop a).length := by rw [← hk, List.length_drop, e]; omega
    have h4 := takeWhile_end (fun c => decide (c ≠ 32)) (s.data.toList.drop a) h3
    have h5 : ∀ (x : Nat) (hx : x < (s.data.toList.drop a).length), x = k → (s.data.toList.drop a)[x] = s[a + k] := by
      intro x hx hxk
      subst hxk
      rw [List.getElem_drop, Array.getElem_toList]
      rfl
    rw [h5 _ h3 hk.symm] at h4
    simpa using h4
  exact key _ rfl h
theorem more_word (s : ByteArray) {a j : Nat} (ha : a ≤ s.size) (hj : j ≤ (wordAt s a).length) : moreB s (a + j) = decide (j < (wordAt s a).length) := by
  unfold moreB
  by_cases h : j < (wordAt s a).length
  · obtain ⟨h1, h2, h3⟩ := word_at s ha h
    rw [dif_pos h1, decide_eq_true h, bne_iff_ne]
    exact h3
  · rw [decide_eq_false h]
    obtain rfl : j = (wordAt s a).length := by omega
    by_cases h1 : a + (wordAt s a).length < s.size
    · rw [dif_pos h1, word_end s ha h1]; rfl
    · rw [dif_neg h1]
/-- what is left of a number -/
def numF (wd : List UInt8) (j n : Nat) : Option Nat := if j = 0 then numP wd else numG n (wd.drop j)
theorem numF_step {wd : List UInt8} {j n : Nat} (hj : j < wd.length) (hn : j = 0 → n = 0) :
    numF wd j n = if wd[j] < 48 ∨ 57 < wd[j] then none else if j = 0 ∧ wd[j] = 48 then none else if 1048576 < 10 * n + (wd[j].toNat - 48) then none else numF wd (j + 1) (10 * n + (wd[j].toNat - 48)) := by
  unfold numF
  rw [if_neg (show ¬ (j + 1 = 0) by omega)]
  by_cases h0 : j = 0
  · subst h0
    obtain rfl := hn rfl
    rcases wd with _ | ⟨c, l⟩
    · simp at hj
    · rw [if_pos rfl, numP_cons]
      show (if c = 48 then none else numG 0 (c :: l)) = if c < 48 ∨ 57 < c then none else if 0 = 0 ∧ c = 48 then none else if 1048576 < 10 * 0 + (c.toNat - 48) then none else numG (10 * 0 + (c.toNat - 48)) l
      rw [numG_cons]
      by_cases h1 : c < 48 ∨ 57 < c
      · rw [if_pos h1]
        by_cases h2 : c = 48
        · rw [if_pos h2, if_pos h1]
        · rw [if_neg h2, if_pos h1]
      · rw [if_neg h1]
        by_cases h2 : c = 48
        · rw [if_pos h2, if_neg h1, if_pos ⟨rfl, h2⟩]
        · rw [if_neg h2, if_neg h1, if_neg (show ¬ (0 = 0 ∧ c = 48) from fun h => h2 h.2)]
  · rw [if_neg h0, List.drop_eq_getElem_cons hj, numG_cons]
    by_cases h1 : wd[j] < 48 ∨ 57 < wd[j]
    · rw [if_pos h1, if_pos h1]
    · rw [if_neg h1, if_neg h1, if_neg (show ¬ (j = 0 ∧ wd[j] = 48) from fun h => h0 h.1)]
/-- how far the reader is -/
def atOf (br : Nat) (w : World) : Nat := match w.heap[br]? with
  | some (.cells c _ _) => (match c[1]? with | some (Value.int _ a) => a.toNat | _ => 0)
  | _ => 0
theorem atOf_eq {br : Nat} {s : ByteArray} {a : Nat} {w : World} (h : RS br s a w) : atOf br w = a := by
  unfold RS at h
  unfold atOf
  rw [h]
  rfl
def NumPost (br : Nat) (s : ByteArray) (a : Nat) (w : World) (e : Ending) (w' : World) : Prop :=
  match numP (wordAt s a) with
  | some n => Got br s (a + (wordAt s a).length) (.int .i64 n) w e w'
  | none => Failed br w e w'
theorem NumPost.bad {br : Nat} {s : ByteArray} {a : Nat} {w : World} {e : Ending} {w' : World} (h : numP (wordAt s a) = none) (k : Failed br w e w') : NumPost br s a w e w' := by
  unfold NumPost
  rw [h]
  exact k
theorem NumPost.good {br : Nat} {s : ByteArray} {a n : Nat} {w : World} {e : Ending} {w' : World} (h : numP (wordAt s a) = some n) (k : Got br s (a + (wordAt s a).length) (.int .i64 n) w e w') : NumPost br s a w e w' := by
  unfold NumPost
  rw [h]
  exact k

set_option maxRecDepth 100000 in
set_option maxHeartbeats 8000000 in
theorem number_any (br : Nat) (s : ByteArray) (a : Nat) (w : World) (h : RS br s a w) (ha : a ≤ s.size) (hs : s.size ≤ 1000000000) :
    Calls Tryd.prog 67 #[.pointer (some ⟨br, 0, none⟩)] w (NumPost br s a w) := by
  have HR0 := Lib.hid h
  have hle := word_le s ha
  clear h
  go_enter Tryd.func67, Tryd.ntmps67
  go_wp2_with fail
  go_loopw [3, 4, 5] (fun s3 s4 s5 wr => ∃ (j n : Nat), j ≤ (wordAt s a).length ∧ s3 = .int .i64 n ∧ s4 = .bool (decide (j = 0)) ∧ n ≤ 1048576 ∧ (j = 0 → n = 0) ∧ numF (wordAt s a) j n = numP (wordAt s a) ∧ RS br s (a + j) wr ∧ w.grownBy wr (some br)) (fun _ _ _ wr => s.size - atOf br wr)
  case atStart => exact ⟨0, 0, Nat.zero_le _, rfl, rfl, by omega, fun _ => rfl, rfl, HR0.out, grown_refl _ _⟩
  case round =>
    obtain ⟨j, n, hj, rfl, rfl, hn, hn0, hF, hR, hg⟩ := hrel
    have HR := Lib.hid hR
    have HG := Lib.hid hg
    have HF := Lib.hid hF
    have HM := Lib.hid (atOf_eq hR)
    have HN0 := Lib.hid hn0
    clear hR hg hF hn0
    by_cases hj0 : j = 0
    · have HJ0 := Lib.hid hj0
      have hd1 : decide (j = 0) = true := decide_eq_true hj0
      clear hj0
      by_cases hjl : j < (wordAt s a).length
      · have hjw : j < (wordAt s a).length := hjl
        obtain ⟨has, hwj, hn32⟩ := word_at s ha hjl
        have hb := u8lt s[a + j]
        have HNX := Lib.hid (next_ok br s (a + j) wr (HR.out) has hs)
        go_wp2_with fail
        refine (HNX.out).mono ?_; rintro e w3 ⟨rfl, hr3, hg3⟩
        have HR3 := Lib.hid hr3
        have HG3 := Lib.hid (grown_trans HG.out (hg3))
        clear hr3 hg3 HNX
        by_cases hdig : s[a + j] < 48 ∨ 57 < s[a + j]
        · have HNO := Lib.hid (show numP (wordAt s a) = none by rw [← HF.out, numF_step hjw HN0.out, hwj, if_pos hdig])
          by_cases hlo : s[a + j].toNat < 48
          · have hlo' : (s[a + j].toNat : Int) < 48 := by omega
            clear hdig hlo
            go_wp2_with fail
            refine (fail_any _ _).mono ?_; rintro e w4 ⟨rfl, rfl⟩
            go_wp2_with fail
            exact ⟨rfl, NumPost.bad HNO.out ⟨rfl, HG3.out⟩⟩
          · have hhi : 57 < s[a + j].toNat := by
              rw [UInt8.lt_iff_toNat_lt, UInt8.lt_iff_toNat_lt] at hdig
              have e1 : (48 : UInt8).toNat = 48 := rfl
              have e2 : (57 : UInt8).toNat = 57 := rfl
              omega
            have hlo' : ¬ ((s[a + j].toNat : Int) < 48) := by omega
            have hhi' : (57 : Int) < (s[a + j].toNat : Int) := by omega
            clear hdig hlo hhi
            go_wp2_with fail
            refine (fail_any _ _).mono ?_; rintro e w4 ⟨rfl, rfl⟩
            go_wp2_with fail
            exact ⟨rfl, NumPost.bad HNO.out ⟨rfl, HG3.out⟩⟩
        · obtain ⟨hd1, hd2⟩ := dig_eq hdig
          have hlo' : ¬ ((s[a + j].toNat : Int) < 48) := by omega
          have hhi' : ¬ ((57 : Int) < (s[a + j].toNat : Int)) := by omega
          by_cases hz : s[a + j] = 48
          · have HNO := Lib.hid (show numP (wordAt s a) = none by rw [← HF.out, numF_step hjw HN0.out, hwj, if_neg hdig, if_pos ⟨HJ0.out, hz⟩])
            have hb48 : ((s[a + j].toNat : Int) == 48) = true := by rw [hz]; rfl
            have hb48' : s[a + j].toNat = 48 := by rw [hz]; rfl
            clear hz hdig
            go_wp2_with fail
            refine (fail_any _ _).mono ?_; rintro e w4 ⟨rfl, rfl⟩
            go_wp2_with fail
            exact ⟨rfl, NumPost.bad HNO.out ⟨rfl, HG3.out⟩⟩
          · have hbz : ((s[a + j].toNat : Int) == 48) = false := by rw [beq_eq_false_iff_ne]; exact fun e => hz (UInt8.toNat_inj.1 (show s[a + j].toNat = 48 by omega))
            have HST := Lib.hid (show numP (wordAt s a) = if 1048576 < 10 * n + (s[a + j].toNat - 48) then none else numF (wordAt s a) (j + 1) (10 * n + (s[a + j].toNat - 48)) by rw [← HF.out, numF_step hjw HN0.out, hwj, if_neg hdig, if_neg (fun h => hz h.2)])
            have hsub8 : IntKind.u8.wrap ((s[a + j].toNat : Int) - 48) = (s[a + j].toNat : Int) - 48 := wrap8 _ (by omega) (by omega)
            by_cases hbig : 1048576 < 10 * n + (s[a + j].toNat - 48)
            · have HNO := Lib.hid (HST.out.trans (if_pos hbig))
              have hbi : (1048576 : Int) < 10 * (n : Int) + ((s[a + j].toNat : Int) - 48) := by omega
              clear hbig hdig hz
              go_wp2_with fail
              refine (fail_any _ _).mono ?_; rintro e w4 ⟨rfl, rfl⟩
              go_wp2_with fail
              exact ⟨rfl, NumPost.bad HNO.out ⟨rfl, HG3.out⟩⟩
            · have HNX := Lib.hid (HST.out.trans (if_neg hbig)).symm
              have hbi : ¬ ((1048576 : Int) < 10 * (n : Int) + ((s[a + j].toNat : Int) - 48)) := by omega
              have HMM := Lib.hid (atOf_eq HR3.out)
              have HJJ := Lib.hid (show RS br s (a + (j + 1)) w3 from HR3.out)
              clear hdig hbig hz
              go_wp2_with fail
              go_roundw
              case rel => exact ⟨j + 1, 10 * n + (s[a + j].toNat - 48), by omega, by congr 1; omega, rfl, by omega, fun h => by omega, HNX.out, HJJ.out, HG3.out⟩
              case measure =>
                have h1 := HM.out
                have h2 := HMM.out
                omega
      · have HNO := Lib.hid (show numP (wordAt s a) = none by
          have : wordAt s a = [] := List.eq_nil_of_length_eq_zero (by have := HJ0.out; omega)
          rw [this]; rfl)
        have haj : a + j = a + (wordAt s a).length := by omega
        by_cases has : a + j < s.size
        · have h32 := word_end s ha (by omega)
          have HNX := Lib.hid (next_ok br s (a + j) wr HR.out has hs)
          have h32' : s[a + j].toNat = 32 := by
            have e : s[a + (wordAt s a).length]'(by omega) = s[a + j] := by
              congr 1
              omega
            rw [← e, h32]; rfl
          rw [h32'] at HNX
          clear h32 h32' haj
          go_wp2_with fail
          refine (HNX.out).mono ?_; rintro e w3 ⟨rfl, hr3, hg3⟩
          have HG3 := Lib.hid (grown_trans HG.out hg3)
          clear hr3 hg3
          go_wp2_with fail
          refine (fail_any _ _).mono ?_; rintro e w4 ⟨rfl, rfl⟩
          go_wp2_with fail
          exact ⟨rfl, NumPost.bad HNO.out ⟨rfl, HG3.out⟩⟩
        · have HNX := Lib.hid (next_end br s wr (by have := HR.out; rwa [show a + j = s.size by omega] at this))
          clear haj
          go_wp2_with fail
          refine (HNX.out).mono ?_; rintro e w3 ⟨rfl, hg3⟩
          have HG3 := Lib.hid (grown_trans HG.out hg3)
          clear hg3
          go_wp2_with fail
          exact ⟨rfl, NumPost.bad HNO.out ⟨rfl, HG3.out⟩⟩
    · have hd0 : decide (j = 0) = false := decide_eq_false hj0
      have HMB := Lib.hid (more_any br s (a + j) wr HR.out (by omega))
      have HMW := Lib.hid (more_word s ha hj)
      by_cases hjl : j < (wordAt s a).length
      · rw [HMW.out, decide_eq_true hjl] at HMB
        go_wp2_with fail
        refine (HMB.out).mono ?_; rintro e w2 ⟨rfl, k2, hw2⟩
        have HR2 := Lib.hid (show RS br s (a + j) w2 by rw [hw2]; exact HR.out)
        have HG2 := Lib.hid (show wr.grownBy w2 (some br) by rw [hw2]; exact grown_drewN _ _ _)
        clear hw2
        have hjw : j < (wordAt s a).length := hjl
        obtain ⟨has, hwj, hn32⟩ := word_at s ha hjl
        have hb := u8lt s[a + j]
        have HNX := Lib.hid (next_ok br s (a + j) w2 (HR2.out) has hs)
        go_wp2_with fail
        refine (HNX.out).mono ?_; rintro e w3 ⟨rfl, hr3, hg3⟩
        have HR3 := Lib.hid hr3
        have HG3 := Lib.hid (grown_trans HG.out (grown_trans HG2.out hg3))
        clear hr3 hg3 HNX
        by_cases hdig : s[a + j] < 48 ∨ 57 < s[a + j]
        · have HNO := Lib.hid (show numP (wordAt s a) = none by rw [← HF.out, numF_step hjw HN0.out, hwj, if_pos hdig])
          by_cases hlo : s[a + j].toNat < 48
          · have hlo' : (s[a + j].toNat : Int) < 48 := by omega
            clear hdig hlo
            go_wp2_with fail
            refine (fail_any _ _).mono ?_; rintro e w4 ⟨rfl, rfl⟩
            go_wp2_with fail
            exact ⟨rfl, NumPost.bad HNO.out ⟨rfl, HG3.out⟩⟩
          · have hhi : 57 < s[a + j].toNat := by
              rw [UInt8.lt_iff_toNat_lt, UInt8.lt_iff_toNat_lt] at hdig
              have e1 : (48 : UInt8).toNat = 48 := rfl
              have e2 : (57 : UInt8).toNat = 57 := rfl
              omega
            have hlo' : ¬ ((s[a + j].toNat : Int) < 48) := by omega
            have hhi' : (57 : Int) < (s[a + j].toNat : Int) := by omega
            clear hdig hlo hhi
            go_wp2_with fail
            refine (fail_any _ _).mono ?_; rintro e w4 ⟨rfl, rfl⟩
            go_wp2_with fail
            exact ⟨rfl, NumPost.bad HNO.out ⟨rfl, HG3.out⟩⟩
        · obtain ⟨hd1, hd2⟩ := dig_eq hdig
          have hlo' : ¬ ((s[a + j].toNat : Int) < 48) := by omega
          have hhi' : ¬ ((57 : Int) < (s[a + j].toNat : Int)) := by omega
          have HST := Lib.hid (show numP (wordAt s a) = if 1048576 < 10 * n + (s[a + j].toNat - 48) then none else numF (wordAt s a) (j + 1) (10 * n + (s[a + j].toNat - 48)) by rw [← HF.out, numF_step hjw HN0.out, hwj, if_neg hdig, if_neg (fun h => hj0 h.1)])
          have hsub8 : IntKind.u8.wrap ((s[a + j].toNat : Int) - 48) = (s[a + j].toNat : Int) - 48 := wrap8 _ (by omega) (by omega)
          by_cases hbig : 1048576 < 10 * n + (s[a + j].toNat - 48)
          · have HNO := Lib.hid (HST.out.trans (if_pos hbig))
            have hbi : (1048576 : Int) < 10 * (n : Int) + ((s[a + j].toNat : Int) - 48) := by omega
            clear hbig hdig
            go_wp2_with fail
            refine (fail_any _ _).mono ?_; rintro e w4 ⟨rfl, rfl⟩
            go_wp2_with fail
            exact ⟨rfl, NumPost.bad HNO.out ⟨rfl, HG3.out⟩⟩
          · have HNX := Lib.hid (HST.out.trans (if_neg hbig)).symm
            have hbi : ¬ ((1048576 : Int) < 10 * (n : Int) + ((s[a + j].toNat : Int) - 48)) := by omega
            have HMM := Lib.hid (atOf_eq HR3.out)
            have HJJ := Lib.hid (show RS br s (a + (j + 1)) w3 from HR3.out)
            clear hdig hbig
            go_wp2_with fail
            go_roundw
            case rel => exact ⟨j + 1, 10 * n + (s[a + j].toNat - 48), by omega, by congr 1; omega, rfl, by omega, fun h => by omega, HNX.out, HJJ.out, HG3.out⟩
            case measure =>
              have h1 := HM.out
              have h2 := HMM.out
              omega
      · rw [HMW.out, decide_eq_false hjl] at HMB
        have HNO := Lib.hid (show numP (wordAt s a) = some n by
          rw [← HF.out]
          unfold numF
          rw [if_neg hj0, List.drop_eq_nil_of_le (by omega)]
          rfl)
        have HRE := Lib.hid (show RS br s (a + (wordAt s a).length) wr by have := HR.out; rwa [show j = (wordAt s a).length by omega] at this)
        go_wp2_with fail
        refine (HMB.out).mono ?_; rintro e w2 ⟨rfl, k2, hw2⟩
        have HP := Lib.hid (show NumPost br s a w (.returned (.int .i64 n)) w2 from NumPost.good HNO.out ⟨rfl, by rw [hw2]; exact HRE.out, by rw [hw2]; exact grown_trans HG.out (grown_drewN _ _ _)⟩)
        clear hw2
        go_wp2_with fail
        go_ret
        exact HP.out
end Go.Proofs.YtkocknhpnmkicaaDoor
