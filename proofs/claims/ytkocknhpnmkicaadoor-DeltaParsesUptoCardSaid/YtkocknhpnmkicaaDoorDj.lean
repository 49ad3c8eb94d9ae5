/- Deltas: the same pieces: slices.Equal of the program, Same of the reference. -/
import Derived.Test.YtkocknhpnmkicaaDoorDc
namespace Go.Proofs.YtkocknhpnmkicaaDoor
open Go.RowKit
set_option linter.unusedVariables false

instance : DecidableEq Pc := fun p q =>
  if h : p.k = q.k ∧ p.n = q.n ∧ p.t = q.t then isTrue (pc_ext h.1 h.2.1 h.2.2) else isFalse (fun e => h (by subst e; exact ⟨rfl, rfl, rfl⟩))
def sameL (a b : List Pc) : Bool := decide (a = b)
theorem same_step {a b : List Pc} {j : Nat} (ha : j < a.length) (hb : j < b.length) (hl : a.length = b.length) (ht : a.take j = b.take j) (hne : a[j] ≠ b[j]) : sameL a b = false := by
  unfold sameL
  rw [decide_eq_false_iff_not]
  rintro rfl
  exact hne rfl
theorem same_take {a b : List Pc} {j : Nat} (ha : j < a.length) (hb : j < b.length) (ht : a.take j = b.take j) (he : a[j] = b[j]) : a.take (j + 1) = b.take (j + 1) := by
  rw [List.take_succ_eq_append_getElem ha, List.take_succ_eq_append_getElem hb, ht, he]
set_option maxRecDepth 100000 in
set_option maxHeartbeats 4000000 in
theorem refSame_any (ao bo : Option Addr) (n c m d : Nat) (a b : List Pc) (w : World) (h : IsR fP w ao n a) (k : IsR fP w bo m b) (hn : n ≤ 9223372036854775807) :
    Calls Tryd.prog 21 #[.slice ao n c, .slice bo m d] w fun e w' => e = .returned (.bool (sameL a b)) ∧ Below w.heap.size w w' := by
  have hla := h.1
  have hlb := k.1
  have HA := Lib.hid h
  have HK := Lib.hid k
  have HB := Lib.hid (Below.refl w.heap.size w)
  clear h k
  by_cases hnm : n = m
  · subst hnm
    go_enter Tryd.func21, Tryd.ntmps21
    go_wp2_with fail
    go_loopw [5] (fun s wr => ∃ (j : Nat), j ≤ n ∧ s = .int .i64 j ∧ a.take j = b.take j ∧ Below w.heap.size w wr) (fun s _ => n - (intOf s).toNat)
    case atStart => exact ⟨0, Nat.zero_le _, rfl, rfl, HB.out⟩
    case round =>
      obtain ⟨j, hj, rfl, htk, hbr⟩ := hrel
      have HTK := Lib.hid htk
      have HBR := Lib.hid hbr
      have HBN := Lib.hid (fun k => below_drewN hbr k)
      by_cases hlt : j < n
      · have hja : j < a.length := by omega
        have hjb : j < b.length := by omega
        have hj1 : (j : Int) < (n : Int) := by omega
        have hj0 : (0 : Int) ≤ (j : Int) := by omega
        obtain ⟨b1, o1, rfl, hbb1, hc1⟩ := HA.out.pc hbr hlt
        obtain ⟨b2, o2, rfl, hbb2, hc2⟩ := HK.out.pc hbr hlt
        obtain ⟨p0, p1, p2⟩ := hc1 hja
        obtain ⟨q0, q1, q2⟩ := hc2 hjb
        clear hc1 hc2 htk hbr
        by_cases he : a[j] = b[j]
        · have HTS := Lib.hid (same_take hja hjb HTK.out he)
          rw [he] at p0 p1 p2
          generalize b[j] = q at *
          clear he
          go_wp2_with fail
          go_quiet (fail)
          go_wp2_with fail
          go_roundw
          case rel => exact ⟨j + 1, by omega, by go_num, HTS.out, HBN.out _⟩
          case measure => simp [intOf]; omega
        · have HE := Lib.hid (same_step hja hjb (by omega) HTK.out he)
          have HNE := Lib.hid he
          generalize a[j] = p at *
          generalize b[j] = q at *
          clear he
          by_cases e1 : p.k = q.k
          · by_cases e2 : p.n = q.n
            · have e3 : p.t ≠ q.t := fun e => HNE.out (pc_ext e1 e2 e)
              have b4 : (p.t.toList == q.t.toList) = false := by
                rw [beq_eq_false_iff_ne, ByteArray.toList_eq, ByteArray.toList_eq]
                exact fun e => e3 (ByteArray.ext (Array.toList_inj.1 e))
              have b3 : (p.t == q.t) = false := by
                show (p.t.data == q.t.data) = false
                rw [beq_eq_false_iff_ne]
                exact fun e => e3 (ByteArray.ext e)
              clear e3
              rw [e1] at p0
              rw [e2] at p1
              clear e1 e2
              go_wp2_with fail
              go_quiet (fail)
              go_wp2_with fail
              go_ret
              exact ⟨by rw [HE.out] <;> rfl, HBN.out _⟩
            · have b2 : (p.n == q.n) = false := by rw [beq_eq_false_iff_ne]; exact e2
              rw [e1] at p0
              clear e1 e2
              go_wp2_with fail
              go_quiet (fail)
              go_wp2_with fail
              go_ret
              exact ⟨by rw [HE.out] <;> rfl, HBN.out _⟩
          · have b1 : (p.k == q.k) = false := by rw [beq_eq_false_iff_ne]; exact e1
            clear e1
            go_wp2_with fail
            go_quiet (fail)
            go_wp2_with fail
            go_ret
            exact ⟨by rw [HE.out] <;> rfl, HBN.out _⟩
      · obtain rfl : j = n := by omega
        have HE := Lib.hid (show sameL a b = true by
          unfold sameL
          have h := HTK.out
          rw [List.take_of_length_le (by omega), List.take_of_length_le (by omega)] at h
          exact decide_eq_true h)
        go_wp2_with fail
        go_ret
        exact ⟨by rw [HE.out] <;> rfl, HBR.out⟩
  · have HE := Lib.hid (show sameL a b = false by
      unfold sameL
      rw [decide_eq_false_iff_not]
      rintro rfl
      omega)
    have hb : ((n : Int) == (m : Int)) = false := by rw [beq_eq_false_iff_ne]; omega
    go_enter Tryd.func21, Tryd.ntmps21
    go_wp2_with fail
    go_ret
    exact ⟨by rw [HE.out] <;> rfl, HB.out⟩

set_option maxRecDepth 100000 in
set_option maxHeartbeats 4000000 in
theorem equalPc_any (ao bo : Option Addr) (n c m d : Nat) (a b : List Pc) (w : World) (h : IsR fP w ao n a) (k : IsR fP w bo m b) (hn : n ≤ 9223372036854775807) :
    Calls Tryd.prog 42 #[.slice ao n c, .slice bo m d] w fun e w' => e = .returned (.bool (sameL a b)) ∧ Below w.heap.size w w' := by
  have hla := h.1
  have hlb := k.1
  have HA := Lib.hid h
  have HK := Lib.hid k
  have HB := Lib.hid (Below.refl w.heap.size w)
  clear h k
  by_cases hnm : n = m
  · subst hnm
    go_enter Tryd.func42, Tryd.ntmps42
    go_wp2_with fail
    go_loopw [13] (fun s wr => ∃ (j : Nat), j ≤ n ∧ s = .int .i64 j ∧ a.take j = b.take j ∧ Below w.heap.size w wr) (fun s _ => n - (intOf s).toNat)
    case atStart => exact ⟨0, Nat.zero_le _, rfl, rfl, HB.out⟩
    case round =>
      obtain ⟨j, hj, rfl, htk, hbr⟩ := hrel
      have HTK := Lib.hid htk
      have HBR := Lib.hid hbr
      have HBN := Lib.hid (fun k => below_drewN hbr k)
      by_cases hlt : j < n
      · have hja : j < a.length := by omega
        have hjb : j < b.length := by omega
        have hj1 : (j : Int) < (n : Int) := by omega
        have hj0 : (0 : Int) ≤ (j : Int) := by omega
        obtain ⟨b1, o1, rfl, hbb1, hc1⟩ := HA.out.pc hbr hlt
        obtain ⟨b2, o2, rfl, hbb2, hc2⟩ := HK.out.pc hbr hlt
        obtain ⟨p0, p1, p2⟩ := hc1 hja
        obtain ⟨q0, q1, q2⟩ := hc2 hjb
        clear hc1 hc2 htk hbr
        by_cases he : a[j] = b[j]
        · have HTS := Lib.hid (same_take hja hjb HTK.out he)
          rw [he] at p0 p1 p2
          generalize b[j] = q at *
          clear he
          go_wp2_with fail
          go_quiet (fail)
          go_wp2_with fail
          go_roundw
          case rel => exact ⟨j + 1, by omega, by go_num, HTS.out, HBN.out _⟩
          case measure => simp [intOf]; omega
        · have HE := Lib.hid (same_step hja hjb (by omega) HTK.out he)
          have HNE := Lib.hid he
          generalize a[j] = p at *
          generalize b[j] = q at *
          clear he
          by_cases e1 : p.k = q.k
          · by_cases e2 : p.n = q.n
            · have e3 : p.t ≠ q.t := fun e => HNE.out (pc_ext e1 e2 e)
              have b4 : (p.t.toList == q.t.toList) = false := by
                rw [beq_eq_false_iff_ne, ByteArray.toList_eq, ByteArray.toList_eq]
                exact fun e => e3 (ByteArray.ext (Array.toList_inj.1 e))
              have b3 : (p.t == q.t) = false := by
                show (p.t.data == q.t.data) = false
                rw [beq_eq_false_iff_ne]
                exact fun e => e3 (ByteArray.ext e)
              clear e3
              rw [e1] at p0
              rw [e2] at p1
              clear e1 e2
              go_wp2_with fail
              go_quiet (fail)
              go_wp2_with fail
              go_ret
              exact ⟨by rw [HE.out] <;> rfl, HBN.out _⟩
            · have b2 : (p.n == q.n) = false := by rw [beq_eq_false_iff_ne]; exact e2
              rw [e1] at p0
              clear e1 e2
              go_wp2_with fail
              go_quiet (fail)
              go_wp2_with fail
              go_ret
              exact ⟨by rw [HE.out] <;> rfl, HBN.out _⟩
          · have b1 : (p.k == q.k) = false := by rw [beq_eq_false_iff_ne]; exact e1
            clear e1
            go_wp2_with fail
            go_quiet (fail)
            go_wp2_with fail
            go_ret
            exact ⟨by rw [HE.out] <;> rfl, HBN.out _⟩
      · obtain rfl : j = n := by omega
        have HE := Lib.hid (show sameL a b = true by
          unfold sameL
          have h := HTK.out
          rw [List.take_of_length_le (by omega), List.take_of_length_le (by omega)] at h
          exact decide_eq_true h)
        go_wp2_with fail
        go_ret
        exact ⟨by rw [HE.out] <;> rfl, HBR.out⟩
  · have HE := Lib.hid (show sameL a b = false by
      unfold sameL
      rw [decide_eq_false_iff_not]
      rintro rfl
      omega)
    have hb : ((n : Int) == (m : Int)) = false := by rw [beq_eq_false_iff_ne]; omega
    go_enter Tryd.func42, Tryd.ntmps42
    go_wp2_with fail
    go_ret
    exact ⟨by rw [HE.out] <;> rfl, HB.out⟩

end Go.Proofs.YtkocknhpnmkicaaDoor
