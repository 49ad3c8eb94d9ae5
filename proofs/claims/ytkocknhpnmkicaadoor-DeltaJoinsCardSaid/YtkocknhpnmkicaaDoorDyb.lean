/- Deltas: Large and ints: their walks. -/
import Derived.Test.YtkocknhpnmkicaaDoorDya
namespace Go.Proofs.YtkocknhpnmkicaaDoor
open Go.RowKit
set_option linter.unusedVariables false

def fI (x : Int) : List Value := [.int .i64 x]
theorem fI_len (x : Int) : (fI x).length = 1 := rfl
theorem IsR.ints {w w' : World} {ao : Option Addr} {len : Nat} {l : List Int} (h : IsR fI w ao len l) (hb : Below w.heap.size w w') {j : Nat} (hj : j < len) :
    ∃ bb off, ao = some ⟨bb, off, none⟩ ∧ bb < w.heap.size ∧ ∀ hl : j < l.length, w'.cell? ⟨bb, off + j, none⟩ = some (.int .i64 l[j]) := by
  obtain ⟨bb, off, e, hbb, hc⟩ := h.2 (by omega)
  refine ⟨bb, off, e, hbb, fun hl => ?_⟩
  have hat := row_at fI_len (f := fI) (l := l) hc j hl 0 _ rfl
  have e2 : off + j * 1 + 0 = off + j := by omega
  rw [e2] at hat
  exact (hb.cell (p := ⟨bb, off + j, none⟩) hbb).trans hat
theorem takeI {a b : List Int} {j : Nat} (ha : j < a.length) (hb : j < b.length) (ht : a.take j = b.take j) (he : a[j] = b[j]) : a.take (j + 1) = b.take (j + 1) := by
  rw [List.take_succ_eq_append_getElem ha, List.take_succ_eq_append_getElem hb, ht, he]

set_option maxRecDepth 100000 in
set_option maxHeartbeats 4000000 in
theorem ints_any (ao bo : Option Addr) (n c m d : Nat) (a b : List Int) (w : World) (h : IsR fI w ao n a) (k : IsR fI w bo m b) (hn : n ≤ 9223372036854775807) :
    Calls Tryd.prog 34 #[.slice ao n c, .slice bo m d] w fun e w' => e = .returned (.bool (decide (a = b))) ∧ Below w.heap.size w w' := by
  have hla := h.1
  have hlb := k.1
  have HA := Lib.hid h
  have HK := Lib.hid k
  have HB := Lib.hid (Below.refl w.heap.size w)
  clear h k
  by_cases hnm : n = m
  · subst hnm
    go_enter Tryd.func34, Tryd.ntmps34
    go_wp2_with fail
    go_loopw [5] (fun s wr => ∃ (j : Nat), j ≤ n ∧ s = .int .i64 j ∧ a.take j = b.take j ∧ Below w.heap.size w wr) (fun s _ => n - (intOf s).toNat)
    case atStart => exact ⟨0, Nat.zero_le _, rfl, rfl, HB.out⟩
    case round =>
      obtain ⟨j, hj, rfl, htk, hbr⟩ := hrel
      have HTK := Lib.hid htk
      have HBR := Lib.hid hbr
      have HBN := Lib.hid (fun k => below_drewN hbr k)
      by_cases hlt : j < n
      · have hja : j < a.length := by omega
        have hjb : j < b.length := by omega
        have hj1 : (j : Int) < (n : Int) := by omega
        have hj0 : (0 : Int) ≤ (j : Int) := by omega
        obtain ⟨b1, o1, rfl, hbb1, hc1⟩ := HA.out.ints hbr hlt
        obtain ⟨b2, o2, rfl, hbb2, hc2⟩ := HK.out.ints hbr hlt
        have p0 := hc1 hja
        have q0 := hc2 hjb
        clear hc1 hc2 htk hbr
        by_cases he : a[j] = b[j]
        · have HTS := Lib.hid (takeI hja hjb HTK.out he)
          rw [he] at p0
          generalize b[j] = q at *
          clear he
          go_wp2_with fail
          go_quiet (fail)
          go_wp2_with fail
          go_roundw
          case rel => exact ⟨j + 1, by omega, by go_num, HTS.out, HBN.out _⟩
          case measure => simp [intOf]; omega
        · have HE := Lib.hid (show decide (a = b) = false by
            rw [decide_eq_false_iff_not]
            rintro rfl
            exact he rfl)
          have b1 : (a[j] == b[j]) = false := by rw [beq_eq_false_iff_ne]; exact he
          generalize a[j] = p at *
          generalize b[j] = q at *
          clear he
          go_wp2_with fail
          go_quiet (fail)
          go_wp2_with fail
          go_ret
          exact ⟨by rw [HE.out] <;> rfl, HBN.out _⟩
      · obtain rfl : j = n := by omega
        have HE := Lib.hid (show decide (a = b) = true by
          have h := HTK.out
          rw [List.take_of_length_le (by omega), List.take_of_length_le (by omega)] at h
          exact decide_eq_true h)
        go_wp2_with fail
        go_ret
        exact ⟨by rw [HE.out] <;> rfl, HBR.out⟩
  · have HE := Lib.hid (show decide (a = b) = false by
      rw [decide_eq_false_iff_not]
      rintro rfl
      omega)
    have b1 : ((n : Int) == (m : Int)) = false := by rw [beq_eq_false_iff_ne]; omega
    clear hnm
    go_enter Tryd.func34, Tryd.ntmps34
    go_wp2_with fail
    go_ret
    exact ⟨by rw [HE.out] <;> rfl, HB.out⟩

def RetB (e : Ending) : Prop := ∃ b : Bool, e = .returned (.bool b)
set_option maxRecDepth 100000 in
set_option maxHeartbeats 4000000 in
theorem large_any (ao : Option Addr) (n c : Nat) (l : List Pc) (w : World) (h : IsR fP w ao n l) (hn : n ≤ 9223372036854775807) :
    Calls Tryd.prog 33 #[.slice ao n c] w fun e w' => RetB e ∧ Below w.heap.size w w' := by
  have hla := h.1
  have HA := Lib.hid h
  have HB := Lib.hid (Below.refl w.heap.size w)
  clear h
  go_enter Tryd.func33, Tryd.ntmps33
  go_wp2_with fail
  go_loopw [3, 4] (fun s3 s4 wr => ∃ (x : Int) (j : Nat), j ≤ n ∧ s4 = .int .i64 j ∧ s3 = .int .i64 x ∧ Below w.heap.size w wr) (fun _ s _ => n - (intOf s).toNat)
  case atStart => exact ⟨0, 0, Nat.zero_le _, rfl, rfl, HB.out⟩
  case round =>
    obtain ⟨x, j, hj, rfl, rfl, hbr⟩ := hrel
    have HBR := Lib.hid hbr
    have HBN := Lib.hid (fun k => below_drewN hbr k)
    by_cases hlt : j < n
    · have hj1 : (j : Int) < (n : Int) := by omega
      have hj0 : (0 : Int) ≤ (j : Int) := by omega
      by_cases hx : x < 6000
      · have hja : j < l.length := by omega
        obtain ⟨b1, o1, rfl, hbb1, hc1⟩ := HA.out.pc hbr hlt
        obtain ⟨p0, p1, p2⟩ := hc1 hja
        clear hc1 hbr
        generalize l[j] = p at *
        go_wp2_with fail
        go_quiet (fail)
        go_wp2_with fail
        go_roundw
        case rel => exact ⟨_, j + 1, by omega, by go_num, rfl, HBN.out _⟩
        case measure => simp [intOf]; omega
      · clear hbr
        go_wp2_with fail
        go_ret
        exact ⟨⟨_, rfl⟩, HBR.out⟩
    · have hj1 : ¬ ((j : Int) < (n : Int)) := by omega
      clear hbr
      go_wp2_with fail
      go_ret
      exact ⟨⟨_, rfl⟩, HBR.out⟩

end Go.Proofs.YtkocknhpnmkicaaDoor
