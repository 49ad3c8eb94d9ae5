/- Diff: the program's same and reversed: their walks. -/
import Derived.Test.YtfbjbgknfdekfaaDoorEa
import Derived.Lib.ConvBytes
import Derived.Laws.MakeOwn
namespace Go.Proofs.YtfbjbgknfdekfaaDoor
open Go.RowKit
set_option linter.unusedVariables false

/-- bytes that lie in memory -/
def InB (w : World) (ao : Option Addr) (l : List UInt8) : Prop :=
  0 < l.length → ∃ b o, ao = some ⟨b, o, none⟩ ∧ b < w.heap.size ∧ ∀ j (h : j < l.length), w.cell? ⟨b, o + j, none⟩ = some (.int .u8 l[j].toNat)
theorem InB.below {w w' : World} {ao : Option Addr} {l : List UInt8} (h : InB w ao l) (hb : Below w.heap.size w w') : InB w' ao l := fun hp => by
  obtain ⟨b, o, e, hlt, hc⟩ := h hp
  exact ⟨b, o, e, by have := hb.size; omega, fun j hj => (hb.cell (p := ⟨b, o + j, none⟩) hlt).trans (hc j hj)⟩

set_option maxRecDepth 100000 in
set_option maxHeartbeats 4000000 in
theorem same_any (ao bo : Option Addr) (n m c d : Nat) (a b : List UInt8) (w : World) (h : InB w ao a) (k : InB w bo b) (hn : a.length = n) (hm : b.length = m) (hn63 : n ≤ 1000000000000000) :
    Calls Tryd.prog 28 #[.slice ao n c, .slice bo m d] w fun e w' => e = .returned (.int .i64 (pre a b)) ∧ Below w.heap.size w w' := by
  have HA := Lib.hid h
  have HK := Lib.hid k
  have HB := Lib.hid (Below.refl w.heap.size w)
  clear h k
  go_enter Tryd.func28, Tryd.ntmps28
  go_wp2_with fail
  go_loopw [5] (fun s wr => ∃ (j : Nat), j ≤ n ∧ j ≤ m ∧ s = .int .i64 j ∧ a.take j = b.take j ∧ Below w.heap.size w wr) (fun s _ => n - (intOf s).toNat)
  case atStart => exact ⟨0, Nat.zero_le _, Nat.zero_le _, rfl, rfl, HB.out⟩
  case round =>
    obtain ⟨j, hj1, hj2, rfl, htk, hbr⟩ := hrel
    have HTK := Lib.hid htk
    have HBR := Lib.hid hbr
    have HBN := Lib.hid (fun k => below_drewN hbr k)
    have hj0 : (0 : Int) ≤ (j : Int) := by omega
    by_cases h1 : j < n
    · have h1' : (j : Int) < (n : Int) := by omega
      by_cases h2 : j < m
      · have h2' : (j : Int) < (m : Int) := by omega
        have ha : j < a.length := by omega
        have hb : j < b.length := by omega
        obtain ⟨b1, o1, rfl, hl1, hc1⟩ := HA.out (by omega)
        obtain ⟨b2, o2, rfl, hl2, hc2⟩ := HK.out (by omega)
        have p0 := (hbr.cell (p := ⟨b1, o1 + j, none⟩) hl1).trans (hc1 j ha)
        have q0 := (hbr.cell (p := ⟨b2, o2 + j, none⟩) hl2).trans (hc2 j hb)
        clear hc1 hc2 htk hbr
        by_cases he : a[j] = b[j]
        · have HTS := Lib.hid (take_same ha hb HTK.out he)
          rw [he] at p0
          generalize b[j] = x at *
          clear he
          have hwr : IntKind.i64.wrap ((j : Int) + 1) = (j : Int) + 1 := by rw [IntKind.wrap_i64]; omega
          go_wp2_with fail
          go_quiet (fail)
          go_wp2_with fail
          go_roundw
          case rel => exact ⟨j + 1, by omega, by omega, by go_num, HTS.out, HBN.out _⟩
          case measure => simp [intOf]; omega
        · have HE := Lib.hid (pre_stop ha hb HTK.out he)
          have hne : ((a[j].toNat : Int) == (b[j].toNat : Int)) = false := by
            rw [beq_eq_false_iff_ne]
            exact fun e => he (UInt8.toNat_inj.1 (by omega))
          generalize a[j] = x at *
          generalize b[j] = y at *
          clear he
          go_wp2_with fail
          go_quiet (fail)
          go_wp2_with fail
          go_ret
          exact ⟨by rw [HE.out] <;> rfl, HBN.out _⟩
      · have HE := Lib.hid (pre_end (a := a) (b := b) (j := j) (by omega) (by omega) HTK.out (.inr (by omega)))
        have h2' : ¬ ((j : Int) < (m : Int)) := by omega
        have hd2 := decide_eq_false h2
        clear h2 htk hbr
        go_wp2_with fail
        go_quiet (fail)
        go_wp2_with fail
        go_ret
        exact ⟨by rw [HE.out] <;> rfl, HBN.out _⟩
    · have HE := Lib.hid (pre_end (a := a) (b := b) (j := j) (by omega) (by omega) HTK.out (.inl (by omega)))
      have h1' : ¬ ((j : Int) < (n : Int)) := by omega
      have hd1 := decide_eq_false h1
      clear h1 htk hbr
      go_wp2_with fail
      go_quiet (fail)
      go_wp2_with fail
      go_ret
      exact ⟨by rw [HE.out] <;> rfl, HBN.out _⟩
end Go.Proofs.YtfbjbgknfdekfaaDoor
