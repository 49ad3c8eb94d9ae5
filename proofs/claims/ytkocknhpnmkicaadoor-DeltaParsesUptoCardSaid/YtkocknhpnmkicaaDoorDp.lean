/- Deltas: reading: the reader's methods. -/
import Derived.Test.YtkocknhpnmkicaaDoorDo
namespace Go.Proofs.YtkocknhpnmkicaaDoor
open Go.RowKit
set_option linter.unusedVariables false

/-- the panic that ends reading -/
def chainF : List PanicEntry := [{ v := .iface 24 (.int .i64 4), recovered := false }]
set_option maxRecDepth 100000 in
set_option maxHeartbeats 2000000 in
theorem fail_any (a : Option Addr) (w : World) : Calls Tryd.prog 62 #[.pointer a] w fun e w' => e = .panicked chainF ∧ w = w' := by
  go_enter Tryd.func62, Tryd.ntmps62
  go_wp2_with fail
  exact ⟨rfl, rfl, rfl⟩
/-- the reader in its block -/
def RS (br : Nat) (s : ByteArray) (a : Nat) (w : World) : Prop := w.heap[br]? = some (.cells #[.string s, .int .i64 a] 78 (0, 0))
theorem grown_refl (w : World) (r : Option Nat) : w.grownBy w r := ⟨rfl, rfl, rfl, Nat.le_refl _, fun _ _ _ => rfl⟩
theorem grown_drewN (w : World) (k : Nat) (r : Option Nat) : w.grownBy (w.drewN k) r := ⟨rfl, rfl, rfl, Nat.le_refl _, fun _ _ _ => rfl⟩
theorem grown_trans {a b c : World} {r : Option Nat} (h : a.grownBy b r) (k : b.grownBy c r) : a.grownBy c r :=
  ⟨k.os.trans h.os, k.tape.trans h.tape, k.output.trans h.output, Nat.le_trans h.size k.size, fun i hi hr => (k.block i (Nat.lt_of_lt_of_le hi h.size) hr).trans (h.block i hi hr)⟩
theorem grown_set (w : World) (p : Addr) (v : Value) : w.grownBy (w.setCell p v) (some p.block) :=
  ⟨rfl, rfl, rfl, by simp [World.setCell], fun i _ hr => Below.heap_setCell _ _ _ _ (fun e => hr (by rw [e]))⟩
theorem grown_below {w w' : World} {r : Option Nat} (h : Below w.heap.size w w') : w.grownBy w' r := ⟨h.os, h.tape, h.output, h.size, fun i hi _ => h.block i hi⟩
def Got (br : Nat) (s : ByteArray) (a : Nat) (v : Value) (w : World) (e : Ending) (w' : World) : Prop := e = .returned v ∧ RS br s a w' ∧ w.grownBy w' (some br)
def Failed (br : Nat) (w : World) (e : Ending) (w' : World) : Prop := e = .panicked chainF ∧ w.grownBy w' (some br)

set_option maxRecDepth 100000 in
set_option maxHeartbeats 4000000 in
theorem next_ok (br : Nat) (s : ByteArray) (a : Nat) (w : World) (h : RS br s a w) (ha : a < s.size) (hs : s.size ≤ 1000000000) :
    Calls Tryd.prog 61 #[.pointer (some ⟨br, 0, none⟩)] w (Got br s (a + 1) (.int .u8 s[a].toNat) w) := by
  have hk : w.heap[br]? = some (.cells #[.string s, .int .i64 a] 78 (0, 0)) := h
  have hne : ((a : Int) == (s.size : Int)) = false := by rw [beq_eq_false_iff_ne]; omega
  have HB := Lib.hid (fun k => block_setCell (w := w.drewN k) hk 1 (.int .i64 ((a + 1 : Nat) : Int)))
  have HH := Lib.hid h
  (have q0 := block_cell hk 0; have q1 := block_cell hk 1; have f0 := block_free hk 0; have f1 := block_free hk 1; have hz := block_lt hk; simp at q0 q1)
  clear hk h
  go_enter Tryd.func61, Tryd.ntmps61
  go_wp2_with fail
  go_quiet (fail)
  go_wp2_with fail
  generalize hw2 : World.setCell _ _ _ = w2
  have HW2 := Lib.hid hw2
  have hk2 : w2.heap[br]? = some (.cells #[.string s, .int .i64 ((a + 1 : Nat) : Int)] 78 (0, 0)) := by
    rw [← hw2]
    exact HB.out _
  have HG2 := Lib.hid (show w.grownBy w2 (some br) from hw2 ▸ grown_trans (grown_drewN w _ _) (grown_set _ _ _))
  have HK2 := Lib.hid hk2
  clear hw2 q0 q1 f0 f1 hz
  (have q0 := block_cell hk2 0; have q1 := block_cell hk2 1; have f0 := block_free hk2 0; have f1 := block_free hk2 1; have hz := block_lt hk2; simp at q0 q1)
  clear hk2
  have hsub : IntKind.i64.wrap ((a : Int) + 1 - 1) = (a : Int) := by rw [Int.add_sub_cancel]; exact IntWalk.i64_in _ (by omega)
  have ha0 : (0 : Int) ≤ (a : Int) := by omega
  have ha1 : (a : Int) < (s.size : Int) := by omega
  go_quiet (fail)
  go_wp2_with fail
  go_ret
  exact ⟨rfl, HK2.out, grown_trans HG2.out (grown_drewN w2 _ _)⟩

set_option maxRecDepth 100000 in
set_option maxHeartbeats 4000000 in
theorem next_end (br : Nat) (s : ByteArray) (w : World) (h : RS br s s.size w) :
    Calls Tryd.prog 61 #[.pointer (some ⟨br, 0, none⟩)] w (Failed br w) := by
  have hk : w.heap[br]? = some (.cells #[.string s, .int .i64 s.size] 78 (0, 0)) := h
  (have q0 := block_cell hk 0; have q1 := block_cell hk 1; have f0 := block_free hk 0; have f1 := block_free hk 1; have hz := block_lt hk; simp at q0 q1)
  clear hk h
  go_enter Tryd.func61, Tryd.ntmps61
  go_wp2_with fail
  go_quiet (fail)
  go_wp2_with fail
  refine (fail_any _ _).mono ?_; rintro e w2 ⟨rfl, rfl⟩
  go_wp2_with fail
  exact ⟨rfl, rfl, grown_drewN w _ _⟩

def moreB (s : ByteArray) (a : Nat) : Bool := if h : a < s.size then s[a] != 32 else false
set_option maxRecDepth 100000 in
set_option maxHeartbeats 4000000 in
theorem more_any (br : Nat) (s : ByteArray) (a : Nat) (w : World) (h : RS br s a w) (ha : a ≤ s.size) :
    Calls Tryd.prog 73 #[.pointer (some ⟨br, 0, none⟩)] w fun e w' => e = .returned (.bool (moreB s a)) ∧ ∃ k, w' = w.drewN k := by
  have hk : w.heap[br]? = some (.cells #[.string s, .int .i64 a] 78 (0, 0)) := h
  (have q0 := block_cell hk 0; have q1 := block_cell hk 1; have f0 := block_free hk 0; have f1 := block_free hk 1; have hz := block_lt hk; simp at q0 q1)
  clear hk h
  by_cases hlt : a < s.size
  · have HE := Lib.hid (show moreB s a = (s[a] != 32) from dif_pos hlt)
    have ha0 : (0 : Int) ≤ (a : Int) := by omega
    have ha1 : (a : Int) < (s.size : Int) := by omega
    have hd1 : decide ((a : Int) < (s.size : Int)) = true := decide_eq_true ha1
    by_cases h32 : s[a] = 32
    · have HV := Lib.hid (show (s[a] != 32) = false by rw [h32]; rfl)
      have hb : ((s[a].toNat : Int) == 32) = true := by rw [h32]; rfl
      have hb2 : s[a].toNat = 32 := by rw [h32]; rfl
      clear h32
      go_enter Tryd.func73, Tryd.ntmps73
      go_wp2_with fail
      go_quiet (fail)
      go_wp2_with fail
      go_ret
      exact ⟨by rw [HE.out, HV.out] <;> rfl, _, rfl⟩
    · have HV := Lib.hid (show (s[a] != 32) = true by rw [bne_iff_ne]; exact h32)
      have hne : ¬ (s[a].toNat = 32) := fun e => h32 (UInt8.toNat_inj.1 e)
      have hb : ((s[a].toNat : Int) == 32) = false := by rw [beq_eq_false_iff_ne]; omega
      have hb3 : ((s[a].toNat : Int) != 32) = true := by rw [bne, hb]; rfl
      clear h32
      go_enter Tryd.func73, Tryd.ntmps73
      go_wp2_with fail
      go_quiet (fail)
      go_wp2_with fail
      go_ret
      exact ⟨by rw [HE.out, HV.out] <;> rfl, _, rfl⟩
  · have HE := Lib.hid (show moreB s a = false from dif_neg hlt)
    have hd : decide ((a : Int) < (s.size : Int)) = false := by rw [decide_eq_false_iff_not]; omega
    have hn : ¬ ((a : Int) < (s.size : Int)) := by omega
    go_enter Tryd.func73, Tryd.ntmps73
    go_wp2_with fail
    go_quiet (fail)
    go_wp2_with fail
    go_ret
    exact ⟨by rw [HE.out] <;> rfl, _, rfl⟩
theorem halfC : ∀ n : Nat, n < 256 → Lib.indexByte [48, 49, 50, 51, 52, 53, 54, 55, 56, 57, 97, 98, 99, 100, 101, 102] (UInt8.ofNat n) = (match halfP (UInt8.ofNat n) with | some x => (x : Int) | none => -1) := by decide +kernel
theorem half_index (c : UInt8) : Lib.indexByte [48, 49, 50, 51, 52, 53, 54, 55, 56, 57, 97, 98, 99, 100, 101, 102] c = (match halfP c with | some x => (x : Int) | none => -1) := by
  have := halfC c.toNat (u8lt c)
  rwa [UInt8.ofNat_toNat] at this
theorem indexDigits (c : UInt8) (w : World) : Calls Tryd.prog 80 #[.string ⟨#[48, 49, 50, 51, 52, 53, 54, 55, 56, 57, 97, 98, 99, 100, 101, 102]⟩, .int .u8 c.toNat] w fun e w' => e = .returned (.int .i64 (match halfP c with | some x => (x : Int) | none => -1)) ∧ w = w' := by
  refine (Tryd.strings_IndexByte ⟨#[48, 49, 50, 51, 52, 53, 54, 55, 56, 57, 97, 98, 99, 100, 101, 102]⟩ c.toNat w).mono ?_
  rintro e w' ⟨rfl, rfl⟩
  refine ⟨?_, rfl⟩
  rw [← half_index, show ((c.toNat : Int).toNat.toUInt8) = c from UInt8.ofNat_toNat]
set_option maxRecDepth 100000 in
set_option maxHeartbeats 4000000 in
theorem half_ok (br : Nat) (s : ByteArray) (a x : Nat) (w : World) (h : RS br s a w) (ha : a < s.size) (hs : s.size ≤ 1000000000) (hx : halfP s[a] = some x) :
    Calls Tryd.prog 74 #[.pointer (some ⟨br, 0, none⟩)] w (Got br s (a + 1) (.int .u8 x) w) := by
  have HN := Lib.hid (next_ok br s a w h ha hs)
  have HI := Lib.hid (indexDigits s[a])
  have hx16 := (half_some _ _ hx).1
  have hx0 : ¬ ((x : Int) < 0) := by omega
  have hW : IntKind.u8.wrap (x : Int) = (x : Int) := wrap8 _ (by omega) (by omega)
  have HX := Lib.hid hx
  clear h hx
  go_enter Tryd.func74, Tryd.ntmps74
  go_wp2_with fail
  refine (HN.out).mono ?_; rintro e w2 ⟨rfl, hr2, hg2⟩
  have HR2 := Lib.hid hr2
  have HG2 := Lib.hid hg2
  clear hr2 hg2
  go_wp2_with fail
  refine (HI.out _).mono ?_; rintro e w3 ⟨rfl, rfl⟩
  rw [HX.out]
  go_wp2_with fail
  go_ret
  exact ⟨rfl, HR2.out, HG2.out⟩
set_option maxRecDepth 100000 in
set_option maxHeartbeats 4000000 in
theorem half_no (br : Nat) (s : ByteArray) (a : Nat) (w : World) (h : RS br s a w) (ha : a ≤ s.size) (hs : s.size ≤ 1000000000) (hx : ∀ h : a < s.size, halfP s[a] = none) :
    Calls Tryd.prog 74 #[.pointer (some ⟨br, 0, none⟩)] w (Failed br w) := by
  by_cases hlt : a < s.size
  · have HN := Lib.hid (next_ok br s a w h hlt hs)
    have HI := Lib.hid (indexDigits s[a])
    have HX := Lib.hid (hx hlt)
    clear h hx
    go_enter Tryd.func74, Tryd.ntmps74
    go_wp2_with fail
    refine (HN.out).mono ?_; rintro e w2 ⟨rfl, hr2, hg2⟩
    have HG2 := Lib.hid hg2
    clear hr2 hg2
    go_wp2_with fail
    refine (HI.out _).mono ?_; rintro e w3 ⟨rfl, rfl⟩
    rw [HX.out]
    go_wp2_with fail
    refine (fail_any _ _).mono ?_; rintro e w4 ⟨rfl, rfl⟩
    go_wp2_with fail
    exact ⟨rfl, rfl, HG2.out⟩
  · obtain rfl : a = s.size := by omega
    have HN := Lib.hid (next_end br s w h)
    clear h hx
    go_enter Tryd.func74, Tryd.ntmps74
    go_wp2_with fail
    refine (HN.out).mono ?_; rintro e w2 ⟨rfl, hg2⟩
    have HG2 := Lib.hid hg2
    clear hg2
    go_wp2_with fail
    exact ⟨rfl, rfl, HG2.out⟩
end Go.Proofs.YtkocknhpnmkicaaDoor
