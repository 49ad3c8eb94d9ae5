/- Diff: apply.parts' closures: their walks. -/
import Derived.Test.YtfbjbgknfdekfaaDoorHm
namespace Go.Proofs.YtfbjbgknfdekfaaDoor
open Go.RowKit
set_option linter.unusedVariables false

def CloPost (h : Nat) (es : Array MapEntry) (clk : Nat) (rest : ByteArray) (o g p : List UInt8) (w : World) (e : Ending) (w' : World) : Prop :=
  e = .returned (.tuple #[]) ∧ (∃ vO vG vP, Pt h es clk rest o g p vO vG vP w') ∧ ∀ a, Below h a w → Below h a w'
set_option maxRecDepth 100000 in
set_option maxHeartbeats 4000000 in
theorem cloR_any (h clk m : Nat) (es : Array MapEntry) (rest : ByteArray) (o g p : List UInt8) (vO vG vP : Value) (k : Int) (t : ByteArray) (w : World) (hp : Pt h es clk rest o g p vO vG vP w) (hm : m ≤ rest.size) (hs : rest.size ≤ 1048576) (ho : o.length ≤ 4000000) (hg : g.length ≤ 4000000) :
    Calls Tryd.prog 54 #[.agg #[.int .u8 k, .int .i64 m, .string t], .pointer (some ⟨h + 1, 0, none⟩), .pointer (some ⟨h + 4, 0, none⟩)] w (CloPost h es clk (rest.extract m rest.size) (o ++ (rest.extract 0 m).data.toList) g p w) := by
  have HP := Lib.hid (hp.alloc (.cells #[.int .u8 k, .int .i64 m, .string t] 45))
  have HPS := Lib.hid hp.size
  have hnb := block_new w (.cells #[.int .u8 k, .int .i64 m, .string t] 45)
  have HBA := Lib.hid (show ∀ a, Below h a w → Below h a (w.alloc (.cells #[.int .u8 k, .int .i64 m, .string t] 45)) from fun a hb => hb.alloc (by have := hp.size; omega) _)
  have q1 := block_cell hnb 1
  have q4 := block_cell HP.out.ft 0
  simp at q1 q4
  have hsz := HP.out.size
  have HT := Lib.hid (take_any h m rest _ HP.out.s hm hs)
  have HX := Lib.hid (show (rest.extract 0 m).size = m by rw [ByteArray.size_extract]; omega)
  clear hp hnb
  go_enter Tryd.func54, Tryd.ntmps54
  go_wp2_with fail
  refine (HT.out).mono ?_; rintro e w1 ⟨rfl, hw1⟩
  have HP1 := Lib.hid (show Pt h es clk (rest.extract m rest.size) o g p vO vG vP w1 by rw [hw1]; exact HP.out.take _)
  have HB1 := Lib.hid (show ∀ a, Below h a w → Below h a w1 from fun a hb => by rw [hw1]; exact (HBA.out a hb).setCell (p := ⟨h, 0, none⟩) (Nat.le_refl _) _)
  have hs1 := HP1.out.size
  have HWR := Lib.hid (write_own (h + 6) (h + 1) vO o (rest.extract 0 m) w1 HP1.out.bo hs1 (by rw [HX.out]; omega))
  clear hw1 q1 q4
  go_wp2_with fail
  refine (HWR.out).mono ?_; rintro e w2 hw
  obtain ⟨v, hp2⟩ := HP1.out.writeO hw
  have HP2 := Lib.hid hp2
  have HB2 := Lib.hid (show ∀ a, Below h a w → Below h a w2 from fun a hb => wr_below (HB1.out a hb) (by omega) (by omega) (fun q hq => HP1.out.bo.base hq) hw)
  obtain ⟨rfl, -⟩ := hw
  clear hp2
  go_wp2_with fail
  go_end0
  exact ⟨rfl, ⟨_, _, _, HP2.out⟩, HB2.out⟩
set_option maxRecDepth 100000 in
set_option maxHeartbeats 4000000 in
theorem cloD_any (h clk m : Nat) (es : Array MapEntry) (rest : ByteArray) (o g p : List UInt8) (vO vG vP : Value) (k : Int) (t : ByteArray) (w : World) (hp : Pt h es clk rest o g p vO vG vP w) (hm : m ≤ rest.size) (hs : rest.size ≤ 1048576) (ho : o.length ≤ 4000000) (hg : g.length ≤ 4000000) :
    Calls Tryd.prog 56 #[.agg #[.int .u8 k, .int .i64 m, .string t], .pointer (some ⟨h + 2, 0, none⟩), .pointer (some ⟨h + 4, 0, none⟩)] w (CloPost h es clk (rest.extract m rest.size) o (g ++ (rest.extract 0 m).data.toList) p w) := by
  have HP := Lib.hid (hp.alloc (.cells #[.int .u8 k, .int .i64 m, .string t] 45))
  have HPS := Lib.hid hp.size
  have hnb := block_new w (.cells #[.int .u8 k, .int .i64 m, .string t] 45)
  have HBA := Lib.hid (show ∀ a, Below h a w → Below h a (w.alloc (.cells #[.int .u8 k, .int .i64 m, .string t] 45)) from fun a hb => hb.alloc (by have := hp.size; omega) _)
  have q1 := block_cell hnb 1
  have q4 := block_cell HP.out.ft 0
  simp at q1 q4
  have hsz := HP.out.size
  have HT := Lib.hid (take_any h m rest _ HP.out.s hm hs)
  have HX := Lib.hid (show (rest.extract 0 m).size = m by rw [ByteArray.size_extract]; omega)
  clear hp hnb
  go_enter Tryd.func56, Tryd.ntmps56
  go_wp2_with fail
  refine (HT.out).mono ?_; rintro e w1 ⟨rfl, hw1⟩
  have HP1 := Lib.hid (show Pt h es clk (rest.extract m rest.size) o g p vO vG vP w1 by rw [hw1]; exact HP.out.take _)
  have HB1 := Lib.hid (show ∀ a, Below h a w → Below h a w1 from fun a hb => by rw [hw1]; exact (HBA.out a hb).setCell (p := ⟨h, 0, none⟩) (Nat.le_refl _) _)
  have hs1 := HP1.out.size
  have HWR := Lib.hid (write_own (h + 6) (h + 2) vG g (rest.extract 0 m) w1 HP1.out.bg hs1 (by rw [HX.out]; omega))
  clear hw1 q1 q4
  go_wp2_with fail
  refine (HWR.out).mono ?_; rintro e w2 hw
  obtain ⟨v, hp2⟩ := HP1.out.writeG hw
  have HP2 := Lib.hid hp2
  have HB2 := Lib.hid (show ∀ a, Below h a w → Below h a w2 from fun a hb => wr_below (HB1.out a hb) (by omega) (by omega) (fun q hq => HP1.out.bg.base hq) hw)
  obtain ⟨rfl, -⟩ := hw
  clear hp2
  go_wp2_with fail
  go_end0
  exact ⟨rfl, ⟨_, _, _, HP2.out⟩, HB2.out⟩
set_option maxRecDepth 100000 in
set_option maxHeartbeats 4000000 in
theorem cloI_any (h clk : Nat) (es : Array MapEntry) (rest : ByteArray) (o g p : List UInt8) (vO vG vP : Value) (k m : Int) (t : ByteArray) (w : World) (hp : Pt h es clk rest o g p vO vG vP w) (ho : o.length ≤ 4000000) (hq : p.length ≤ 4000000) (ht : t.size ≤ 1048576) :
    Calls Tryd.prog 57 #[.agg #[.int .u8 k, .int .i64 m, .string t], .pointer (some ⟨h + 1, 0, none⟩), .pointer (some ⟨h + 3, 0, none⟩)] w (CloPost h es clk rest (o ++ t.data.toList) g (p ++ t.data.toList) w) := by
  have HP := Lib.hid (hp.alloc (.cells #[.int .u8 k, .int .i64 m, .string t] 45))
  have HPS := Lib.hid hp.size
  have hnb := block_new w (.cells #[.int .u8 k, .int .i64 m, .string t] 45)
  have HNB := Lib.hid hnb
  have HBA := Lib.hid (show ∀ a, Below h a w → Below h a (w.alloc (.cells #[.int .u8 k, .int .i64 m, .string t] 45)) from fun a hb => hb.alloc (by have := hp.size; omega) _)
  have q2 := block_cell hnb 2
  simp at q2
  have hsz := HP.out.size
  have HWR := Lib.hid (write_own (h + 6) (h + 1) vO o t _ HP.out.bo hsz (by omega))
  have HNE := Lib.hid (show ∀ q, vO.ownBlock = some q → q ≠ w.heap.size from fun q hq e => by
    have := own_lt hp.bo.own hq
    omega)
  clear hp hnb
  go_enter Tryd.func57, Tryd.ntmps57
  go_wp2_with fail
  refine (HWR.out).mono ?_; rintro e w2 hw
  obtain ⟨v, hp2⟩ := HP.out.writeO hw
  have HP2 := Lib.hid hp2
  have HB2 := Lib.hid (show ∀ a, Below h a w → Below h a w2 from fun a hb => wr_below (HBA.out a hb) (by omega) (by omega) (fun q hq => HP.out.bo.base hq) hw)
  have hc2 : w2.heap[w.heap.size]? = some (.cells #[.int .u8 k, .int .i64 m, .string t] 45 (0, 0)) := by
    obtain ⟨-, v', -, hk, -⟩ := hw
    rw [hk.block _ (block_lt HNB.out) (fun e => by injection e with e; have := HPS.out; omega) (fun e => HNE.out _ e.symm rfl)]
    exact HNB.out
  obtain ⟨rfl, -⟩ := hw
  have q3 := block_cell hc2 2
  simp at q3
  have hs2 := HP2.out.size
  have HWR2 := Lib.hid (write_own (h + 6) (h + 3) vP p t w2 HP2.out.bp hs2 (by omega))
  clear hp2 hc2 q2
  go_wp2_with fail
  refine (HWR2.out).mono ?_; rintro e w3 hw
  obtain ⟨v3, hp3⟩ := HP2.out.writeP hw
  have HP3 := Lib.hid hp3
  have HB3 := Lib.hid (show ∀ a, Below h a w → Below h a w3 from fun a hb => wr_below (HB2.out a hb) (by omega) (by omega) (fun q hq => HP2.out.bp.base hq) hw)
  obtain ⟨rfl, -⟩ := hw
  clear hp3 q3
  go_wp2_with fail
  go_end0
  exact ⟨rfl, ⟨_, _, _, HP3.out⟩, HB3.out⟩
end Go.Proofs.YtfbjbgknfdekfaaDoor
