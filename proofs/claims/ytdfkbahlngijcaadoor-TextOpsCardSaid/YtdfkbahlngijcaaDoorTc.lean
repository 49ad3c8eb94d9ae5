/- Text: hexadecimal digits; quote of the program, String of the reference. -/
import Derived.Test.YtdfkbahlngijcaaDoorTb
import Derived.Deep.RegionHeld3
import Derived.Deep.AppendLies
import Derived.Lib.ItoaNum
import Derived.Lib.UnsafeStr
import Derived.Laws.IdiomStrings
namespace Go.Proofs.YtdfkbahlngijcaaDoor
open Go.RowKit
set_option linter.unusedVariables false

def hexD (n : Nat) : UInt8 := UInt8.ofNat (if n < 10 then 48 + n else 87 + n)
def hexB (b : UInt8) : List UInt8 := [hexD (b.toNat / 16), hexD (b.toNat % 16)]
def hexL (l : List UInt8) : List UInt8 := l.flatMap hexB
def quoteL (t : ByteArray) : List UInt8 := 43 :: hexL t.data.toList
theorem infoU8 : (Tryd.prog.info? 5).map (fun i => (i.zero, i.size, i.bytes)) = some (some (.int .u8 0), 1, 1) := by kernel_rfl
theorem and15 : ∀ n : Nat, n < 256 → bits BinOp.and IntKind.u8 (n : Int) 15 = ((n % 16 : Nat) : Int) := by decide +kernel
theorem wrap8 (n : Int) (h0 : 0 ≤ n) (h1 : n < 256) : IntKind.u8.wrap n = n := by
  simp [IntKind.wrap, IntKind.bits, IntKind.signed]
  omega
theorem hexC : ∀ n : Nat, (h : n < 16) → (({ data := #[48, 49, 50, 51, 52, 53, 54, 55, 56, 57, 97, 98, 99, 100, 101, 102] } : ByteArray)[n]'h) = hexD n := by decide +kernel
theorem hexL_len : ∀ (l : List UInt8), (hexL l).length = 2 * l.length
  | [] => rfl
  | b :: l => by
    have := hexL_len l
    unfold hexL at this ⊢
    rw [List.flatMap_cons, List.length_append, this]
    show 2 + _ = 2 * (l.length + 1)
    omega
theorem hexL_take (t : ByteArray) {j : Nat} (h : j < t.size) : hexL (t.data.toList.take (j + 1)) = hexL (t.data.toList.take j) ++ hexB t[j] := by
  have hl : j < t.data.toList.length := by rw [Array.length_toList]; exact h
  rw [List.take_succ_eq_append_getElem hl]
  unfold hexL
  rw [List.flatMap_append]
  rfl
theorem quote_len (t : ByteArray) : (quoteL t).length = 2 * t.size + 1 := by
  unfold quoteL
  rw [List.length_cons, hexL_len, Array.length_toList]
  rfl
theorem quote_end (t : ByteArray) : 43 :: hexL (t.data.toList.take t.size) = quoteL t := by
  unfold quoteL
  rw [List.take_of_length_le (by rw [Array.length_toList]; exact Nat.le_refl _)]
theorem byteCells_one (l : List UInt8) : ∀ u ∈ Lib.byteCells l, u.oneCell' = true := fun u hu => by
  obtain ⟨b, _, rfl⟩ := List.mem_map.1 hu
  rfl
theorem u8lt (b : UInt8) : b.toNat < 256 := UInt8.toNat_lt b
theorem own_typ1 {w : World} {B s : Nat} {t : TypeId} {v : Value} {n : Nat} {l : List Value} (h : w.ownsRow B t s v n l) {q : Nat} (hq : v.ownBlock = some q) : B ≤ q ∧ ∃ cur, w.heap[q]? = some (.cells cur t (0, 0)) := by
  obtain ⟨-, ⟨h, -⟩ | ⟨g, cap', cur, h1, hg, h2, -⟩⟩ := h
  · subst h; cases hq
  · subst h1; cases hq; exact ⟨hg, cur, h2⟩
/-- the bytes of a row of the call's own, as a string -/
theorem own_str {w : World} {B : Nat} {v : Value} {l : List UInt8} {n : Nat} (h : w.ownsRow B 5 1 v n (Lib.byteCells l)) (hn : l.length = n) (hl : 0 < n) :
    ∃ g cap, v = .slice (some ⟨g, 0, none⟩) n cap ∧ (convert 73 9 (.slice (some ⟨g, 0, none⟩) n cap)).run Tryd.prog w = .ok (.string ⟨l.toArray⟩) w := by
  subst hn
  rcases h with ⟨_, ⟨_, h⟩ | ⟨g, cap, cur, rfl, hb, hg, hcap, hm, hs, htk⟩⟩
  · omega
  · refine ⟨g, cap, rfl, run_convert_bytes_back (P := Tryd.prog) w 73 9 5 ⟨g, 0, none⟩ cap l Tryd.underlying73 Tryd.underlying5 Tryd.underlying9 (fun j hj => ?_)⟩
    rw [add_to, block_cell hg, Nat.zero_add]
    have e := congrArg (fun l => l[j]?) htk
    rw [List.getElem?_take_of_lt (by omega), Array.getElem?_toList] at e
    rw [e]
    simp [Lib.byteCells, hj]
theorem bytes_one (w : World) (c : UInt8) : (w.alloc (.cells #[.int .u8 (c.toNat : Int)] 5)).ownsRow w.heap.size 5 1 (.slice (some ⟨w.heap.size, 0, none⟩) 1 1) 1 (Lib.byteCells [c]) :=
  ⟨rfl, .inr ⟨w.heap.size, 1, _, rfl, Nat.le_refl _, block_new _ _, Nat.le_refl _, by decide, rfl, rfl⟩⟩
theorem hex_step (t : ByteArray) (b : UInt8) (l : List UInt8) : Lib.byteCells (43 :: (l ++ hexB b)) = Lib.byteCells (43 :: l) ++ [Value.int .u8 (hexD (b.toNat / 16)).toNat, Value.int .u8 (hexD (b.toNat % 16)).toNat] := by
  simp [Lib.byteCells, hexB]
end Go.Proofs.YtdfkbahlngijcaaDoor
