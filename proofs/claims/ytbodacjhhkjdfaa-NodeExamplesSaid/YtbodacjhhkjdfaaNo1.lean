/- What Decode returns: plain definitions. -/
import Derived.Test.YtbodacjhhkjdfaaNy
import Derived.Test.YtbodacjhhkjdfaaRegB
namespace Go.Proofs.Ytbodacjhhkjdfaa
open Go.RowKit

def hdN (s : ByteArray) : Nat := (s.data.toList.headD 0).toNat
def kidAt (s : ByteArray) (i : Nat) : Kid := ((getV (s.extract i (i + 6)) : Int), (getV (s.extract (i + 6) (i + 8)) : Int), (getV (s.extract (i + 8) (i + 10)) : Int), (getV (s.extract (i + 10) (i + 12)) : Int))
def kidsTo (s : ByteArray) (k : Nat) : List Kid := (List.range k).map fun j => kidAt s (1 + 12 * j)
theorem kidsTo_len (s : ByteArray) (k : Nat) : (kidsTo s k).length = k := by simp [kidsTo]
theorem kidsTo_succ (s : ByteArray) (k : Nat) : kidsTo s (k + 1) = kidsTo s k ++ [kidAt s (1 + 12 * k)] := by
  unfold kidsTo
  rw [List.range_succ, List.map_append]; rfl
def decX (s : ByteArray) : Nd := if hdN s = 0 then ⟨0, s.extract 1 s.size, []⟩ else ⟨hdN s, ⟨#[]⟩, kidsTo s ((s.size - 1) / 12)⟩
def decOK (s : ByteArray) : Prop := 0 < s.size ∧ (hdN s = 0 ∨ (s.size - 1) % 12 = 0) ∧ checkN (decX s) = 0
instance (s : ByteArray) : Decidable (decOK s) := by unfold decOK; infer_instance
def decN (s : ByteArray) : Nd := if decOK s then decX s else noN
def decE (s : ByteArray) : Int := if decOK s then 0 else 4

theorem hdN_at (s : ByteArray) (h : 0 < s.size) : s[0].toNat = hdN s := by
  unfold hdN
  obtain ⟨⟨l⟩⟩ := s
  cases l with
  | nil => simp [ByteArray.size] at h
  | cons a l => rfl
theorem hdN_lt (s : ByteArray) : hdN s < 256 := (s.data.toList.headD 0).toNat_lt
theorem nonempty_list {s : ByteArray} (h : 0 < s.size) : s.toList.isEmpty = false := by
  rw [ByteArray.toList_eq]
  rcases e : s.data.toList with _ | _
  · have : s.size = s.data.toList.length := rfl
    rw [e, List.length_nil] at this
    omega
  · rfl
theorem empty_of {s : ByteArray} (h : s.size = 0) : s = ⟨#[]⟩ := by
  obtain ⟨d⟩ := s
  have : d = #[] := Array.eq_empty_of_size_eq_zero h
  rw [this]
theorem ex_size (s : ByteArray) (i j : Nat) (hj : j ≤ s.size) : (s.extract i j).size = j - i := by
  rw [ByteArray.size_extract]; omega
theorem ex_ex (s : ByteArray) (i p q : Nat) (hq : i + q ≤ s.size) : (s.extract i s.size).extract p q = s.extract (i + p) (i + q) := by
  rw [ByteArray.extract_extract, Nat.min_eq_left hq]
theorem getV_lt (s : ByteArray) (n : Nat) (h : s.size = n) : getV s < 256 ^ n := by rw [← h]; exact getTo_lt s s.size (Nat.le_refl _)
theorem get_at (t : ByteArray) (g : Nat) (h : getV t = g) (ht : t.size ≤ 7) (w : World) :
    Calls Try.prog 59 #[.string t] w fun e w' => e = .returned (.int .u64 g) ∧ w = w' := by rw [← h]; exact get_any t w ht
theorem value_at (t : ByteArray) (g : Nat) (h : getV t = g) (ht : t.size ≤ 7) (w : World) :
    Calls Try.prog 60 #[.string t] w fun e w' => e = .returned (.int .u64 g) ∧ w = w' := by rw [← h]; exact value_any t w ht
/-- a slice of one child in memory of its own -/
def SlK (k : Kid) (v : Value) (w : World) : Prop := ∃ b, v = .slice (some ⟨b, 0, none⟩) 1 1 ∧ w.heap[b]? = some (.cells #[.int .u64 k.1, .int .i64 k.2.1, .int .i64 k.2.2.1, .int .i64 k.2.2.2] 49 (0, 0))
theorem Stab_slk (k : Kid) : Stab (SlK k) := by
  rintro v w w' ⟨b, hv, h⟩ hb
  exact ⟨b, hv, block_below hb h (block_lt h)⟩
theorem slk_news {k : Kid} {w : World} {b : Nat} (h : w.heap[b]? = some (.cells #[.int .u64 k.1, .int .i64 k.2.1, .int .i64 k.2.2.1, .int .i64 k.2.2.2] 49 (0, 0))) : ∀ j u, (flatR fK [k])[j]? = some u → w.cell? ((⟨b, 0, none⟩ : Addr).add j) = some u := by
  intro j u hj
  rw [add_to, block_cell h, Nat.zero_add, ← hj, flatR_one]
  exact (Array.getElem?_toList).symm
theorem decN_ok {s : ByteArray} (h : decOK s) : decN s = decX s ∧ decE s = 0 := ⟨if_pos h, if_pos h⟩
theorem decN_no {s : ByteArray} (h : ¬ decOK s) : decN s = noN ∧ decE s = 4 := ⟨if_neg h, if_neg h⟩
/-- behind the append, and behind the store -/
def AfterApp (w : World) (base bv hd k : Nat) (ao : Option Addr) (cap : Nat) (l : List Kid) (i : Nat) (p : Nat) (vs : Nat → Value) (u : World) : Prop :=
  ∃ ao' cap', vs i = .slice ao' (k + 1) cap' ∧ OwnKs base u (.slice ao' (k + 1) cap') (k + 1) l ∧ u.heap[bv]? = some (.cells #[.int .i64 hd, .string ⟨#[]⟩, if p = 1 then .slice ao k cap else .slice ao' (k + 1) cap'] 24 (0, 0)) ∧
    u.heap[w.heap.size]? = some (.cells #[.int .i64 0, .string ⟨#[]⟩, .slice none 0 0] 24 (0, 0)) ∧ base ≤ u.heap.size ∧ Below w.heap.size w u
theorem OwnKs.setBelow {base : Nat} {w : World} {v : Value} {n : Nat} {l : List Kid} (h : OwnKs base w v n l) {b i : Nat} (hb : b < base) (u : Value) : OwnKs base (w.setCell ⟨b, i, none⟩ u) v n l := h.setCell hb u
end Go.Proofs.Ytbodacjhhkjdfaa
