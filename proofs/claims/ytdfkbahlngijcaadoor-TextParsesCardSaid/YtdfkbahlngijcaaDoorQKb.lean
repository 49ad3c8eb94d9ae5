/- Pieces of a delta: plain model; valid, sizes, Lengths, Check; the reference's Piece and Check. (printed by slim.py.) -/
import Derived.Test.YtdfkbahlngijcaaDoorQKa
import Derived.Deep.QuietTactic
import Derived.BigQuiet
import Derived.BigRegion
import Derived.OwnWalk
import Derived.Deep.RegionHeld3
import Derived.Deep.AppendLies
import Derived.Lib.ItoaNum
import Derived.Lib.UnsafeStr
import Derived.Laws.IdiomStrings
import Derived.Test.YtdfkbahlngijcaaDoorSh
import Derived.Deep.CutRange
import Derived.Deep.DeepCutAuto
import Derived.Lib.SmallJoins
import Derived.Lib.ItoaMem
import Derived.Lib.AppendIntMem
import Derived.Deep.RegionLaw
import Derived.Lib.AppendStr
import Derived.Laws.BytesArg
namespace Go.Proofs.YtdfkbahlngijcaaDoor
open Go.RowKit
set_option linter.unusedVariables false

theorem below_two {w w1 w2 : World} (h : Below w.heap.size w w1) (k : Below w1.heap.size w1 w2) : Below w.heap.size w w2 := h.trans (k.mono h.size)
theorem below_drewN {B : Nat} {w w1 : World} (h : Below B w w1) (n : Nat) : Below B w (w1.drewN n) := ⟨h.os, h.tape, h.output, h.size, h.block⟩
structure Pc where
  k : Int
  n : Int
  t : ByteArray
def fP (p : Pc) : List Value := [.int .u8 p.k, .int .i64 p.n, .string p.t]
theorem fP_len (p : Pc) : (fP p).length = 3 := rfl
def okP (p : Pc) : Bool := ((p.k == 1 || p.k == 3) && decide (1 ≤ p.n) && decide (p.t.size = 0)) || (p.k == 2 && p.n == 0 && decide (p.t.size ≠ 0))
theorem okP_cases {p : Pc} (h : okP p = true) : (p.k = 1 ∧ 1 ≤ p.n ∧ p.t.size = 0) ∨ (p.k = 3 ∧ 1 ≤ p.n ∧ p.t.size = 0) ∨ (p.k = 2 ∧ p.n = 0 ∧ p.t.size ≠ 0) := by
  unfold okP at h
  simp only [Bool.or_eq_true, Bool.and_eq_true, beq_iff_eq, decide_eq_true_eq] at h
  rcases h with ⟨⟨h1 | h1, h2⟩, h3⟩ | ⟨⟨h1, h2⟩, h3⟩
  · exact .inl ⟨h1, h2, h3⟩
  · exact .inr (.inl ⟨h1, h2, h3⟩)
  · exact .inr (.inr ⟨h1, h2, h3⟩)
theorem str_empty {t : ByteArray} (h : t.size = 0) : t = ⟨#[]⟩ := by
  obtain ⟨a⟩ := t
  have : a = #[] := Array.eq_empty_of_size_eq_zero h
  rw [this]
theorem str_some {t : ByteArray} (h : t.size ≠ 0) : t.toList.isEmpty = false := by
  rw [ByteArray.toList_eq]
  rcases hh : t.data.toList with _ | _
  · exact absurd (by show t.data.size = 0; rw [← Array.length_toList, hh]; rfl) h
  · rfl
theorem row_at {α : Type} {f : α → List Value} {s : Nat} (hf : ∀ x, (f x).length = s) {w : World} {l : List α} {b off : Nat} (h : ∀ j u, (flatR f l)[j]? = some u → w.cell? ⟨b, off + j, none⟩ = some u) (k : Nat) (hk : k < l.length) (i : Nat) (u : Value) (hi : (f l[k])[i]? = some u) : w.cell? ⟨b, off + k * s + i, none⟩ = some u := by
  have hi' : i < s := by
    have := (List.getElem?_eq_some_iff.1 hi).1
    rw [hf] at this; exact this
  have := h (k * s + i) u (by rw [flatR_at hf l k i hk hi']; exact hi)
  rw [← Nat.add_assoc] at this
  exact this
/-- piece j of a row of pieces -/
theorem IsR.pc {w w' : World} {ao : Option Addr} {len : Nat} {l : List Pc} (h : IsR fP w ao len l) (hb : Below w.heap.size w w') {j : Nat} (hj : j < len) :
    ∃ bb off, ao = some ⟨bb, off, none⟩ ∧ bb < w.heap.size ∧ ∀ hl : j < l.length, w'.cell? ⟨bb, off + j * 3, none⟩ = some (.int .u8 l[j].k) ∧ w'.cell? ⟨bb, off + j * 3 + 1, none⟩ = some (.int .i64 l[j].n) ∧ w'.cell? ⟨bb, off + j * 3 + 2, none⟩ = some (.string l[j].t) := by
  obtain ⟨bb, off, e, hbb, hc⟩ := h.2 (by omega)
  refine ⟨bb, off, e, hbb, fun hl => ?_⟩
  have hat := row_at fP_len (f := fP) (l := l) hc j hl
  have g := fun i (u : Value) (hi : (fP l[j])[i]? = some u) => (hb.cell (p := ⟨bb, off + j * 3 + i, none⟩) hbb).trans (hat i u hi)
  exact ⟨g 0 _ rfl, g 1 _ rfl, g 2 _ rfl⟩

end Go.Proofs.YtdfkbahlngijcaaDoor

namespace Go.Proofs.YtdfkbahlngijcaaDoor
set_option linter.unusedVariables false

inductive Dp where
  | ret (n : Nat)
  | ins (t : List UInt8)
  | del (n : Nat)
namespace Dp
def ok : Dp → Prop
  | ret n => 0 < n
  | ins t => t ≠ []
  | del n => 0 < n
def out : Dp → Nat
  | ret n => n
  | ins t => t.length
  | del _ => 0
def Ok : List Dp → Prop
  | [] => True
  | p :: l => p.ok ∧ Ok l
def cons : Dp → List Dp → List Dp
  | ret n, ret m :: l => ret (n + m) :: l
  | ins t, ins u :: l => ins (t ++ u) :: l
  | del n, del m :: l => del (n + m) :: l
  | del n, ins u :: del m :: l => ins u :: del (n + m) :: l
  | del n, ins u :: l => ins u :: del n :: l
  | p, l => p :: l
def form : List Dp → List Dp
  | [] => []
  | p :: l => cons p (form l)
def fits : Dp → Dp → Prop
  | ret _, ret _ => False
  | ins _, ins _ => False
  | del _, del _ => False
  | del _, ins _ => False
  | _, _ => True
def hd (p : Dp) : List Dp → Prop
  | [] => True
  | q :: _ => fits p q
/-- behind it a gap begins: nothing yet, or a kept piece -/
def EndsR (l : List Dp) : Prop := ∀ u p, l = u ++ [p] → ∃ n, p = ret n
theorem EndsR.nil : EndsR [] := fun u p e => by simp at e
end Dp
end Go.Proofs.YtdfkbahlngijcaaDoor

namespace Go.Proofs.YtdfkbahlngijcaaDoor
open Go.RowKit
set_option linter.unusedVariables false

def hexD (n : Nat) : UInt8 := UInt8.ofNat (if n < 10 then 48 + n else 87 + n)
def hexB (b : UInt8) : List UInt8 := [hexD (b.toNat / 16), hexD (b.toNat % 16)]
def hexL (l : List UInt8) : List UInt8 := l.flatMap hexB
def quoteL (t : ByteArray) : List UInt8 := 43 :: hexL t.data.toList
theorem infoU8 : (Tryd.prog.info? 5).map (fun i => (i.zero, i.size, i.bytes)) = some (some (.int .u8 0), 1, 1) := by kernel_rfl
theorem wrap8 (n : Int) (h0 : 0 ≤ n) (h1 : n < 256) : IntKind.u8.wrap n = n := by
  simp [IntKind.wrap, IntKind.bits, IntKind.signed]
  omega
theorem hexC : ∀ n : Nat, (h : n < 16) → (({ data := #[48, 49, 50, 51, 52, 53, 54, 55, 56, 57, 97, 98, 99, 100, 101, 102] } : ByteArray)[n]'h) = hexD n := by decide +kernel
theorem hexL_len : ∀ (l : List UInt8), (hexL l).length = 2 * l.length
  | [] => rfl
  | b :: l => by
    have := hexL_len l
    unfold hexL at this ⊢
    rw [List.flatMap_cons, List.length_append, this]
    show 2 + _ = 2 * (l.length + 1)
    omega
theorem hexL_take (t : ByteArray) {j : Nat} (h : j < t.size) : hexL (t.data.toList.take (j + 1)) = hexL (t.data.toList.take j) ++ hexB t[j] := by
  have hl : j < t.data.toList.length := by rw [Array.length_toList]; exact h
  rw [List.take_succ_eq_append_getElem hl]
  unfold hexL
  rw [List.flatMap_append]
  rfl
theorem quote_len (t : ByteArray) : (quoteL t).length = 2 * t.size + 1 := by
  unfold quoteL
  rw [List.length_cons, hexL_len, Array.length_toList]
  rfl
theorem quote_end (t : ByteArray) : 43 :: hexL (t.data.toList.take t.size) = quoteL t := by
  unfold quoteL
  rw [List.take_of_length_le (by rw [Array.length_toList]; exact Nat.le_refl _)]
theorem u8lt (b : UInt8) : b.toNat < 256 := UInt8.toNat_lt b
theorem own_typ1 {w : World} {B s : Nat} {t : TypeId} {v : Value} {n : Nat} {l : List Value} (h : w.ownsRow B t s v n l) {q : Nat} (hq : v.ownBlock = some q) : B ≤ q ∧ ∃ cur, w.heap[q]? = some (.cells cur t (0, 0)) := by
  obtain ⟨-, ⟨h, -⟩ | ⟨g, cap', cur, h1, hg, h2, -⟩⟩ := h
  · subst h; cases hq
  · subst h1; cases hq; exact ⟨hg, cur, h2⟩
/-- the bytes of a row of the call's own, as a string -/
theorem own_str {w : World} {B : Nat} {v : Value} {l : List UInt8} {n : Nat} (h : w.ownsRow B 5 1 v n (Lib.byteCells l)) (hn : l.length = n) (hl : 0 < n) :
    ∃ g cap, v = .slice (some ⟨g, 0, none⟩) n cap ∧ (convert 73 9 (.slice (some ⟨g, 0, none⟩) n cap)).run Tryd.prog w = .ok (.string ⟨l.toArray⟩) w := by
  subst hn
  rcases h with ⟨_, ⟨_, h⟩ | ⟨g, cap, cur, rfl, hb, hg, hcap, hm, hs, htk⟩⟩
  · omega
  · refine ⟨g, cap, rfl, run_convert_bytes_back (P := Tryd.prog) w 73 9 5 ⟨g, 0, none⟩ cap l Tryd.underlying73 Tryd.underlying5 Tryd.underlying9 (fun j hj => ?_)⟩
    rw [add_to, block_cell hg, Nat.zero_add]
    have e := congrArg (fun l => l[j]?) htk
    rw [List.getElem?_take_of_lt (by omega), Array.getElem?_toList] at e
    rw [e]
    simp [Lib.byteCells, hj]
theorem bytes_one (w : World) (c : UInt8) : (w.alloc (.cells #[.int .u8 (c.toNat : Int)] 5)).ownsRow w.heap.size 5 1 (.slice (some ⟨w.heap.size, 0, none⟩) 1 1) 1 (Lib.byteCells [c]) :=
  ⟨rfl, .inr ⟨w.heap.size, 1, _, rfl, Nat.le_refl _, block_new _ _, Nat.le_refl _, by decide, rfl, rfl⟩⟩
theorem hex_step (t : ByteArray) (b : UInt8) (l : List UInt8) : Lib.byteCells (43 :: (l ++ hexB b)) = Lib.byteCells (43 :: l) ++ [Value.int .u8 (hexD (b.toNat / 16)).toNat, Value.int .u8 (hexD (b.toNat % 16)).toNat] := by
  simp [Lib.byteCells, hexB]
end Go.Proofs.YtdfkbahlngijcaaDoor

namespace Go.Proofs.YtdfkbahlngijcaaDoor
open Go.RowKit
set_option linter.unusedVariables false

def digC (n : Nat) : UInt8 := UInt8.ofNat (48 + n % 10)
theorem decDigits_small {n : Nat} (h : n < 10) : Lib.decDigits n = [digC n] := by
  rw [Lib.decDigits, dif_pos h]
  unfold digC
  rw [Nat.mod_eq_of_lt h]
theorem decDigits_step {n : Nat} (h : ¬ n < 10) : Lib.decDigits n = Lib.decDigits (n / 10) ++ [digC n] := by
  rw [Lib.decDigits, dif_neg h]
  rfl
theorem decDigits_len : ∀ (k n : Nat), 0 < k → n < 10 ^ k → (Lib.decDigits n).length ≤ k
  | 0, _, h, _ => absurd h (Nat.lt_irrefl 0)
  | k + 1, n, _, hn => by
    by_cases h : n < 10
    · rw [decDigits_small h]
      show 1 ≤ k + 1
      omega
    · rw [decDigits_step h, List.length_append]
      have hk : 0 < k := by
        rcases Nat.eq_zero_or_pos k with e | e
        · subst e; omega
        · exact e
      have := decDigits_len k (n / 10) hk (by rw [Nat.pow_succ] at hn; omega)
      show _ + 1 ≤ k + 1
      omega
theorem digC_val (n : Nat) : ((digC n).toNat : Int) = 48 + ((n % 10 : Nat) : Int) := by
  unfold digC
  rw [UInt8.toNat_ofNat']
  omega

end Go.Proofs.YtdfkbahlngijcaaDoor

namespace Go.Proofs.YtdfkbahlngijcaaDoor
set_option linter.unusedVariables false

/-- the words between blanks -/
def splitW : List UInt8 → List (List UInt8)
  | [] => [[]]
  | c :: l => if c = 32 then [] :: splitW l else match splitW l with
    | [] => [[c]]
    | w :: ws => (c :: w) :: ws
def joinW : List (List UInt8) → List UInt8
  | [] => []
  | [w] => w
  | w :: v :: ws => w ++ 32 :: joinW (v :: ws)
theorem splitW_cons (c : UInt8) (l : List UInt8) : splitW (c :: l) = if c = 32 then [] :: splitW l else match splitW l with
    | [] => [[c]]
    | w :: ws => (c :: w) :: ws := rfl
theorem splitW_ne : ∀ l, splitW l ≠ []
  | [] => by simp [splitW]
  | c :: l => by
    rw [splitW_cons]
    by_cases h : c = 32
    · simp [h]
    · rw [if_neg h]
      rcases hh : splitW l with _ | ⟨w, ws⟩ <;> simp
theorem joinW_cons (c : UInt8) (w : List UInt8) (ws : List (List UInt8)) : joinW ((c :: w) :: ws) = c :: joinW (w :: ws) := by
  cases ws <;> rfl
theorem join_split : ∀ l, joinW (splitW l) = l
  | [] => rfl
  | c :: l => by
    have ih := join_split l
    have hne := splitW_ne l
    rw [splitW_cons]
    rcases hh : splitW l with _ | ⟨w, ws⟩
    · exact absurd hh hne
    · rw [hh] at ih
      by_cases h : c = 32
      · subst h
        rw [if_pos rfl]
        show [] ++ 32 :: joinW (w :: ws) = 32 :: l
        rw [ih]; rfl
      · rw [if_neg h]
        show joinW ((c :: w) :: ws) = _
        rw [joinW_cons, ih]
theorem split_word : ∀ (w : List UInt8), (∀ c ∈ w, c ≠ 32) → splitW w = [w]
  | [], _ => rfl
  | c :: w, h => by
    rw [splitW_cons, if_neg (h c (List.mem_cons_self ..)), split_word w fun d hd => h d (List.mem_cons_of_mem _ hd)]
theorem split_app : ∀ (w l : List UInt8), (∀ c ∈ w, c ≠ 32) → splitW (w ++ 32 :: l) = w :: splitW l
  | [], l, _ => by
    show splitW (32 :: l) = _
    rw [splitW_cons, if_pos rfl]
  | c :: w, l, h => by
    show splitW (c :: (w ++ 32 :: l)) = _
    rw [splitW_cons, if_neg (h c (List.mem_cons_self ..)), split_app w l fun d hd => h d (List.mem_cons_of_mem _ hd)]
theorem split_join : ∀ (ws : List (List UInt8)), ws ≠ [] → (∀ w ∈ ws, ∀ c ∈ w, c ≠ 32) → splitW (joinW ws) = ws
  | [], h, _ => absurd rfl h
  | [w], _, h => split_word w (h w (List.mem_cons_self ..))
  | w :: v :: ws, _, h => by
    show splitW (w ++ 32 :: joinW (v :: ws)) = _
    rw [split_app w _ (h w (List.mem_cons_self ..)), split_join (v :: ws) (by simp) fun u hu => h u (List.mem_cons_of_mem _ hu)]
theorem digC_nat (n : Nat) : (digC n).toNat = 48 + n % 10 := by
  have := digC_val n
  omega
theorem digC_dig (n : Nat) : ¬ (digC n < 48 ∨ 57 < digC n) := by
  have h := digC_nat n
  rw [UInt8.lt_iff_toNat_lt, UInt8.lt_iff_toNat_lt]
  rw [h]
  show ¬ (48 + n % 10 < 48 ∨ 57 < 48 + n % 10)
  omega
theorem decDigits_ne : ∀ n, Lib.decDigits n ≠ [] := fun n => by
  by_cases h : n < 10
  · rw [decDigits_small h]; simp
  · rw [decDigits_step h]; simp
theorem dig_eq {c : UInt8} (h : ¬ (c < 48 ∨ 57 < c)) : 48 ≤ c.toNat ∧ c.toNat ≤ 57 := by
  rw [UInt8.lt_iff_toNat_lt, UInt8.lt_iff_toNat_lt] at h
  have e1 : (48 : UInt8).toNat = 48 := rfl
  have e2 : (57 : UInt8).toNat = 57 := rfl
  omega
theorem dec_ext {n : Nat} {c : UInt8} (hn : 1 ≤ n) (hc : ¬ (c < 48 ∨ 57 < c)) : Lib.decDigits (10 * n + (c.toNat - 48)) = Lib.decDigits n ++ [c] := by
  obtain ⟨h1, h2⟩ := dig_eq hc
  rw [decDigits_step (by omega), show (10 * n + (c.toNat - 48)) / 10 = n by omega]
  congr 2
  apply UInt8.toNat_inj.1
  rw [digC_nat]
  omega
theorem dec_one {c : UInt8} (hc : ¬ (c < 48 ∨ 57 < c)) : Lib.decDigits (c.toNat - 48) = [c] := by
  obtain ⟨h1, h2⟩ := dig_eq hc
  rw [decDigits_small (by omega)]
  congr 1
  apply UInt8.toNat_inj.1
  rw [digC_nat]
  omega
/-- hexadecimal digits -/
def halfP (c : UInt8) : Option Nat := if 48 ≤ c ∧ c ≤ 57 then some (c.toNat - 48) else if 97 ≤ c ∧ c ≤ 102 then some (c.toNat - 87) else none
def hexP : List UInt8 → Option (List UInt8)
  | [] => some []
  | [_] => none
  | a :: b :: l => match halfP a, halfP b with
    | some x, some y => (hexP l).map (UInt8.ofNat (16 * x + y) :: ·)
    | _, _ => none
theorem half_hexD : ∀ n : Nat, n < 16 → halfP (hexD n) = some n := by decide +kernel
theorem half_some : ∀ c : UInt8, ∀ x, halfP c = some x → x < 16 ∧ hexD x = c := by
  intro c x h
  unfold halfP at h
  have e1 : (48 : UInt8).toNat = 48 := rfl
  have e2 : (57 : UInt8).toNat = 57 := rfl
  have e3 : (97 : UInt8).toNat = 97 := rfl
  have e4 : (102 : UInt8).toNat = 102 := rfl
  by_cases h1 : 48 ≤ c ∧ c ≤ 57
  · rw [if_pos h1] at h
    obtain rfl := Option.some.inj h
    rw [UInt8.le_iff_toNat_le, UInt8.le_iff_toNat_le] at h1
    refine ⟨by omega, ?_⟩
    unfold hexD
    rw [if_pos (by omega), show 48 + (c.toNat - 48) = c.toNat by omega]
    exact UInt8.ofNat_toNat
  · rw [if_neg h1] at h
    by_cases h2 : 97 ≤ c ∧ c ≤ 102
    · rw [if_pos h2] at h
      obtain rfl := Option.some.inj h
      rw [UInt8.le_iff_toNat_le, UInt8.le_iff_toNat_le] at h2
      refine ⟨by omega, ?_⟩
      unfold hexD
      rw [if_neg (by omega), show 87 + (c.toNat - 87) = c.toNat by omega]
      exact UInt8.ofNat_toNat
    · rw [if_neg h2] at h; cases h
theorem hexP_hexL : ∀ t : List UInt8, hexP (hexL t) = some t
  | [] => rfl
  | b :: t => by
    have hb := u8lt b
    show hexP (hexD (b.toNat / 16) :: hexD (b.toNat % 16) :: hexL t) = _
    unfold hexP
    rw [half_hexD _ (by omega), half_hexD _ (by omega), hexP_hexL t]
    show some (UInt8.ofNat (16 * (b.toNat / 16) + b.toNat % 16) :: t) = _
    rw [Nat.div_add_mod]
    rw [UInt8.ofNat_toNat]
theorem hexP_some : ∀ (l t : List UInt8), hexP l = some t → hexL t = l
  | [], t, h => by
    obtain rfl := Option.some.inj h
    rfl
  | [_], t, h => by cases h
  | a :: b :: l, t, h => by
    unfold hexP at h
    rcases ha : halfP a with _ | x
    · rw [ha] at h; cases h
    rcases hb : halfP b with _ | y
    · rw [ha, hb] at h; cases h
    rw [ha, hb] at h
    rcases hl : hexP l with _ | u
    · rw [hl] at h; cases h
    rw [hl] at h
    obtain rfl := Option.some.inj h
    obtain ⟨x1, x2⟩ := half_some a x ha
    obtain ⟨y1, y2⟩ := half_some b y hb
    show hexB (UInt8.ofNat (16 * x + y)) ++ hexL u = _
    rw [hexP_some l u hl]
    unfold hexB
    have e : (UInt8.ofNat (16 * x + y)).toNat = 16 * x + y := by
      rw [UInt8.toNat_ofNat']
      omega
    rw [e, show (16 * x + y) / 16 = x by omega, show (16 * x + y) % 16 = y by omega, x2, y2]
    rfl

/-- a piece's word -/
def pcT (p : Pc) : List UInt8 := if p.k = 2 then 43 :: hexL p.t.data.toList else if p.k = 3 then 45 :: Lib.decDigits p.n.toNat else 61 :: Lib.decDigits p.n.toNat
def textL (l : List Pc) : List UInt8 := joinW (l.map pcT)
theorem dec_no32 (n : Nat) : ∀ c ∈ Lib.decDigits n, c ≠ 32 := by
  induction n using Nat.strongRecOn with
  | ind n ih =>
    intro c hc
    have hd := digC_nat n
    by_cases h : n < 10
    · rw [decDigits_small h, List.mem_singleton] at hc
      subst hc
      intro e; rw [e] at hd; simp at hd; omega
    · rw [decDigits_step h, List.mem_append, List.mem_singleton] at hc
      rcases hc with hc | rfl
      · exact ih (n / 10) (by omega) c hc
      · intro e; rw [e] at hd; simp at hd; omega
theorem hexD_no32 : ∀ n : Nat, n < 16 → hexD n ≠ 32 := by decide +kernel
theorem hexL_no32 (l : List UInt8) : ∀ c ∈ hexL l, c ≠ 32 := by
  intro c hc
  obtain ⟨b, _, hb⟩ := List.mem_flatMap.1 hc
  have := u8lt b
  simp only [hexB, List.mem_cons, List.not_mem_nil, or_false] at hb
  rcases hb with rfl | rfl
  · exact hexD_no32 _ (by omega)
  · exact hexD_no32 _ (by omega)
end Go.Proofs.YtdfkbahlngijcaaDoor

namespace Go.Proofs.YtdfkbahlngijcaaDoor
set_option linter.unusedVariables false

def ofP (p : Pc) : Dp := if p.k = 2 then .ins p.t.data.toList else if p.k = 3 then .del p.n.toNat else .ret p.n.toNat
theorem of_ok {p : Pc} (h : okP p = true) : (ofP p).ok := by
  obtain ⟨k, n, t⟩ := p
  rcases okP_cases h with ⟨rfl, h2, h3⟩ | ⟨rfl, h2, h3⟩ | ⟨rfl, h2, h3⟩
  · show 0 < n.toNat; simp only at h2; omega
  · show 0 < n.toNat; simp only at h2; omega
  · show t.data.toList ≠ []
    intro e
    exact h3 (by
      show t.data.size = 0
      rw [← Array.length_toList, e]; rfl)
def AllOk (l : List Pc) : Prop := ∀ p ∈ l, okP p = true
theorem AllOk.tail {p : Pc} {l : List Pc} (h : AllOk (p :: l)) : AllOk l := fun q hq => h q (List.mem_cons_of_mem _ hq)
theorem AllOk.head {p : Pc} {l : List Pc} (h : AllOk (p :: l)) : okP p = true := h p (List.mem_cons_self ..)
theorem AllOk.ok : ∀ {l : List Pc}, AllOk l → Dp.Ok (l.map ofP)
  | [], _ => trivial
  | p :: l, h => ⟨of_ok h.head, AllOk.ok h.tail⟩
end Go.Proofs.YtdfkbahlngijcaaDoor

namespace Go.Proofs.YtdfkbahlngijcaaDoor
open Go.RowKit Go.Sort
set_option linter.unusedVariables false

/-- the library's table of powers of ten reads as it is laid -/
def Tab (w : World) : Prop := Lib.TabIs Tryd.prog w "internal/strconv.uint64pow10" .u64 Lib.pow10Tab
theorem Tab.below {w w' : World} (h : Tab w) (hb : Below w.heap.size w w') : Tab w' := Lib.tabBelow_of_tabIs h w' hb
theorem joinW_snoc : ∀ (ws : List (List UInt8)) (v : List UInt8), ws ≠ [] → joinW (ws ++ [v]) = joinW ws ++ 32 :: v
  | [], _, h => absurd rfl h
  | [w], v, _ => rfl
  | w :: u :: ws, v, _ => by
    show w ++ 32 :: joinW ((u :: ws) ++ [v]) = w ++ 32 :: joinW (u :: ws) ++ 32 :: v
    rw [joinW_snoc (u :: ws) v (by simp), List.append_assoc]
    rfl
theorem AllOk.take {l : List Pc} (h : AllOk l) (j : Nat) : AllOk (l.take j) := fun p hp => h p (List.mem_of_mem_take hp)
/-- what was written before piece j -/
def before (l : List Pc) (j : Nat) : List UInt8 := if j = 0 then [] else textL (l.take j) ++ [32]
end Go.Proofs.YtdfkbahlngijcaaDoor

namespace Go.Proofs.YtdfkbahlngijcaaDoor
open Go.RowKit
set_option linter.unusedVariables false

theorem own_below {w w' : World} {B s : Nat} {e : TypeId} {v : Value} {n : Nat} {xs : List Value} (h : w.ownsRow B e s v n xs) (hb : Below w.heap.size w w') : w'.ownsRow B e s v n xs := by
  refine ⟨h.1, ?_⟩
  rcases h.2 with hn | ⟨g, cap, cur, hv, hbg, hg, rest⟩
  · exact .inl hn
  · exact .inr ⟨g, cap, cur, hv, hbg, block_below hb hg (block_lt hg), rest⟩
/-- the bytes of a row of the call's own, nil too, as a string -/
theorem own_conv {w : World} {B : Nat} {v : Value} {l : List UInt8} {n : Nat} (h : w.ownsRow B 5 1 v n (Lib.byteCells l)) (hn : l.length = n) :
    ∃ ao cap, v = .slice ao n cap ∧ (convert 73 9 (.slice ao n cap)).run Tryd.prog w = .ok (.string ⟨l.toArray⟩) w := by
  subst hn
  rcases h with ⟨_, ⟨h1, h2⟩ | ⟨g, cap, cur, rfl, hb, hg, hcap, hm, hs, htk⟩⟩
  · refine ⟨none, 0, by rw [h1, h2], ?_⟩
    rw [h2]
    obtain rfl := List.eq_nil_of_length_eq_zero h2
    exact run_convert_bytes_nil (P := Tryd.prog) w 73 5 Tryd.underlying73 Tryd.underlying5 0 0 _ Tryd.underlying9
  · refine ⟨_, cap, rfl, run_convert_bytes_back (P := Tryd.prog) w 73 9 5 ⟨g, 0, none⟩ cap l Tryd.underlying73 Tryd.underlying5 Tryd.underlying9 (fun j hj => ?_)⟩
    rw [add_to, block_cell hg, Nat.zero_add]
    have e := congrArg (fun l => l[j]?) htk
    rw [List.getElem?_take_of_lt (by omega), Array.getElem?_toList] at e
    rw [e]
    simp [Lib.byteCells, hj]
end Go.Proofs.YtdfkbahlngijcaaDoor

namespace Go.Proofs.YtdfkbahlngijcaaDoor
open Go.RowKit
set_option linter.unusedVariables false

set_option maxRecDepth 100000 in
set_option maxHeartbeats 8000000 in
theorem refString_any (t : ByteArray) (w : World) (ht : t.size ≤ 1000000000) :
    Calls Tryd.prog 33 #[.string t] w fun e w' => e = .returned (.string ⟨(quoteL t).toArray⟩) ∧ Below w.heap.size w w' := by
  obtain ⟨i0, hi0, hz0, hz1, hz2⟩ := info_parts infoU8
  have HB0 := Lib.hid ((Below.refl w.heap.size w).alloc (Nat.le_refl _) (.cells #[.int .u8 43] 5))
  have HO0 := Lib.hid (bytes_one w 43)
  go_enter Tryd.func33, Tryd.ntmps33
  go_wp2_with fail
  go_loopw [4, 5] (fun vb s wr => ∃ (j : Nat), j ≤ t.size ∧ s = .int .i64 j ∧ wr.ownsRow w.heap.size 5 1 vb (2 * j + 1) (Lib.byteCells (43 :: hexL (t.data.toList.take j))) ∧ Below w.heap.size w wr) (fun _ s _ => t.size - (intOf s).toNat)
  case atStart => exact ⟨0, Nat.zero_le _, rfl, HO0.out, HB0.out⟩
  case round =>
    obtain ⟨j, hj, rfl, hown, hbr⟩ := hrel
    have HOWN := Lib.hid hown
    have HBR := Lib.hid hbr
    have hsz := hbr.size
    clear hown hbr HO0 HB0
    by_cases hlt : j < t.size
    · have hj1 : (j : Int) < (t.size : Int) := by omega
      have hj0 : (0 : Int) ≤ (j : Int) := by omega
      have hb := u8lt t[j]
      have hW : IntKind.u8.wrap ((t[j].toNat : Int) / 16) = (t[j].toNat : Int) / 16 := wrap8 _ (by omega) (by omega)
      have hT : Int.tmod (t[j].toNat : Int) 16 = (t[j].toNat : Int) % 16 := Int.tmod_eq_emod_of_nonneg (by omega)
      have h5 : (0 : Int) ≤ (t[j].toNat : Int) % 16 := by omega
      have h6 : (t[j].toNat : Int) % 16 < 16 := by omega
      have h1 : (0 : Int) ≤ (t[j].toNat : Int) / 16 := by omega
      have h2 : (t[j].toNat : Int) / 16 < 16 := by omega
      have h3 : (0 : Int) ≤ ((t[j].toNat % 16 : Nat) : Int) := by omega
      have h4 : ((t[j].toNat % 16 : Nat) : Int) < 16 := by omega
      go_wp2_with fail
      go_region_held3 (fun w' => True) (trivial) ((refine step_append_lies _ (by rfl) _ _ _ (by rfl) w.heap.size 5 i0 _ 1 1 Tryd.underlying73 hi0 hz0 hz1 hz2 rfl (by decide) _ (2 * j + 1) _ (by rfl) ((HOWN.out.alloc _).drew) ⟨wr.heap.size, 0, none⟩ 2 2 [_, _] (by rfl) (by rfl) (World.news_of_block (cs := #[_, _]) (t := 5) (fr := (0, 0)) (heap_alloc_new wr _)) (by simp [Value.oneCell']) (by omega) (by unfold maxLen; omega) (by omega) (by simp; omega) (wr.heap.size + 1) (by simp) ?_; intro gg cap w1 hown1 hgrow hat hlt'))
      all_goals
        have e1 : ((t[j].toNat : Int) / 16).toNat = t[j].toNat / 16 := by omega
        have e2 : ((t[j].toNat : Int) % 16).toNat = t[j].toNat % 16 := by omega
        have k1 := hexC (t[j].toNat / 16) (by omega)
        have k2 := hexC (t[j].toNat % 16) (by omega)
        simp only [e1, e2, k1, k2] at hown1
        have HO := Lib.hid (show w1.ownsRow w.heap.size 5 1 (.slice (some ⟨gg, 0, none⟩) (2 * j + 1 + 2) cap) (2 * (j + 1) + 1) (Lib.byteCells (43 :: hexL (t.data.toList.take (j + 1)))) by
          rw [show 2 * (j + 1) + 1 = 2 * j + 1 + 2 by omega, hexL_take t hlt, hex_step t]
          exact hown1)
        have HB := Lib.hid ((HBR.out.alloc hsz _).drew.grown hgrow (by simp; omega) fun q hq => (own_typ1 HOWN.out hq).1)
        clear hown1 hgrow hat hlt' e1 e2 k1 k2 HOWN HBR
        go_wp2_with fail
        go_roundw
        case rel => exact ⟨j + 1, by omega, by go_num, HO.out, HB.out⟩
        case measure => simp [intOf]; omega
    · obtain rfl : j = t.size := by omega
      obtain ⟨g, cap, rfl, hconv⟩ := own_str HOWN.out (by rw [quote_end, quote_len]) (by omega)
      rw [quote_end] at hconv
      clear HOWN
      go_wp2_with fail
      go_ret
      exact ⟨rfl, HBR.out⟩
end Go.Proofs.YtdfkbahlngijcaaDoor

namespace Go.Proofs.YtdfkbahlngijcaaDoor
open Go.RowKit
set_option linter.unusedVariables false

def numOK (v : Int) : Prop := 0 ≤ v ∧ v ≤ 9999999999
instance (v : Int) : Decidable (numOK v) := by unfold numOK; infer_instance
def numL (v : Int) : List UInt8 := if numOK v then Lib.decDigits v.toNat else []

set_option maxRecDepth 100000 in
set_option maxHeartbeats 4000000 in
theorem refNumber_any (v : Int) (w : World) :
    Calls Tryd.prog 32 #[.int .i64 v] w fun e w' => e = .returned (.tuple #[.string ⟨(numL v).toArray⟩, .bool (decide (numOK v))]) ∧ Below w.heap.size w w' := by
  have HB := Lib.hid (Below.refl w.heap.size w)
  by_cases h0 : v < 0
  · have HE := Lib.hid (show numL v = [] ∧ decide (numOK v) = false by
      have : ¬ numOK v := fun h => by have := h.1; omega
      exact ⟨if_neg this, decide_eq_false this⟩)
    go_enter Tryd.func32, Tryd.ntmps32
    go_wp2_with fail
    go_ret2
    exact ⟨by rw [HE.out.1, HE.out.2] <;> rfl, HB.out⟩
  by_cases h1 : 9999999999 < v
  · have HE := Lib.hid (show numL v = [] ∧ decide (numOK v) = false by
      have : ¬ numOK v := fun h => by have := h.2; omega
      exact ⟨if_neg this, decide_eq_false this⟩)
    go_enter Tryd.func32, Tryd.ntmps32
    go_wp2_with fail
    go_ret2
    exact ⟨by rw [HE.out.1, HE.out.2] <;> rfl, HB.out⟩
  obtain ⟨n, rfl⟩ : ∃ n : Nat, v = n := ⟨v.toNat, by omega⟩
  have hlen := decDigits_len 10 n (by decide) (by omega)
  have HE := Lib.hid (show numL (n : Int) = Lib.decDigits n ∧ decide (numOK (n : Int)) = true by
    have : numOK (n : Int) := ⟨by omega, by omega⟩
    exact ⟨if_pos this, decide_eq_true this⟩)
  have HL := Lib.hid hlen
  clear hlen
  go_enter Tryd.func32, Tryd.ntmps32
  go_wp2_with fail
  go_loopw [0, 4] (fun sv ss wr => ∃ (m : Nat) (l : List UInt8), sv = .int .i64 m ∧ ss = .string ⟨l.toArray⟩ ∧ Lib.decDigits m ++ l = Lib.decDigits n ∧ m ≤ 9999999999 ∧ l.length ≤ 20 ∧ Below w.heap.size w wr) (fun sv _ _ => (intOf sv).toNat)
  case atStart => exact ⟨n, [], rfl, rfl, List.append_nil _, by omega, Nat.zero_le _, HB.out⟩
  case round =>
    obtain ⟨m, l, rfl, rfl, hd, hm, hl, hbr⟩ := hrel
    have HD := Lib.hid hd
    have HBP := Lib.hid (hbr.alloc hbr.size (.cells #[.int .u8 (digC m).toNat] 5))
    obtain ⟨g, cap, e, hconv⟩ := own_str (bytes_one wr (digC m)) rfl (by decide)
    injection e with e1 e2 e3
    injection e1 with e1
    injection e1 with e1
    subst e1 e3
    have hT : Int.tmod (m : Int) 10 = (m : Int) % 10 := Int.tmod_eq_emod_of_nonneg (by omega)
    have hQ : Int.tdiv (m : Int) 10 = ((m / 10 : Nat) : Int) := by rw [Int.tdiv_eq_ediv_of_nonneg (by omega)]; rfl
    have hV : IntKind.u8.wrap (48 + (m : Int) % 10) = ((digC m).toNat : Int) := by
      rw [digC_val]
      rw [wrap8 _ (by omega) (by omega)]
      omega
    have hcat : ¬ (9223372036854775807 < (⟨#[digC m]⟩ : ByteArray).size + (⟨l.toArray⟩ : ByteArray).size) := by
      show ¬ (9223372036854775807 < 1 + l.length)
      omega
    clear hd hbr
    by_cases h10 : m < 10
    · have hm10 : (m : Int) < 10 := by omega
      have hV2 : IntKind.u8.wrap (48 + (m : Int)) = ((digC m).toNat : Int) := by
        rw [← hV, show (m : Int) % 10 = m by omega]
      have HR := Lib.hid (show Lib.decDigits n = digC m :: l by rw [← HD.out, decDigits_small h10]; rfl)
      clear hV hT hQ
      go_wp2_with fail
      go_ret2
      exact ⟨by rw [HE.out.1, HE.out.2, HR.out] <;> rfl, HBP.out⟩
    · have hm10 : ¬ ((m : Int) < 10) := by omega
      have HR := Lib.hid (show Lib.decDigits (m / 10) ++ (digC m :: l) = Lib.decDigits n by rw [← HD.out, decDigits_step h10, List.append_assoc]; rfl)
      have HLE := Lib.hid (show (digC m :: l).length ≤ 20 by
        have h1 := congrArg List.length HR.out
        have h2 := HL.out
        rw [List.length_append] at h1
        omega)
      go_wp2_with fail
      go_roundw
      case rel => exact ⟨m / 10, digC m :: l, by go_num, rfl, HR.out, by omega, HLE.out, HBP.out⟩
      case measure => simp [intOf]; omega
end Go.Proofs.YtdfkbahlngijcaaDoor

namespace Go.Proofs.YtdfkbahlngijcaaDoor
open Go.RowKit
set_option linter.unusedVariables false

structure Rs where
  e : Int
  rev : Int
  sl : Int
  a : Int
  gr : Int
  t : ByteArray
  mb : Int
  mr : Int
  ml : Int
  ik : Int
  fr : Int
  tu : Int
  d : List Pc
def rsV (r : Rs) (ao : Option Addr) (n c : Nat) : Array Value := #[.int .i64 r.e, .int .i64 r.rev, .int .i64 r.sl, .int .i64 r.a, .int .u8 r.gr, .string r.t, .int .i64 r.mb, .int .i64 r.mr, .int .i64 r.ml, .int .u8 r.ik, .int .i64 r.fr, .int .i64 r.tu, .slice ao n c]
end Go.Proofs.YtdfkbahlngijcaaDoor

namespace Go.Proofs.YtdfkbahlngijcaaDoor
set_option linter.unusedVariables false

theorem decDigits_inj : ∀ m n : Nat, Lib.decDigits m = Lib.decDigits n → m = n := by
  intro m
  induction m using Nat.strongRecOn with
  | ind m ih =>
    intro n h
    have hm := digC_nat m
    have hn := digC_nat n
    by_cases h1 : m < 10
    · by_cases h2 : n < 10
      · rw [decDigits_small h1, decDigits_small h2] at h
        have e : digC m = digC n := by injection h
        rw [e] at hm
        omega
      · rw [decDigits_small h1, decDigits_step h2] at h
        have := congrArg List.length h
        rw [List.length_append] at this
        have h3 := List.length_pos_iff.2 (decDigits_ne (n / 10))
        simp at this
        exact absurd this (decDigits_ne (n / 10))
    · by_cases h2 : n < 10
      · rw [decDigits_step h1, decDigits_small h2] at h
        have := congrArg List.length h
        rw [List.length_append] at this
        simp at this
        exact absurd this (decDigits_ne (m / 10))
      · rw [decDigits_step h1, decDigits_step h2] at h
        obtain ⟨g1, g2⟩ := List.append_inj' h rfl
        have e : digC m = digC n := by injection g2
        rw [e] at hm
        have := ih (m / 10) (by omega) (n / 10) g1
        omega
theorem numL_inj {a b : Int} (ha : numOK a) (hb : numOK b) (h : numL a = numL b) : a = b := by
  unfold numL at h
  rw [if_pos ha, if_pos hb] at h
  have := decDigits_inj _ _ h
  have h1 := ha.1
  have h2 := hb.1
  omega
theorem hexL_inj {a b : List UInt8} (h : hexL a = hexL b) : a = b := by
  have h1 := hexP_hexL a
  rw [h, hexP_hexL b] at h1
  exact (Option.some.inj h1).symm
theorem quoteL_inj {a b : ByteArray} (h : quoteL a = quoteL b) : a = b := by
  unfold quoteL at h
  have h1 : hexL a.data.toList = hexL b.data.toList := by injection h
  have h2 := hexL_inj h1
  obtain ⟨x⟩ := a
  obtain ⟨y⟩ := b
  have : x = y := Array.toList_inj.1 h2
  rw [this]
theorem numL_no32 (v : Int) : ∀ c ∈ numL v, c ≠ 32 := by
  intro c hc
  unfold numL at hc
  by_cases h : numOK v
  · rw [if_pos h] at hc
    exact dec_no32 _ c hc
  · rw [if_neg h] at hc
    exact absurd hc List.not_mem_nil
theorem quote_no32 (t : ByteArray) : ∀ c ∈ quoteL t, c ≠ 32 := by
  intro c hc
  unfold quoteL at hc
  rcases List.mem_cons.1 hc with rfl | hc
  · decide
  · exact hexL_no32 _ c hc
end Go.Proofs.YtdfkbahlngijcaaDoor

namespace Go.Proofs.YtdfkbahlngijcaaDoor
open Go.RowKit
set_option linter.unusedVariables false

def fS (x : List UInt8) : List Value := [.string ⟨x.toArray⟩]
theorem infoStr : (Tryd.prog.info? 9).map (fun i => (i.zero, i.size, i.bytes)) = some (some (.string ByteArray.empty), 1, 16) := by kernel_rfl
theorem flatS_one (x : List UInt8) : flatR fS [x] = fS x := by simp [flatR]
theorem flatS_app (a b : List (List UInt8)) : flatR fS (a ++ b) = flatR fS a ++ flatR fS b := by simp [flatR]
/-- the variable out: a slice of strings in a cell -/
structure OutS (B bO : Nat) (v : Value) (ws : List (List UInt8)) (w : World) : Prop where
  out : w.heap[bO]? = some (.cells #[v] 59 (0, 0))
  own : w.ownsRow B 9 1 v ws.length (flatR fS ws)
theorem OutS.below {B bO : Nat} {v : Value} {ws : List (List UInt8)} {w w' : World} (h : OutS B bO v ws w) (hb : Below w.heap.size w w') : OutS B bO v ws w' :=
  ⟨block_below hb h.out (block_lt h.out), own_below h.own hb⟩
/-- blocks of another type stay where a row of the call's own grows -/
theorem keep_append {w w1 w' : World} {B k n i : Nat} {t T : TypeId} {v : Value} {xs : List Value} {cs : Array Value} {fr : Nat × Nat} (h : w.ownsRow B t k v n xs) (hx : w.heap[i]? = some (.cells cs T fr)) (ht : t ≠ T) (hg : w1.grownBy w' v.ownBlock) (e : w1.heap[i]? = some (.cells cs T fr)) : w'.heap[i]? = some (.cells cs T fr) := by
  rw [hg.block i (block_lt e) (fun e' => by
    obtain ⟨-, c1, h1⟩ := own_typ1 h e'.symm
    rw [hx] at h1
    injection h1 with h1
    injection h1 with _ h2 _
    exact ht h2.symm)]
  exact e
theorem ne_of_ty {w : World} {b b' : Nat} {c c' : Array Value} {T T' : TypeId} {fr fr' : Nat × Nat} (h : w.heap[b]? = some (.cells c T fr)) (h' : w.heap[b']? = some (.cells c' T' fr')) (ht : T ≠ T') : b ≠ b' := by
  intro e
  subst e
  rw [h] at h'
  injection h' with h'
  injection h' with _ h2 _
  exact ht h2
theorem own_set {w : World} {B s n b : Nat} {t T : TypeId} {v : Value} {xs : List Value} {cs : Array Value} {fr : Nat × Nat} (h : w.ownsRow B t s v n xs) (hx : w.heap[b]? = some (.cells cs T fr)) (ht : t ≠ T) (i : Nat) (x : Value) : (w.setCell ⟨b, i, none⟩ x).ownsRow B t s v n xs := by
  obtain ⟨h0, h | ⟨g, cap', cur, h1, hg, h2, h3⟩⟩ := h
  · exact ⟨h0, .inl h⟩
  · exact ⟨h0, .inr ⟨g, cap', cur, h1, hg, block_setCell_other h2 (p := ⟨b, i, none⟩) (Ne.symm (ne_of_ty h2 hx ht)) x, h3⟩⟩
end Go.Proofs.YtdfkbahlngijcaaDoor

namespace Go.Proofs.YtdfkbahlngijcaaDoor
open Go.RowKit
set_option linter.unusedVariables false

theorem joinW_most : ∀ (ws : List (List UInt8)) (k : Nat), (∀ x ∈ ws, x.length ≤ k) → (joinW ws).length ≤ ws.length * (k + 1)
  | [], _, _ => Nat.zero_le _
  | [x], k, h => by
    have := h x (List.mem_cons_self ..)
    show x.length ≤ 1 * (k + 1)
    omega
  | x :: y :: r, k, h => by
    have h1 := h x (List.mem_cons_self ..)
    have h2 := joinW_most (y :: r) k fun z hz => h z (List.mem_cons_of_mem _ hz)
    show (x ++ 32 :: joinW (y :: r)).length ≤ ((y :: r).length + 1) * (k + 1)
    rw [List.length_append, List.length_cons, Nat.add_mul]
    omega
def itemV (r : Rs) (ao : Option Addr) (n c : Nat) : Array Value := #[.int .u8 r.ik, .int .i64 r.fr, .int .i64 r.tu, .slice ao n c]
structure ResS (r : Rs) (ao : Option Addr) (n c : Nat) (w0 : World) (v : Value) (ws : List (List UInt8)) (w : World) : Prop where
  box : w.heap[w0.heap.size]? = some (.cells (rsV r ao n c) 29 (0, 0))
  item : w.heap[w0.heap.size + 1]? = some (.cells (itemV r ao n c) 27 (0, 0))
  out : OutS (w0.heap.size + 2) (w0.heap.size + 3) v ws w
  low : Below w0.heap.size w0 w
  size : w0.heap.size + 4 ≤ w.heap.size
theorem ResS.kept {r : Rs} {ao : Option Addr} {n c : Nat} {w0 w w' : World} {v v' : Value} {ws ws' : List (List UInt8)} (h : ResS r ao n c w0 v ws w) (hb : Below (w0.heap.size + 2) w w') (ho : OutS (w0.heap.size + 2) (w0.heap.size + 3) v' ws' w') : ResS r ao n c w0 v' ws' w' :=
  ⟨by rw [hb.block _ (by omega)]; exact h.box, by rw [hb.block _ (by omega)]; exact h.item, ho, h.low.trans (hb.mono (by omega)), by have := hb.size; have := h.size; omega⟩
theorem ResS.later {r : Rs} {ao : Option Addr} {n c : Nat} {w0 w w' : World} {v : Value} {ws : List (List UInt8)} (h : ResS r ao n c w0 v ws w) (hb : Below w.heap.size w w') : ResS r ao n c w0 v ws w' :=
  h.kept (hb.mono (by have := h.size; omega)) (h.out.below hb)
theorem ResS.alloc {r : Rs} {ao : Option Addr} {n c : Nat} {w0 w : World} {v : Value} {ws : List (List UInt8)} (h : ResS r ao n c w0 v ws w) (o : Obj) : ResS r ao n c w0 v ws (w.alloc o) := h.later ((Below.refl _ _).alloc (Nat.le_refl _) o)
theorem ResS.drew {r : Rs} {ao : Option Addr} {n c : Nat} {w0 w : World} {v : Value} {ws : List (List UInt8)} (h : ResS r ao n c w0 v ws w) : ResS r ao n c w0 v ws w.drew := h.later (Below.refl _ _).drew


end Go.Proofs.YtdfkbahlngijcaaDoor

namespace Go.Proofs.YtdfkbahlngijcaaDoor
open Go.RowKit
set_option linter.unusedVariables false

theorem flatS_map : ∀ ws : List (List UInt8), flatR fS ws = ws.map fun x => Value.string ⟨x.toArray⟩
  | [] => rfl
  | x :: l => by rw [show x :: l = [x] ++ l from rfl, flatS_app, flatS_map l, flatS_one]; rfl
theorem numL_len (v : Int) : (numL v).length ≤ 10 := by
  unfold numL
  by_cases h : numOK v
  · rw [if_pos h]
    obtain ⟨h1, h2⟩ := h
    exact decDigits_len 10 _ (by decide) (by omega)
  · rw [if_neg h]
    exact Nat.zero_le _
end Go.Proofs.YtdfkbahlngijcaaDoor

namespace Go.Proofs.YtdfkbahlngijcaaDoor
open Go.RowKit
set_option linter.unusedVariables false

theorem own_form {w : World} {B s : Nat} {e : TypeId} {v : Value} {n : Nat} {xs : List Value} (h : w.ownsRow B e s v n xs) : ∃ ao cap, v = .slice ao n cap ∧ (0 < n → ∃ g, ao = some ⟨g, 0, none⟩) := by
  rcases h.2 with ⟨h1, h2⟩ | ⟨g, cap, cur, h1, _⟩
  · exact ⟨none, 0, by rw [h1, h2], fun h => by omega⟩
  · exact ⟨_, cap, h1, fun _ => ⟨g, rfl⟩⟩
/-- all blocks but two are as they were -/
structure Kept2 (w w' : World) (r1 r2 : Option Nat) : Prop where
  os : w'.os = w.os
  tape : w'.tape = w.tape
  output : w'.output = w.output
  size : w.heap.size ≤ w'.heap.size
  block : ∀ k, k < w.heap.size → some k ≠ r1 → some k ≠ r2 → w'.heap[k]? = w.heap[k]?
theorem Kept2.refl (w : World) (r1 r2 : Option Nat) : Kept2 w w r1 r2 := ⟨rfl, rfl, rfl, Nat.le_refl _, fun _ _ _ _ => rfl⟩
theorem Kept2.trans {w w1 w2 : World} {r1 r2 : Option Nat} (h : Kept2 w w1 r1 r2) (k : Kept2 w1 w2 r1 r2) : Kept2 w w2 r1 r2 :=
  ⟨k.os.trans h.os, k.tape.trans h.tape, k.output.trans h.output, Nat.le_trans h.size k.size, fun i hi h1 h2 => (k.block i (Nat.lt_of_lt_of_le hi h.size) h1 h2).trans (h.block i hi h1 h2)⟩
theorem Kept2.of_grown {w w' : World} {r1 r2 : Option Nat} (h : w.grownBy w' r2) : Kept2 w w' r1 r2 := ⟨h.os, h.tape, h.output, h.size, fun k hk _ h2 => h.block k hk h2⟩
theorem Kept2.below {B : Nat} {a w w' : World} {r1 r2 : Option Nat} (h : Below B a w) (k : Kept2 w w' r1 r2) (hB : B ≤ w.heap.size) (h1 : ∀ q, r1 = some q → B ≤ q) (h2 : ∀ q, r2 = some q → B ≤ q) : Below B a w' :=
  h.trans ⟨k.os, k.tape, k.output, k.size, fun i hi => k.block i (by omega) (fun e => by have := h1 i e.symm; omega) (fun e => by have := h2 i e.symm; omega)⟩
theorem Kept2.alloc (w : World) (o : Obj) (r1 r2 : Option Nat) : Kept2 w (w.alloc o) r1 r2 := by
  have h := (Below.refl w.heap.size w).alloc (Nat.le_refl _) o
  exact ⟨h.os, h.tape, h.output, h.size, fun k hk _ _ => h.block k hk⟩
theorem Kept2.setCell {w : World} {b : Nat} {r2 : Option Nat} (i : Nat) (v : Value) : Kept2 w (w.setCell ⟨b, i, none⟩ v) (some b) r2 :=
  ⟨rfl, rfl, rfl, by simp [World.setCell], fun k _ h1 _ => Below.heap_setCell _ _ _ _ (fun e => h1 (by simp at e; rw [e]))⟩
theorem own_kept2 {w w' : World} {B s : Nat} {t : TypeId} {u : Value} {n : Nat} {l : List Value} {r1 r2 : Option Nat} (hu : w.ownsRow B t s u n l) (k : Kept2 w w' r1 r2) (h1 : ∀ q, u.ownBlock = some q → r1 ≠ some q) (h2 : ∀ q, u.ownBlock = some q → r2 ≠ some q) : w'.ownsRow B t s u n l := by
  obtain ⟨e1, e2⟩ := hu
  refine ⟨e1, ?_⟩
  rcases e2 with e2 | ⟨g, cap, cur, e, hb, hgg, hr⟩
  · exact .inl e2
  · refine .inr ⟨g, cap, cur, e, hb, ?_, hr⟩
    rw [k.block g (block_lt hgg) (fun e' => h1 g (by rw [e]; rfl) e'.symm) (fun e' => h2 g (by rw [e]; rfl) e'.symm)]
    exact hgg
/-- a builder, its row not yet read by String -/
structure Bd (B b : Nat) (v : Value) (l : List UInt8) (w : World) : Prop where
  cells : w.heap[b]? = some (.cells #[.pointer none, v] 75 (0, 0)) ∨ w.heap[b]? = some (.cells #[.pointer (some ⟨b, 0, none⟩), v] 75 (0, 0))
  own : w.ownsRow B 5 1 v l.length (Lib.byteCells l)
  nil : l = [] → v = .slice none 0 0
theorem Bd.kept {B b : Nat} {v : Value} {l : List UInt8} {w w' : World} {r1 r2 : Option Nat} (h : Bd B b v l w) (k : Kept2 w w' r1 r2) (g1 : some b ≠ r1) (g2 : some b ≠ r2) (h1 : ∀ q, v.ownBlock = some q → r1 ≠ some q) (h2 : ∀ q, v.ownBlock = some q → r2 ≠ some q) : Bd B b v l w' := by
  have hlt : b < w.heap.size := by rcases h.cells with e | e <;> exact block_lt e
  exact ⟨by rw [k.block b hlt g1 g2]; exact h.cells, own_kept2 h.own k h1 h2, h.nil⟩
end Go.Proofs.YtdfkbahlngijcaaDoor

