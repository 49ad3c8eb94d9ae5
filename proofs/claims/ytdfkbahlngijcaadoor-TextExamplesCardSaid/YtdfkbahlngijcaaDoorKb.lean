/- Pieces of a delta: plain model; valid, sizes, Lengths, Check; the reference's Piece and Check. Text: hexadecimal digits; quote of the program, String of the reference. Text: decimal digits: the reference's digits and Number. Deltas: the plain model: normal forms, sums, atoms. Deltas: the text form: plain laws of printing and reading. Deltas: pieces as plain deltas; what Check says, in sums; the normal form of pieces. Deltas: the text form of the program: delta.Text. Deltas: the text form of the program: delta.Text. Deltas: the text form of the reference: quartoref03.Text. Text: quote of the program, String of the reference. Text: Number of the reference. Text: results: plain model; empty. Text: results: plain law: different results have different lines. Text: results: the closure put. Text: results: Result of the program. Text: results: Result of the program where Err is OK. -/
import Derived.Test.YtdfkbahlngijcaaDoorKa
import Derived.Deep.QuietTactic
import Derived.BigQuiet
import Derived.BigRegion
import Derived.OwnWalk
import Derived.Deep.RegionHeld3
import Derived.Deep.AppendLies
import Derived.Lib.ItoaNum
import Derived.Lib.UnsafeStr
import Derived.Laws.IdiomStrings
import Derived.Test.YtdfkbahlngijcaaDoorSh
import Derived.Deep.CutRange
import Derived.Deep.DeepCutAuto
import Derived.Lib.SmallJoins
import Derived.Lib.ItoaMem
import Derived.Lib.AppendIntMem
import Derived.Deep.RegionLaw
import Derived.Lib.AppendStr
import Derived.Laws.BytesArg
namespace Go.Proofs.YtdfkbahlngijcaaDoor
open Go.RowKit
set_option linter.unusedVariables false

theorem below_two {w w1 w2 : World} (h : Below w.heap.size w w1) (k : Below w1.heap.size w1 w2) : Below w.heap.size w w2 := h.trans (k.mono h.size)
theorem below_drewN {B : Nat} {w w1 : World} (h : Below B w w1) (n : Nat) : Below B w (w1.drewN n) := ⟨h.os, h.tape, h.output, h.size, h.block⟩
structure Pc where
  k : Int
  n : Int
  t : ByteArray
def fP (p : Pc) : List Value := [.int .u8 p.k, .int .i64 p.n, .string p.t]
theorem fP_len (p : Pc) : (fP p).length = 3 := rfl
def okP (p : Pc) : Bool := ((p.k == 1 || p.k == 3) && decide (1 ≤ p.n) && decide (p.t.size = 0)) || (p.k == 2 && p.n == 0 && decide (p.t.size ≠ 0))
def inP (p : Pc) : Int := if p.k = 1 then p.n else if p.k = 3 then p.n else 0
def outP (p : Pc) : Int := if p.k = 1 then p.n else if p.k = 3 then 0 else p.t.size
def lenL : Int → Int → List Pc → Int × Int × Int
  | i, o, [] => (i, o, 0)
  | i, o, p :: l => if okP p = false then (0, 0, 2) else if 1048576 - i < inP p ∨ 1048576 - o < outP p then (0, 0, 5) else lenL (i + inP p) (o + outP p) l
def lengthsP (l : List Pc) : Int × Int × Int := if 4096 < l.length then (0, 0, 5) else lenL 0 0 l
def checkP (l : List Pc) : Int := (lengthsP l).2.2
theorem lenL_step {i o : Int} {l : List Pc} {j : Nat} (hj : j < l.length) : lenL i o (l.drop j) = if okP l[j] = false then (0, 0, 2) else if 1048576 - i < inP l[j] ∨ 1048576 - o < outP l[j] then (0, 0, 5) else lenL (i + inP l[j]) (o + outP l[j]) (l.drop (j + 1)) := by
  rw [List.drop_eq_getElem_cons hj]
  rfl
theorem okP_cases {p : Pc} (h : okP p = true) : (p.k = 1 ∧ 1 ≤ p.n ∧ p.t.size = 0) ∨ (p.k = 3 ∧ 1 ≤ p.n ∧ p.t.size = 0) ∨ (p.k = 2 ∧ p.n = 0 ∧ p.t.size ≠ 0) := by
  unfold okP at h
  simp only [Bool.or_eq_true, Bool.and_eq_true, beq_iff_eq, decide_eq_true_eq] at h
  rcases h with ⟨⟨h1 | h1, h2⟩, h3⟩ | ⟨⟨h1, h2⟩, h3⟩
  · exact .inl ⟨h1, h2, h3⟩
  · exact .inr (.inl ⟨h1, h2, h3⟩)
  · exact .inr (.inr ⟨h1, h2, h3⟩)
theorem str_empty {t : ByteArray} (h : t.size = 0) : t = ⟨#[]⟩ := by
  obtain ⟨a⟩ := t
  have : a = #[] := Array.eq_empty_of_size_eq_zero h
  rw [this]
theorem str_some {t : ByteArray} (h : t.size ≠ 0) : t.toList.isEmpty = false := by
  rw [ByteArray.toList_eq]
  rcases hh : t.data.toList with _ | _
  · exact absurd (by show t.data.size = 0; rw [← Array.length_toList, hh]; rfl) h
  · rfl
theorem row_at {α : Type} {f : α → List Value} {s : Nat} (hf : ∀ x, (f x).length = s) {w : World} {l : List α} {b off : Nat} (h : ∀ j u, (flatR f l)[j]? = some u → w.cell? ⟨b, off + j, none⟩ = some u) (k : Nat) (hk : k < l.length) (i : Nat) (u : Value) (hi : (f l[k])[i]? = some u) : w.cell? ⟨b, off + k * s + i, none⟩ = some u := by
  have hi' : i < s := by
    have := (List.getElem?_eq_some_iff.1 hi).1
    rw [hf] at this; exact this
  have := h (k * s + i) u (by rw [flatR_at hf l k i hk hi']; exact hi)
  rw [← Nat.add_assoc] at this
  exact this
/-- piece j of a row of pieces -/
theorem IsR.pc {w w' : World} {ao : Option Addr} {len : Nat} {l : List Pc} (h : IsR fP w ao len l) (hb : Below w.heap.size w w') {j : Nat} (hj : j < len) :
    ∃ bb off, ao = some ⟨bb, off, none⟩ ∧ bb < w.heap.size ∧ ∀ hl : j < l.length, w'.cell? ⟨bb, off + j * 3, none⟩ = some (.int .u8 l[j].k) ∧ w'.cell? ⟨bb, off + j * 3 + 1, none⟩ = some (.int .i64 l[j].n) ∧ w'.cell? ⟨bb, off + j * 3 + 2, none⟩ = some (.string l[j].t) := by
  obtain ⟨bb, off, e, hbb, hc⟩ := h.2 (by omega)
  refine ⟨bb, off, e, hbb, fun hl => ?_⟩
  have hat := row_at fP_len (f := fP) (l := l) hc j hl
  have g := fun i (u : Value) (hi : (fP l[j])[i]? = some u) => (hb.cell (p := ⟨bb, off + j * 3 + i, none⟩) hbb).trans (hat i u hi)
  exact ⟨g 0 _ rfl, g 1 _ rfl, g 2 _ rfl⟩

set_option maxRecDepth 100000 in
set_option maxHeartbeats 4000000 in
theorem valid_any (p : Pc) (w : World) :
    Calls Tryd.prog 112 #[.agg #[.int .u8 p.k, .int .i64 p.n, .string p.t]] w fun e w' => e = .returned (.bool (okP p)) ∧ Below w.heap.size w w' := by
  have HB := Lib.hid ((Below.refl w.heap.size w).alloc (Nat.le_refl _) (.cells #[.int .u8 p.k, .int .i64 p.n, .string p.t] 31))
  obtain ⟨k, n, t⟩ := p
  simp only at HB ⊢
  by_cases h1 : k = 1
  · subst h1
    by_cases hn : 1 ≤ n
    · by_cases ht : t.size = 0
      · have HE := Lib.hid (show okP ⟨1, n, t⟩ = true by unfold okP; simp [hn, ht])
        have ht2 := str_empty ht
        subst ht2
        clear ht
        go_enter Tryd.func112, Tryd.ntmps112
        go_wp2_with fail
        go_ret
        exact ⟨by rw [HE.out] <;> rfl, HB.out⟩
      · have HE := Lib.hid (show okP ⟨1, n, t⟩ = false by unfold okP; simp [hn, ht])
        have ht2 := str_some ht
        clear ht
        go_enter Tryd.func112, Tryd.ntmps112
        go_wp2_with fail
        go_ret
        exact ⟨by rw [HE.out] <;> rfl, HB.out⟩
    · have HE := Lib.hid (show okP ⟨1, n, t⟩ = false by unfold okP; simp [hn])
      go_enter Tryd.func112, Tryd.ntmps112
      go_wp2_with fail
      go_ret
      exact ⟨by rw [HE.out] <;> rfl, HB.out⟩
  by_cases h3 : k = 3
  · subst h3
    clear h1
    by_cases hn : 1 ≤ n
    · by_cases ht : t.size = 0
      · have HE := Lib.hid (show okP ⟨3, n, t⟩ = true by unfold okP; simp [hn, ht])
        have ht2 := str_empty ht
        subst ht2
        clear ht
        go_enter Tryd.func112, Tryd.ntmps112
        go_wp2_with fail
        go_ret
        exact ⟨by rw [HE.out] <;> rfl, HB.out⟩
      · have HE := Lib.hid (show okP ⟨3, n, t⟩ = false by unfold okP; simp [hn, ht])
        have ht2 := str_some ht
        clear ht
        go_enter Tryd.func112, Tryd.ntmps112
        go_wp2_with fail
        go_ret
        exact ⟨by rw [HE.out] <;> rfl, HB.out⟩
    · have HE := Lib.hid (show okP ⟨3, n, t⟩ = false by unfold okP; simp [hn])
      go_enter Tryd.func112, Tryd.ntmps112
      go_wp2_with fail
      go_ret
      exact ⟨by rw [HE.out] <;> rfl, HB.out⟩
  by_cases h2 : k = 2
  · subst h2
    clear h1 h3
    by_cases hn : n = 0
    · subst hn
      by_cases ht : t.size = 0
      · have HE := Lib.hid (show okP ⟨2, 0, t⟩ = false by unfold okP; simp [ht])
        have ht2 := str_empty ht
        subst ht2
        clear ht
        go_enter Tryd.func112, Tryd.ntmps112
        go_wp2_with fail
        go_ret
        exact ⟨by rw [HE.out] <;> rfl, HB.out⟩
      · have HE := Lib.hid (show okP ⟨2, 0, t⟩ = true by unfold okP; simp [ht])
        have ht2 := str_some ht
        clear ht
        go_enter Tryd.func112, Tryd.ntmps112
        go_wp2_with fail
        go_ret
        exact ⟨by rw [HE.out] <;> rfl, HB.out⟩
    · have HE := Lib.hid (show okP ⟨2, n, t⟩ = false by unfold okP; simp [hn])
      have hn2 : (n == 0) = false := by rw [beq_eq_false_iff_ne]; exact hn
      clear hn
      go_enter Tryd.func112, Tryd.ntmps112
      go_wp2_with fail
      go_ret
      exact ⟨by rw [HE.out] <;> rfl, HB.out⟩
  have e1 : (k == 1) = false := by rw [beq_eq_false_iff_ne]; exact h1
  have e2 : (k == 2) = false := by rw [beq_eq_false_iff_ne]; exact h2
  have e3 : (k == 3) = false := by rw [beq_eq_false_iff_ne]; exact h3
  have HE := Lib.hid (show okP ⟨k, n, t⟩ = false by unfold okP; simp [h1, h2, h3])
  clear h1 h2 h3
  go_enter Tryd.func112, Tryd.ntmps112
  go_wp2_with fail
  go_ret
  exact ⟨by rw [HE.out] <;> rfl, HB.out⟩

set_option maxRecDepth 100000 in
set_option maxHeartbeats 4000000 in
theorem piece_any (p : Pc) (w : World) :
    Calls Tryd.prog 95 #[.agg #[.int .u8 p.k, .int .i64 p.n, .string p.t]] w fun e w' => e = .returned (.bool (okP p)) ∧ Below w.heap.size w w' := by
  have HB := Lib.hid ((Below.refl w.heap.size w).alloc (Nat.le_refl _) (.cells #[.int .u8 p.k, .int .i64 p.n, .string p.t] 31))
  obtain ⟨k, n, t⟩ := p
  simp only at HB ⊢
  by_cases h1 : k = 1
  · subst h1
    by_cases hn : 1 ≤ n
    · by_cases ht : t.size = 0
      · have HE := Lib.hid (show okP ⟨1, n, t⟩ = true by unfold okP; simp [hn, ht])
        have ht2 := str_empty ht
        subst ht2
        clear ht
        go_enter Tryd.func95, Tryd.ntmps95
        go_wp2_with fail
        go_ret
        exact ⟨by rw [HE.out] <;> rfl, HB.out⟩
      · have HE := Lib.hid (show okP ⟨1, n, t⟩ = false by unfold okP; simp [hn, ht])
        have ht2 := str_some ht
        clear ht
        go_enter Tryd.func95, Tryd.ntmps95
        go_wp2_with fail
        go_ret
        exact ⟨by rw [HE.out] <;> rfl, HB.out⟩
    · have HE := Lib.hid (show okP ⟨1, n, t⟩ = false by unfold okP; simp [hn])
      go_enter Tryd.func95, Tryd.ntmps95
      go_wp2_with fail
      go_ret
      exact ⟨by rw [HE.out] <;> rfl, HB.out⟩
  by_cases h3 : k = 3
  · subst h3
    clear h1
    by_cases hn : 1 ≤ n
    · by_cases ht : t.size = 0
      · have HE := Lib.hid (show okP ⟨3, n, t⟩ = true by unfold okP; simp [hn, ht])
        have ht2 := str_empty ht
        subst ht2
        clear ht
        go_enter Tryd.func95, Tryd.ntmps95
        go_wp2_with fail
        go_ret
        exact ⟨by rw [HE.out] <;> rfl, HB.out⟩
      · have HE := Lib.hid (show okP ⟨3, n, t⟩ = false by unfold okP; simp [hn, ht])
        have ht2 := str_some ht
        clear ht
        go_enter Tryd.func95, Tryd.ntmps95
        go_wp2_with fail
        go_ret
        exact ⟨by rw [HE.out] <;> rfl, HB.out⟩
    · have HE := Lib.hid (show okP ⟨3, n, t⟩ = false by unfold okP; simp [hn])
      go_enter Tryd.func95, Tryd.ntmps95
      go_wp2_with fail
      go_ret
      exact ⟨by rw [HE.out] <;> rfl, HB.out⟩
  by_cases h2 : k = 2
  · subst h2
    clear h1 h3
    by_cases hn : n = 0
    · subst hn
      by_cases ht : t.size = 0
      · have HE := Lib.hid (show okP ⟨2, 0, t⟩ = false by unfold okP; simp [ht])
        have ht2 := str_empty ht
        subst ht2
        clear ht
        go_enter Tryd.func95, Tryd.ntmps95
        go_wp2_with fail
        go_ret
        exact ⟨by rw [HE.out] <;> rfl, HB.out⟩
      · have HE := Lib.hid (show okP ⟨2, 0, t⟩ = true by unfold okP; simp [ht])
        have ht2 := str_some ht
        clear ht
        go_enter Tryd.func95, Tryd.ntmps95
        go_wp2_with fail
        go_ret
        exact ⟨by rw [HE.out] <;> rfl, HB.out⟩
    · have HE := Lib.hid (show okP ⟨2, n, t⟩ = false by unfold okP; simp [hn])
      have hn2 : (n == 0) = false := by rw [beq_eq_false_iff_ne]; exact hn
      clear hn
      go_enter Tryd.func95, Tryd.ntmps95
      go_wp2_with fail
      go_ret
      exact ⟨by rw [HE.out] <;> rfl, HB.out⟩
  have e1 : (k == 1) = false := by rw [beq_eq_false_iff_ne]; exact h1
  have e2 : (k == 2) = false := by rw [beq_eq_false_iff_ne]; exact h2
  have e3 : (k == 3) = false := by rw [beq_eq_false_iff_ne]; exact h3
  have HE := Lib.hid (show okP ⟨k, n, t⟩ = false by unfold okP; simp [h1, h2, h3])
  clear h1 h2 h3
  go_enter Tryd.func95, Tryd.ntmps95
  go_wp2_with fail
  go_ret
  exact ⟨by rw [HE.out] <;> rfl, HB.out⟩

set_option maxRecDepth 100000 in
set_option maxHeartbeats 4000000 in
theorem sizes_any (p : Pc) (w : World) :
    Calls Tryd.prog 113 #[.agg #[.int .u8 p.k, .int .i64 p.n, .string p.t]] w fun e w' => e = .returned (.tuple #[.int .i64 (inP p), .int .i64 (outP p)]) ∧ Below w.heap.size w w' := by
  have HB := Lib.hid ((Below.refl w.heap.size w).alloc (Nat.le_refl _) (.cells #[.int .u8 p.k, .int .i64 p.n, .string p.t] 31))
  have HBN := Lib.hid (fun n => below_drewN HB.out n)
  obtain ⟨k, n, t⟩ := p
  simp only at HB HBN ⊢
  by_cases h1 : k = 1
  · subst h1
    have HE := Lib.hid (show inP ⟨1, n, t⟩ = n ∧ outP ⟨1, n, t⟩ = n from ⟨rfl, rfl⟩)
    go_enter Tryd.func113, Tryd.ntmps113
    go_wp2_with fail
    go_quiet (fail)
    go_wp2_with fail
    go_ret2
    exact ⟨by rw [HE.out.1, HE.out.2] <;> rfl, HBN.out _⟩
  by_cases h3 : k = 3
  · subst h3
    have HE := Lib.hid (show inP ⟨3, n, t⟩ = n ∧ outP ⟨3, n, t⟩ = 0 from ⟨rfl, rfl⟩)
    go_enter Tryd.func113, Tryd.ntmps113
    go_wp2_with fail
    go_ret2
    exact ⟨by rw [HE.out.1, HE.out.2] <;> rfl, HB.out⟩
  have HE := Lib.hid (show inP ⟨k, n, t⟩ = 0 ∧ outP ⟨k, n, t⟩ = t.size by unfold inP outP; simp [h1, h3])
  have e1 : (k == 1) = false := by rw [beq_eq_false_iff_ne]; exact h1
  have e3 : (k == 3) = false := by rw [beq_eq_false_iff_ne]; exact h3
  clear h1 h3
  go_enter Tryd.func113, Tryd.ntmps113
  go_wp2_with fail
  go_quiet (fail)
  go_wp2_with fail
  go_ret2
  exact ⟨by rw [HE.out.1, HE.out.2] <;> rfl, HBN.out _⟩

theorem inP_ok {p : Pc} (h : okP p = true) : 0 ≤ inP p ∧ 0 ≤ outP p := by
  unfold inP outP
  rcases okP_cases h with ⟨h1, h2, -⟩ | ⟨h1, h2, -⟩ | ⟨h1, h2, -⟩ <;> rw [h1] <;> simp <;> omega

set_option maxRecDepth 100000 in
set_option maxHeartbeats 4000000 in
theorem lengths_any (ao : Option Addr) (n c : Nat) (l : List Pc) (w : World) (h : IsR fP w ao n l) (hn63 : n ≤ 9223372036854775807) :
    Calls Tryd.prog 93 #[.slice ao n c] w fun e w' => e = .returned (.tuple #[.int .i64 (lengthsP l).1, .int .i64 (lengthsP l).2.1, .int .i64 (lengthsP l).2.2]) ∧ Below w.heap.size w w' := by
  have hl := h.1
  have HB0 := Lib.hid (Below.refl w.heap.size w)
  by_cases hbig : 4096 < n
  · have HE := Lib.hid (show lengthsP l = (0, 0, 5) by unfold lengthsP; rw [if_pos (by omega)])
    have hb1 : (4096 : Int) < (n : Int) := by omega
    go_enter Tryd.func93, Tryd.ntmps93
    go_wp2_with fail
    go_ret3
    exact ⟨by rw [HE.out] <;> rfl, HB0.out⟩
  · have HE := Lib.hid (show lengthsP l = lenL 0 0 l by unfold lengthsP; rw [if_neg (by omega)])
    have HR := Lib.hid h
    have hb1 : ¬ ((4096 : Int) < (n : Int)) := by omega
    clear h
    go_enter Tryd.func93, Tryd.ntmps93
    go_wp2_with fail
    go_loopw [2, 3, 14] (fun vi vo s wr => ∃ (j : Nat) (i o : Int), j ≤ n ∧ s = .int .i64 j ∧ vi = .int .i64 i ∧ vo = .int .i64 o ∧ 0 ≤ i ∧ i ≤ 1048576 ∧ 0 ≤ o ∧ o ≤ 1048576 ∧ lenL i o (l.drop j) = lenL 0 0 l ∧ Below w.heap.size w wr) (fun _ _ s _ => n - (intOf s).toNat)
    case atStart => exact ⟨0, 0, 0, Nat.zero_le _, rfl, rfl, rfl, by decide, by decide, by decide, by decide, rfl, HB0.out⟩
    case round =>
      obtain ⟨j, i, o, hj, rfl, rfl, rfl, hi0, hi1, ho0, ho1, hle, hbr⟩ := hrel
      have HBR := Lib.hid hbr
      by_cases hlt : j < n
      · have hjl : j < l.length := by omega
        have hj1 : (j : Int) < (n : Int) := by omega
        have hst := lenL_step (i := i) (o := o) hjl
        rw [hle] at hst
        obtain ⟨bb, off, rfl, hbb, hc⟩ := HR.out.pc hbr hlt
        obtain ⟨c0, c1, c2⟩ := hc hjl
        have HST := Lib.hid hst
        have HBP := Lib.hid (HBR.out.alloc HBR.out.size (.cells #[.int .u8 l[j].k, .int .i64 l[j].n, .string l[j].t] 31))
        have HX := Lib.hid (block_new wr (.cells #[.int .u8 l[j].k, .int .i64 l[j].n, .string l[j].t] 31))
        clear hst hle hc hbr
        generalize l[j] = p at *
        have HV := Lib.hid (valid_any p)
        have HSZ := Lib.hid (sizes_any p)
        go_wp2_with fail
        refine (HV.out _).mono ?_; rintro e w1 ⟨rfl, hb1'⟩
        have HB1 := Lib.hid (below_two HBP.out hb1')
        have hx1 := block_below hb1' HX.out (block_lt HX.out)
        have HX1 := Lib.hid hx1
        clear hb1'
        by_cases hv : okP p = true
        · rw [hv]
          have HST2 := Lib.hid (HST.out.trans (if_neg (by rw [hv]; decide)))
          obtain ⟨hp0, hp1⟩ := inP_ok hv
          clear HST hv
          (have q0 := block_cell hx1 0; have q1 := block_cell hx1 1; have q2 := block_cell hx1 2; have f0 := block_free hx1 0; have f1 := block_free hx1 1; have f2 := block_free hx1 2; have hz := block_lt hx1; simp at q0 q1 q2)
          clear hx1 HX
          go_wp2_with fail
          refine (HSZ.out _).mono ?_; rintro e w2 ⟨rfl, hb2⟩
          have HB2 := Lib.hid (below_two HB1.out hb2)
          clear hb2 HV HSZ HX1 HBP HB1 HBR q0 q1 q2 f0 f1 f2 hz c0 c1 c2
          generalize inP p = pi at *
          generalize outP p = po at *
          by_cases hi : 1048576 - i < pi
          · have HE2 := Lib.hid (HST2.out.trans (if_pos (.inl hi)))
            clear HST2
            go_wp2_with fail
            go_ret3
            exact ⟨by rw [HE.out, HE2.out] <;> rfl, HB2.out⟩
          · by_cases ho : 1048576 - o < po
            · have HE2 := Lib.hid (HST2.out.trans (if_pos (.inr ho)))
              clear HST2
              go_wp2_with fail
              go_ret3
              exact ⟨by rw [HE.out, HE2.out] <;> rfl, HB2.out⟩
            · have HE2 := Lib.hid (HST2.out.trans (if_neg (by rintro (h | h) <;> contradiction)))
              clear HST2
              go_wp2_with fail
              go_roundw
              case rel => exact ⟨j + 1, i + pi, o + po, by omega, by go_num, by go_num, by go_num, by omega, by omega, by omega, by omega, HE2.out.symm, HB2.out⟩
              case measure => simp [intOf]; omega
        · have hv' : okP p = false := by simpa using hv
          have HE2 := Lib.hid (HST.out.trans (if_pos hv'))
          rw [hv']
          clear HST hv hv' hx1
          go_wp2_with fail
          go_ret3
          exact ⟨by rw [HE.out, HE2.out] <;> rfl, HB1.out⟩
      · obtain rfl : j = n := by omega
        have HE2 := Lib.hid (show lenL 0 0 l = (i, o, 0) by rw [← hle, List.drop_eq_nil_of_le (by omega)]; rfl)
        clear hle hbr
        go_wp2_with fail
        go_ret3
        exact ⟨by rw [HE.out, HE2.out] <;> rfl, HBR.out⟩

set_option maxRecDepth 100000 in
set_option maxHeartbeats 4000000 in
theorem check_any (ao : Option Addr) (n c : Nat) (l : List Pc) (w : World) (h : IsR fP w ao n l) (hn63 : n ≤ 9223372036854775807) :
    Calls Tryd.prog 66 #[.slice ao n c] w fun e w' => e = .returned (.int .i64 (checkP l)) ∧ Below w.heap.size w w' := by
  have HL := Lib.hid (lengths_any ao n c l w h hn63)
  clear h
  go_enter Tryd.func66, Tryd.ntmps66
  go_wp2_with fail
  refine (HL.out).mono ?_; rintro e w1 ⟨rfl, hb⟩
  have HB := Lib.hid hb
  clear hb
  go_wp2_with fail
  go_ret
  exact ⟨rfl, HB.out⟩

set_option maxRecDepth 100000 in
set_option maxHeartbeats 4000000 in
theorem refCheck_pc (ao : Option Addr) (n c : Nat) (l : List Pc) (w : World) (h : IsR fP w ao n l) (hn63 : n ≤ 9223372036854775807) :
    Calls Tryd.prog 69 #[.slice ao n c] w fun e w' => e = .returned (.int .i64 (checkP l)) ∧ Below w.heap.size w w' := by
  have hl := h.1
  have HB0 := Lib.hid (Below.refl w.heap.size w)
  unfold checkP
  by_cases hbig : 4096 < n
  · have HE := Lib.hid (show lengthsP l = (0, 0, 5) by unfold lengthsP; rw [if_pos (by omega)])
    have hb1 : (4096 : Int) < (n : Int) := by omega
    go_enter Tryd.func69, Tryd.ntmps69
    go_wp2_with fail
    go_ret
    exact ⟨by rw [HE.out] <;> rfl, HB0.out⟩
  · have HE := Lib.hid (show lengthsP l = lenL 0 0 l by unfold lengthsP; rw [if_neg (by omega)])
    have HR := Lib.hid h
    have hb1 : ¬ ((4096 : Int) < (n : Int)) := by omega
    clear h
    go_enter Tryd.func69, Tryd.ntmps69
    go_wp2_with fail
    go_loopw [3, 4, 5] (fun vi vo s wr => ∃ (j : Nat) (i o : Int), j ≤ n ∧ s = .int .i64 j ∧ vi = .int .i64 i ∧ vo = .int .i64 o ∧ 0 ≤ i ∧ i ≤ 1048576 ∧ 0 ≤ o ∧ o ≤ 1048576 ∧ lenL i o (l.drop j) = lenL 0 0 l ∧ Below w.heap.size w wr) (fun _ _ s _ => n - (intOf s).toNat)
    case atStart => exact ⟨0, 0, 0, Nat.zero_le _, rfl, rfl, rfl, by decide, by decide, by decide, by decide, rfl, HB0.out⟩
    case round =>
      obtain ⟨j, i, o, hj, rfl, rfl, rfl, hi0, hi1, ho0, ho1, hle, hbr⟩ := hrel
      have HBR := Lib.hid hbr
      by_cases hlt : j < n
      · have hjl : j < l.length := by omega
        have hj1 : (j : Int) < (n : Int) := by omega
        have hst := lenL_step (i := i) (o := o) hjl
        rw [hle] at hst
        obtain ⟨bb, off, rfl, hbb, hc⟩ := HR.out.pc hbr hlt
        obtain ⟨c0, c1, c2⟩ := hc hjl
        have HST := Lib.hid hst
        have HBP := Lib.hid (HBR.out.alloc HBR.out.size (.cells #[.int .u8 l[j].k, .int .i64 l[j].n, .string l[j].t] 31))
        have HX := Lib.hid (block_new wr (.cells #[.int .u8 l[j].k, .int .i64 l[j].n, .string l[j].t] 31))
        clear hst hle hc hbr
        generalize l[j] = p at *
        have HV := Lib.hid (piece_any p)
        go_wp2_with fail
        refine (HV.out _).mono ?_; rintro e w1 ⟨rfl, hb1'⟩
        have HB1 := Lib.hid (below_two HBP.out hb1')
        have hx1 := block_below hb1' HX.out (block_lt HX.out)
        clear hb1' HV HX HBP HBR c0 c1 c2
        by_cases hv : okP p = true
        · rw [hv]
          have HST2 := Lib.hid (HST.out.trans (if_neg (by rw [hv]; decide)))
          have hcs := okP_cases hv
          clear HST hv
          obtain ⟨pk, pn, pt⟩ := p
          simp only at hcs hx1
          (have q0 := block_cell hx1 0; have q1 := block_cell hx1 1; have q2 := block_cell hx1 2; have f0 := block_free hx1 0; have f1 := block_free hx1 1; have f2 := block_free hx1 2; have hz := block_lt hx1; simp at q0 q1 q2)
          clear hx1
          rcases hcs with ⟨h1, h2, h3⟩ | ⟨h1, h2, h3⟩ | ⟨h1, h2, h3⟩
          · subst h1
            have h3' := str_empty h3
            subst h3'
            have HIO := Lib.hid (show inP ⟨1, pn, ⟨#[]⟩⟩ = pn ∧ outP ⟨1, pn, ⟨#[]⟩⟩ = pn from ⟨rfl, rfl⟩)
            rw [HIO.out.1, HIO.out.2] at HST2
            clear h3
            by_cases hi : 1048576 - i < pn
            · have HE2 := Lib.hid (HST2.out.trans (if_pos (.inl hi)))
              clear HST2
              go_wp2_with fail
              go_ret
              exact ⟨by rw [HE.out, HE2.out] <;> rfl, HB1.out⟩
            · by_cases ho : 1048576 - o < pn
              · have HE2 := Lib.hid (HST2.out.trans (if_pos (.inr ho)))
                clear HST2
                go_wp2_with fail
                go_ret
                exact ⟨by rw [HE.out, HE2.out] <;> rfl, HB1.out⟩
              · have HE2 := Lib.hid (HST2.out.trans (if_neg (by rintro (h | h) <;> contradiction)))
                clear HST2
                go_wp2_with fail
                go_roundw
                case rel => exact ⟨j + 1, i + pn, o + pn, by omega, by go_num, by go_num, by go_num, by omega, by omega, by omega, by omega, HE2.out.symm, HB1.out⟩
                case measure => simp [intOf]; omega
          · subst h1
            have h3' := str_empty h3
            subst h3'
            have HIO := Lib.hid (show inP ⟨3, pn, ⟨#[]⟩⟩ = pn ∧ outP ⟨3, pn, ⟨#[]⟩⟩ = 0 from ⟨rfl, rfl⟩)
            rw [HIO.out.1, HIO.out.2] at HST2
            clear h3
            by_cases hi : 1048576 - i < pn
            · have HE2 := Lib.hid (HST2.out.trans (if_pos (.inl hi)))
              clear HST2
              go_wp2_with fail
              go_ret
              exact ⟨by rw [HE.out, HE2.out] <;> rfl, HB1.out⟩
            · have HE2 := Lib.hid (HST2.out.trans (if_neg (by rintro (h | h); exact hi h; omega)))
              clear HST2
              go_wp2_with fail
              go_roundw
              case rel => exact ⟨j + 1, i + pn, o + 0, by omega, by go_num, by go_num, by go_num, by omega, by omega, by omega, by omega, HE2.out.symm, HB1.out⟩
              case measure => simp [intOf]; omega
          · subst h1
            subst h2
            have HIO := Lib.hid (show inP ⟨2, 0, pt⟩ = 0 ∧ outP ⟨2, 0, pt⟩ = pt.size from ⟨rfl, rfl⟩)
            rw [HIO.out.1, HIO.out.2] at HST2
            by_cases ho : 1048576 - o < (pt.size : Int)
            · have HE2 := Lib.hid (HST2.out.trans (if_pos (.inr ho)))
              clear HST2
              go_wp2_with fail
              go_ret
              exact ⟨by rw [HE.out, HE2.out] <;> rfl, HB1.out⟩
            · have HE2 := Lib.hid (HST2.out.trans (if_neg (by rintro (h | h); omega; exact ho h)))
              clear HST2
              go_wp2_with fail
              go_roundw
              case rel => exact ⟨j + 1, i + 0, o + pt.size, by omega, by go_num, by go_num, by go_num, by omega, by omega, by omega, by omega, HE2.out.symm, HB1.out⟩
              case measure => simp [intOf]; omega
        · have hv' : okP p = false := by simpa using hv
          have HE2 := Lib.hid (HST.out.trans (if_pos hv'))
          rw [hv']
          clear HST hv hv' hx1
          go_wp2_with fail
          go_ret
          exact ⟨by rw [HE.out, HE2.out] <;> rfl, HB1.out⟩
      · obtain rfl : j = n := by omega
        have HE2 := Lib.hid (show lenL 0 0 l = (i, o, 0) by rw [← hle, List.drop_eq_nil_of_le (by omega)]; rfl)
        clear hle hbr
        go_wp2_with fail
        go_ret
        exact ⟨by rw [HE.out, HE2.out] <;> rfl, HBR.out⟩
end Go.Proofs.YtdfkbahlngijcaaDoor

namespace Go.Proofs.YtdfkbahlngijcaaDoor
open Go.RowKit
set_option linter.unusedVariables false

def hexD (n : Nat) : UInt8 := UInt8.ofNat (if n < 10 then 48 + n else 87 + n)
def hexB (b : UInt8) : List UInt8 := [hexD (b.toNat / 16), hexD (b.toNat % 16)]
def hexL (l : List UInt8) : List UInt8 := l.flatMap hexB
def quoteL (t : ByteArray) : List UInt8 := 43 :: hexL t.data.toList
theorem infoU8 : (Tryd.prog.info? 5).map (fun i => (i.zero, i.size, i.bytes)) = some (some (.int .u8 0), 1, 1) := by kernel_rfl
theorem and15 : ∀ n : Nat, n < 256 → bits BinOp.and IntKind.u8 (n : Int) 15 = ((n % 16 : Nat) : Int) := by decide +kernel
theorem wrap8 (n : Int) (h0 : 0 ≤ n) (h1 : n < 256) : IntKind.u8.wrap n = n := by
  simp [IntKind.wrap, IntKind.bits, IntKind.signed]
  omega
theorem hexC : ∀ n : Nat, (h : n < 16) → (({ data := #[48, 49, 50, 51, 52, 53, 54, 55, 56, 57, 97, 98, 99, 100, 101, 102] } : ByteArray)[n]'h) = hexD n := by decide +kernel
theorem hexL_len : ∀ (l : List UInt8), (hexL l).length = 2 * l.length
  | [] => rfl
  | b :: l => by
    have := hexL_len l
    unfold hexL at this ⊢
    rw [List.flatMap_cons, List.length_append, this]
    show 2 + _ = 2 * (l.length + 1)
    omega
theorem hexL_take (t : ByteArray) {j : Nat} (h : j < t.size) : hexL (t.data.toList.take (j + 1)) = hexL (t.data.toList.take j) ++ hexB t[j] := by
  have hl : j < t.data.toList.length := by rw [Array.length_toList]; exact h
  rw [List.take_succ_eq_append_getElem hl]
  unfold hexL
  rw [List.flatMap_append]
  rfl
theorem quote_len (t : ByteArray) : (quoteL t).length = 2 * t.size + 1 := by
  unfold quoteL
  rw [List.length_cons, hexL_len, Array.length_toList]
  rfl
theorem quote_end (t : ByteArray) : 43 :: hexL (t.data.toList.take t.size) = quoteL t := by
  unfold quoteL
  rw [List.take_of_length_le (by rw [Array.length_toList]; exact Nat.le_refl _)]
theorem byteCells_one (l : List UInt8) : ∀ u ∈ Lib.byteCells l, u.oneCell' = true := fun u hu => by
  obtain ⟨b, _, rfl⟩ := List.mem_map.1 hu
  rfl
theorem u8lt (b : UInt8) : b.toNat < 256 := UInt8.toNat_lt b
theorem own_typ1 {w : World} {B s : Nat} {t : TypeId} {v : Value} {n : Nat} {l : List Value} (h : w.ownsRow B t s v n l) {q : Nat} (hq : v.ownBlock = some q) : B ≤ q ∧ ∃ cur, w.heap[q]? = some (.cells cur t (0, 0)) := by
  obtain ⟨-, ⟨h, -⟩ | ⟨g, cap', cur, h1, hg, h2, -⟩⟩ := h
  · subst h; cases hq
  · subst h1; cases hq; exact ⟨hg, cur, h2⟩
/-- the bytes of a row of the call's own, as a string -/
theorem own_str {w : World} {B : Nat} {v : Value} {l : List UInt8} {n : Nat} (h : w.ownsRow B 5 1 v n (Lib.byteCells l)) (hn : l.length = n) (hl : 0 < n) :
    ∃ g cap, v = .slice (some ⟨g, 0, none⟩) n cap ∧ (convert 73 9 (.slice (some ⟨g, 0, none⟩) n cap)).run Tryd.prog w = .ok (.string ⟨l.toArray⟩) w := by
  subst hn
  rcases h with ⟨_, ⟨_, h⟩ | ⟨g, cap, cur, rfl, hb, hg, hcap, hm, hs, htk⟩⟩
  · omega
  · refine ⟨g, cap, rfl, run_convert_bytes_back (P := Tryd.prog) w 73 9 5 ⟨g, 0, none⟩ cap l Tryd.underlying73 Tryd.underlying5 Tryd.underlying9 (fun j hj => ?_)⟩
    rw [add_to, block_cell hg, Nat.zero_add]
    have e := congrArg (fun l => l[j]?) htk
    rw [List.getElem?_take_of_lt (by omega), Array.getElem?_toList] at e
    rw [e]
    simp [Lib.byteCells, hj]
theorem bytes_one (w : World) (c : UInt8) : (w.alloc (.cells #[.int .u8 (c.toNat : Int)] 5)).ownsRow w.heap.size 5 1 (.slice (some ⟨w.heap.size, 0, none⟩) 1 1) 1 (Lib.byteCells [c]) :=
  ⟨rfl, .inr ⟨w.heap.size, 1, _, rfl, Nat.le_refl _, block_new _ _, Nat.le_refl _, by decide, rfl, rfl⟩⟩
theorem hex_step (t : ByteArray) (b : UInt8) (l : List UInt8) : Lib.byteCells (43 :: (l ++ hexB b)) = Lib.byteCells (43 :: l) ++ [Value.int .u8 (hexD (b.toNat / 16)).toNat, Value.int .u8 (hexD (b.toNat % 16)).toNat] := by
  simp [Lib.byteCells, hexB]
end Go.Proofs.YtdfkbahlngijcaaDoor

namespace Go.Proofs.YtdfkbahlngijcaaDoor
open Go.RowKit
set_option linter.unusedVariables false

def digC (n : Nat) : UInt8 := UInt8.ofNat (48 + n % 10)
theorem decDigits_small {n : Nat} (h : n < 10) : Lib.decDigits n = [digC n] := by
  rw [Lib.decDigits, dif_pos h]
  unfold digC
  rw [Nat.mod_eq_of_lt h]
theorem decDigits_step {n : Nat} (h : ¬ n < 10) : Lib.decDigits n = Lib.decDigits (n / 10) ++ [digC n] := by
  rw [Lib.decDigits, dif_neg h]
  rfl
theorem decDigits_len : ∀ (k n : Nat), 0 < k → n < 10 ^ k → (Lib.decDigits n).length ≤ k
  | 0, _, h, _ => absurd h (Nat.lt_irrefl 0)
  | k + 1, n, _, hn => by
    by_cases h : n < 10
    · rw [decDigits_small h]
      show 1 ≤ k + 1
      omega
    · rw [decDigits_step h, List.length_append]
      have hk : 0 < k := by
        rcases Nat.eq_zero_or_pos k with e | e
        · subst e; omega
        · exact e
      have := decDigits_len k (n / 10) hk (by rw [Nat.pow_succ] at hn; omega)
      show _ + 1 ≤ k + 1
      omega
theorem digC_val (n : Nat) : ((digC n).toNat : Int) = 48 + ((n % 10 : Nat) : Int) := by
  unfold digC
  rw [UInt8.toNat_ofNat']
  omega

set_option maxRecDepth 100000 in
set_option maxHeartbeats 4000000 in
theorem digits_nat : ∀ (n : Nat) (hn : n ≤ 9223372036854775807) (w : World),
    Calls Tryd.prog 70 #[.int .i64 n] w fun e w' => e = .returned (.string ⟨(Lib.decDigits n).toArray⟩) ∧ Below w.heap.size w w' := by
  intro n
  induction n using Nat.strongRecOn with
  | ind n ih =>
    intro hn w
    have HIH := Lib.hid ih
    have HB := Lib.hid ((Below.refl w.heap.size w).alloc (Nat.le_refl _) (.cells #[.int .u8 (digC n).toNat] 5))
    obtain ⟨g, cap, e, hconv⟩ := own_str (bytes_one w (digC n)) rfl (by decide)
    injection e with e1 e2 e3
    injection e1 with e1
    injection e1 with e1
    subst e1 e3
    have hT : Int.tmod (n : Int) 10 = (n : Int) % 10 := Int.tmod_eq_emod_of_nonneg (by omega)
    have hQ : Int.tdiv (n : Int) 10 = ((n / 10 : Nat) : Int) := by rw [Int.tdiv_eq_ediv_of_nonneg (by omega)]; rfl
    have hV : IntKind.u8.wrap (48 + (n : Int) % 10) = ((digC n).toNat : Int) := by
      rw [digC_val]
      rw [wrap8 _ (by omega) (by omega)]
      omega
    clear ih
    by_cases h10 : n < 10
    · have h1 : (n : Int) < 10 := by omega
      have HE := Lib.hid (decDigits_small h10)
      go_enter Tryd.func70, Tryd.ntmps70
      go_wp2_with fail
      go_ret
      exact ⟨by rw [HE.out] <;> rfl, HB.out⟩
    · have h1 : ¬ ((n : Int) < 10) := by omega
      have HE := Lib.hid (decDigits_step h10)
      have hl := decDigits_len 19 (n / 10) (by decide) (by omega)
      have HC := Lib.hid (HIH.out (n / 10) (by omega) (by omega))
      have hcat : ¬ (9223372036854775807 < (⟨(Lib.decDigits (n / 10)).toArray⟩ : ByteArray).size + (⟨#[digC n]⟩ : ByteArray).size) := by
        show ¬ (9223372036854775807 < (Lib.decDigits (n / 10)).length + 1)
        omega
      go_enter Tryd.func70, Tryd.ntmps70
      go_wp2_with fail
      refine (HC.out _).mono ?_; rintro e w1 ⟨rfl, hb⟩
      have HB1 := Lib.hid (below_two HB.out hb)
      clear hb
      go_wp2_with fail
      go_ret
      exact ⟨by rw [HE.out] <;> rfl, HB1.out⟩
end Go.Proofs.YtdfkbahlngijcaaDoor

namespace Go.Proofs.YtdfkbahlngijcaaDoor
set_option linter.unusedVariables false

inductive Dp where
  | ret (n : Nat)
  | ins (t : List UInt8)
  | del (n : Nat)
namespace Dp
def ok : Dp → Prop
  | ret n => 0 < n
  | ins t => t ≠ []
  | del n => 0 < n
def inn : Dp → Nat
  | ret n => n
  | ins _ => 0
  | del n => n
def out : Dp → Nat
  | ret n => n
  | ins t => t.length
  | del _ => 0
def sI : List Dp → Nat
  | [] => 0
  | p :: l => p.inn + sI l
def sO : List Dp → Nat
  | [] => 0
  | p :: l => p.out + sO l
def Ok : List Dp → Prop
  | [] => True
  | p :: l => p.ok ∧ Ok l
def cons : Dp → List Dp → List Dp
  | ret n, ret m :: l => ret (n + m) :: l
  | ins t, ins u :: l => ins (t ++ u) :: l
  | del n, del m :: l => del (n + m) :: l
  | del n, ins u :: del m :: l => ins u :: del (n + m) :: l
  | del n, ins u :: l => ins u :: del n :: l
  | p, l => p :: l
def form : List Dp → List Dp
  | [] => []
  | p :: l => cons p (form l)
def fits : Dp → Dp → Prop
  | ret _, ret _ => False
  | ins _, ins _ => False
  | del _, del _ => False
  | del _, ins _ => False
  | _, _ => True
def hd (p : Dp) : List Dp → Prop
  | [] => True
  | q :: _ => fits p q
def Norm : List Dp → Prop
  | [] => True
  | p :: l => hd p l ∧ Norm l
theorem cons_of_hd {p : Dp} {l : List Dp} (h : hd p l) : cons p l = p :: l := by
  cases l with
  | nil => cases p <;> rfl
  | cons q l => cases p <;> cases q <;> first | rfl | exact h.elim
theorem hd_del (a b : Nat) : ∀ l : List Dp, hd (del a) l → hd (del b) l
  | [], _ => trivial
  | q :: l, h => by cases q <;> first | trivial | exact h.elim
theorem norm_cons (p : Dp) {l : List Dp} (h : Norm l) : Norm (cons p l) := by
  rcases l with _ | ⟨q, _ | ⟨r, l⟩⟩
  · cases p <;> simp [cons, Norm, hd]
  · cases p <;> cases q <;> simp [cons, Norm, hd, fits]
  · cases p <;> cases q <;> cases r <;> first | (simp_all [cons, Norm, hd, fits]; done) | exact ⟨trivial, hd_del _ _ _ h.2.1, h.2.2⟩
theorem form_norm : ∀ l : List Dp, Norm (form l)
  | [] => trivial
  | p :: l => norm_cons p (form_norm l)
theorem form_of_norm : ∀ {l : List Dp}, Norm l → form l = l
  | [], _ => rfl
  | p :: l, h => by
    show cons p (form l) = p :: l
    rw [form_of_norm h.2, cons_of_hd h.1]
theorem ok_cons {p : Dp} {l : List Dp} (hp : p.ok) (hl : Ok l) : Ok (cons p l) := by
  rcases l with _ | ⟨q, _ | ⟨r, l⟩⟩
  · cases p <;> exact ⟨hp, hl⟩
  · cases p <;> cases q <;> simp_all [cons, Ok, ok] <;> omega
  · cases p <;> cases q <;> cases r <;> simp_all [cons, Ok, ok] <;> omega
theorem form_okL : ∀ {l : List Dp}, Ok l → Ok (form l)
  | [], _ => trivial
  | p :: l, h => ok_cons h.1 (form_okL h.2)
theorem sI_cons (p : Dp) (l : List Dp) : sI (cons p l) = p.inn + sI l := by
  rcases l with _ | ⟨q, _ | ⟨r, l⟩⟩
  · cases p <;> rfl
  · cases p <;> cases q <;> simp [cons, sI, inn] <;> omega
  · cases p <;> cases q <;> cases r <;> simp [cons, sI, inn] <;> omega
theorem sO_cons (p : Dp) (l : List Dp) : sO (cons p l) = p.out + sO l := by
  rcases l with _ | ⟨q, _ | ⟨r, l⟩⟩
  · cases p <;> rfl
  · cases p <;> cases q <;> simp [cons, sO, out] <;> omega
  · cases p <;> cases q <;> cases r <;> simp [cons, sO, out] <;> omega
theorem sI_form : ∀ l : List Dp, sI (form l) = sI l
  | [] => rfl
  | p :: l => by show sI (cons p (form l)) = p.inn + sI l; rw [sI_cons, sI_form l]
theorem sO_form : ∀ l : List Dp, sO (form l) = sO l
  | [] => rfl
  | p :: l => by show sO (cons p (form l)) = p.out + sO l; rw [sO_cons, sO_form l]
theorem len_cons (p : Dp) (l : List Dp) : (cons p l).length ≤ l.length + 1 := by
  rcases l with _ | ⟨q, _ | ⟨r, l⟩⟩
  · cases p <;> exact Nat.le_refl _
  · cases p <;> cases q <;> simp [cons]
  · cases p <;> cases q <;> cases r <;> simp [cons] <;> omega
theorem len_form : ∀ l : List Dp, (form l).length ≤ l.length
  | [] => Nat.le_refl _
  | p :: l => by
    have := len_form l
    have := len_cons p (form l)
    show (cons p (form l)).length ≤ l.length + 1
    omega
theorem cons_ret (n m : Nat) (l : List Dp) : cons (ret n) (cons (ret m) l) = cons (ret (n + m)) l := by
  rcases l with _ | ⟨q, l⟩
  · rfl
  · cases q <;> simp [cons] <;> omega
theorem cons_ins (t u : List UInt8) (l : List Dp) : cons (ins t) (cons (ins u) l) = cons (ins (t ++ u)) l := by
  rcases l with _ | ⟨q, l⟩
  · rfl
  · cases q <;> simp [cons]
theorem cons_del (n m : Nat) (l : List Dp) : cons (del n) (cons (del m) l) = cons (del (n + m)) l := by
  rcases l with _ | ⟨q, _ | ⟨r, l⟩⟩
  · rfl
  · cases q <;> simp [cons] <;> omega
  · cases q <;> cases r <;> simp [cons] <;> omega
theorem cons_swap (n : Nat) (t : List UInt8) (l : List Dp) : cons (del n) (cons (ins t) l) = cons (ins t) (cons (del n) l) := by
  rcases l with _ | ⟨q, _ | ⟨r, l⟩⟩
  · rfl
  · cases q <;> simp [cons]
  · cases q <;> cases r <;> simp [cons]
def foldr (u : List Dp) (l : List Dp) : List Dp := u.foldr cons l
theorem form_append : ∀ (u v : List Dp), form (u ++ v) = u.foldr cons (form v)
  | [], _ => rfl
  | p :: u, v => by show cons p (form (u ++ v)) = cons p (u.foldr cons (form v)); rw [form_append u v]
theorem form_congr (u : List Dp) {v v' : List Dp} (h : form v = form v') : form (u ++ v) = form (u ++ v') := by
  rw [form_append, form_append, h]
/-- what stands between two kept pieces -/
def gapI (t : List UInt8) : List Dp := if t = [] then [] else [ins t]
def gapD (n : Nat) : List Dp := if n = 0 then [] else [del n]
theorem gap_ins (t u : List UInt8) (n : Nat) (hu : u ≠ []) (r : List Dp) : form (gapI t ++ (gapD n ++ ins u :: r)) = form (gapI (t ++ u) ++ (gapD n ++ r)) := by
  have h1 : gapI (t ++ u) = [ins (t ++ u)] := if_neg (by simp [hu])
  rw [h1]
  unfold gapI gapD
  by_cases ht : t = [] <;> by_cases hn : n = 0 <;> simp [ht, hn, form, cons_swap, cons_ins]
theorem gap_del (t : List UInt8) (m n : Nat) (hm : 0 < m) (r : List Dp) : form (gapI t ++ (gapD n ++ del m :: r)) = form (gapI t ++ (gapD (n + m) ++ r)) := by
  have h1 : gapD (n + m) = [del (n + m)] := if_neg (by omega)
  rw [h1]
  unfold gapI gapD
  by_cases ht : t = [] <;> by_cases hn : n = 0 <;> simp [ht, hn, form, cons_del]
theorem hd_snoc {p q : Dp} {l : List Dp} : hd p (l ++ [q]) ↔ (hd p l ∧ (l = [] → fits p q)) := by
  cases l with
  | nil => simp [hd]
  | cons a l => simp [hd]
def lastFits (l : List Dp) (q : Dp) : Prop := ∀ u p, l = u ++ [p] → fits p q
theorem norm_snoc {q : Dp} : ∀ {l : List Dp}, Norm l → lastFits l q → Norm (l ++ [q])
  | [], _, _ => ⟨trivial, trivial⟩
  | p :: l, h, hf => by
    refine ⟨hd_snoc.2 ⟨h.1, fun e => hf [] p (by rw [e]; rfl)⟩, norm_snoc h.2 fun u a e => hf (p :: u) a (by rw [e]; rfl)⟩
theorem norm_init {q : Dp} : ∀ {l : List Dp}, Norm (l ++ [q]) → Norm l
  | [], _ => trivial
  | p :: l, h => ⟨(hd_snoc.1 h.1).1, norm_init h.2⟩
theorem norm_last {q : Dp} : ∀ {l : List Dp}, Norm (l ++ [q]) → lastFits l q
  | [], _, u, p, e => by simp at e
  | a :: l, h, u, p, e => by
    cases u with
    | nil =>
      obtain ⟨rfl, rfl⟩ := List.cons.inj e
      exact (hd_snoc.1 h.1).2 rfl
    | cons b u =>
      obtain ⟨-, e⟩ := List.cons.inj e
      exact norm_last h.2 u p e
/-- behind it a gap begins: nothing yet, or a kept piece -/
def EndsR (l : List Dp) : Prop := ∀ u p, l = u ++ [p] → ∃ n, p = ret n
theorem EndsR.nil : EndsR [] := fun u p e => by simp at e
theorem EndsR.snoc (l : List Dp) (n : Nat) : EndsR (l ++ [ret n]) := fun u p e => by
  have := List.append_inj_right' e rfl
  injection this with h _
  exact ⟨n, h.symm⟩
theorem norm_gap {l : List Dp} (h : Norm l) (he : EndsR l) (t : List UInt8) (n : Nat) : Norm (l ++ (gapI t ++ gapD n)) := by
  have h1 : Norm (l ++ gapI t) := by
    unfold gapI
    by_cases ht : t = []
    · simp [ht, h]
    · rw [if_neg ht]
      refine norm_snoc h fun u p e => ?_
      obtain ⟨m, rfl⟩ := he u p e
      trivial
  rw [← List.append_assoc]
  unfold gapD
  by_cases hn : n = 0
  · simp [hn, h1]
  · rw [if_neg hn]
    refine norm_snoc h1 fun u p e => ?_
    unfold gapI at e
    by_cases ht : t = []
    · rw [if_pos ht, List.append_nil] at e
      obtain ⟨m, rfl⟩ := he u p e
      trivial
    · rw [if_neg ht] at e
      have := List.append_inj_right' e rfl
      injection this with h _
      subst h
      trivial

/-- what the pieces keep and insert, byte by byte -/
def atoms : Nat → List Dp → List Int
  | _, [] => []
  | a, ret n :: l => (List.range n).map (fun (k : Nat) => ((a + k : Nat) : Int)) ++ atoms (a + n) l
  | a, ins t :: l => t.map (fun b => -1 - (b.toNat : Int)) ++ atoms a l
  | a, del n :: l => atoms (a + n) l
theorem range_add (a n m : Nat) : (List.range (n + m)).map (fun (k : Nat) => ((a + k : Nat) : Int)) = (List.range n).map (fun (k : Nat) => ((a + k : Nat) : Int)) ++ (List.range m).map (fun (k : Nat) => ((a + n + k : Nat) : Int)) := by
  rw [List.range_add, List.map_append, List.map_map]
  congr 1
  apply List.map_congr_left
  intro k _
  show ((a + (n + k) : Nat) : Int) = ((a + n + k : Nat) : Int)
  rw [Nat.add_assoc]
theorem atoms_ret2 (a n m : Nat) (l : List Dp) : atoms a (ret (n + m) :: l) = atoms a (ret n :: ret m :: l) := by
  show (List.range (n + m)).map (fun (k : Nat) => ((a + k : Nat) : Int)) ++ atoms (a + (n + m)) l = (List.range n).map (fun (k : Nat) => ((a + k : Nat) : Int)) ++ ((List.range m).map (fun (k : Nat) => ((a + n + k : Nat) : Int)) ++ atoms (a + n + m) l)
  rw [range_add, List.append_assoc, Nat.add_assoc]
theorem atoms_cons (p : Dp) (l : List Dp) (a : Nat) : atoms a (cons p l) = atoms a (p :: l) := by
  rcases l with _ | ⟨q, _ | ⟨r, l⟩⟩
  · cases p <;> rfl
  · cases p <;> cases q <;> first | exact atoms_ret2 _ _ _ _ | simp [cons, atoms, Nat.add_assoc]
  · cases p <;> cases q <;> cases r <;> first | exact atoms_ret2 _ _ _ _ | simp [cons, atoms, Nat.add_assoc]
theorem atoms_tail {p : Dp} {l l' : List Dp} (h : ∀ a, atoms a l = atoms a l') (a : Nat) : atoms a (p :: l) = atoms a (p :: l') := by
  cases p <;> simp [atoms, h]
theorem atoms_form : ∀ (l : List Dp) (a : Nat), atoms a (form l) = atoms a l
  | [], _ => rfl
  | p :: l, a => by
    show atoms a (cons p (form l)) = _
    rw [atoms_cons]
    exact atoms_tail (atoms_form l) a
/-- pieces, one for each atom -/
def units : Nat → Nat → List Int → List Dp
  | a, e, [] => gapD (e - a)
  | a, e, v :: l => if v < 0 then ins [UInt8.ofNat (-1 - v).toNat] :: units a e l else gapD (v.toNat - a) ++ ret 1 :: units (v.toNat + 1) e l
theorem form_gapD (n : Nat) (l : List Dp) : form (gapD n ++ l) = if n = 0 then form l else cons (del n) (form l) := by
  unfold gapD
  by_cases h : n = 0 <;> simp [h, form]
theorem gapD_add (n m : Nat) (hn : 0 < n) (l : List Dp) : form (gapD (n + m) ++ l) = cons (del n) (form (gapD m ++ l)) := by
  rw [form_gapD, form_gapD, if_neg (by omega)]
  by_cases h : m = 0
  · subst h; rfl
  · rw [if_neg h, cons_del]
theorem units_del (n : Nat) (hn : 0 < n) : ∀ (l : List Int) (a e : Nat), a + n ≤ e → (∀ v ∈ l, v < 0 ∨ ((a + n : Nat) : Int) ≤ v) → form (units a e l) = cons (del n) (form (units (a + n) e l))
  | [], a, e, he, _ => by
    unfold units
    have h := gapD_add n (e - (a + n)) hn []
    rw [List.append_nil, List.append_nil, show n + (e - (a + n)) = e - a by omega] at h
    exact h
  | v :: l, a, e, he, hl => by
    unfold units
    by_cases hv : v < 0
    · rw [if_pos hv, if_pos hv]
      show cons _ (form (units a e l)) = cons _ (cons _ (form (units (a + n) e l)))
      rw [units_del n hn l a e he fun u hu => hl u (List.mem_cons_of_mem _ hu), cons_swap]
    · rw [if_neg hv, if_neg hv]
      have := (hl v (List.mem_cons_self ..)).resolve_left hv
      rw [show v.toNat - a = n + (v.toNat - (a + n)) by omega]
      exact gapD_add n _ hn _
theorem atoms_ge : ∀ (l : List Dp) (a : Nat), ∀ v ∈ atoms a l, v < 0 ∨ (a : Int) ≤ v
  | [], _, v, h => by simp [atoms] at h
  | p :: l, a, v, h => by
    cases p with
    | ret n =>
      rcases List.mem_append.1 h with h | h
      · obtain ⟨k, _, rfl⟩ := List.mem_map.1 h
        right; omega
      · rcases atoms_ge l _ v h with h | h
        · exact .inl h
        · right; omega
    | ins t =>
      rcases List.mem_append.1 h with h | h
      · obtain ⟨b, _, rfl⟩ := List.mem_map.1 h
        left; omega
      · exact atoms_ge l _ v h
    | del n =>
      rcases atoms_ge l _ v h with h | h
      · exact .inl h
      · right; omega
theorem units_ins (l : List Int) (a e : Nat) : ∀ t : List UInt8, t ≠ [] → form (units a e (t.map (fun b => -1 - (b.toNat : Int)) ++ l)) = cons (ins t) (form (units a e l))
  | [], h => absurd rfl h
  | b :: t, _ => by
    have hb : UInt8.ofNat (-1 - (-1 - (b.toNat : Int))).toNat = b := by
      rw [show (-1 - (-1 - (b.toNat : Int))).toNat = b.toNat by omega]
      exact UInt8.ofNat_toNat
    rw [List.map_cons, List.cons_append]
    rw [show units a e ((-1 - (b.toNat : Int)) :: (t.map (fun b => -1 - (b.toNat : Int)) ++ l)) = ins [UInt8.ofNat (-1 - (-1 - (b.toNat : Int))).toNat] :: units a e (t.map (fun b => -1 - (b.toNat : Int)) ++ l) from if_pos (by omega), hb]
    show cons (ins [b]) (form (units a e _)) = _
    by_cases ht : t = []
    · subst ht; rfl
    · rw [units_ins l a e t ht, cons_ins]
      rfl
theorem units_ret (l : List Int) (e : Nat) : ∀ (n a : Nat), 0 < n → form (units a e ((List.range n).map (fun (k : Nat) => ((a + k : Nat) : Int)) ++ l)) = cons (ret n) (form (units (a + n) e l))
  | 0, _, h => absurd h (Nat.lt_irrefl 0)
  | n + 1, a, _ => by
    have e1 : (List.range (n + 1)).map (fun (k : Nat) => ((a + k : Nat) : Int)) = (a : Int) :: (List.range n).map (fun (k : Nat) => ((a + 1 + k : Nat) : Int)) := by
      rw [List.range_succ_eq_map, List.map_cons, List.map_map]
      congr 1
      apply List.map_congr_left
      intro k _
      show ((a + (k + 1) : Nat) : Int) = _
      congr 1
      omega
    rw [e1, List.cons_append]
    rw [show units a e ((a : Int) :: ((List.range n).map (fun (k : Nat) => ((a + 1 + k : Nat) : Int)) ++ l)) = gapD ((a : Int).toNat - a) ++ ret 1 :: units ((a : Int).toNat + 1) e ((List.range n).map (fun (k : Nat) => ((a + 1 + k : Nat) : Int)) ++ l) from if_neg (by omega)]
    rw [show (a : Int).toNat = a from rfl, Nat.sub_self]
    show cons (ret 1) (form (units (a + 1) e _)) = _
    by_cases hn : n = 0
    · subst hn; rfl
    · rw [units_ret l e n (a + 1) (by omega), cons_ret, Nat.add_comm 1 n, Nat.add_assoc a 1 n, Nat.add_comm 1 n]
theorem form_units : ∀ (x : List Dp) (a : Nat), Ok x → form (units a (a + sI x) (atoms a x)) = form x
  | [], a, _ => by
    show form (gapD (a + 0 - a)) = []
    rw [show a + 0 - a = 0 by omega]
    rfl
  | ret n :: x, a, h => by
    show form (units a (a + (n + sI x)) ((List.range n).map _ ++ atoms (a + n) x)) = cons (ret n) (form x)
    rw [units_ret _ _ n a h.1, ← Nat.add_assoc, form_units x (a + n) h.2]
  | ins t :: x, a, h => by
    show form (units a (a + (0 + sI x)) (t.map _ ++ atoms a x)) = cons (ins t) (form x)
    rw [units_ins _ _ _ t h.1, Nat.zero_add, form_units x a h.2]
  | del n :: x, a, h => by
    show form (units a (a + (n + sI x)) (atoms (a + n) x)) = cons (del n) (form x)
    rw [units_del n h.1 _ _ _ (by omega) (fun v hv => atoms_ge x (a + n) v hv), ← Nat.add_assoc, form_units x (a + n) h.2]
/-- the normal form is determined by the input length and what is kept and inserted -/
theorem form_eq_iff {x y : List Dp} (hx : Ok x) (hy : Ok y) : form x = form y ↔ sI x = sI y ∧ atoms 0 x = atoms 0 y := by
  constructor
  · intro h
    exact ⟨by rw [← sI_form x, h, sI_form], by rw [← atoms_form x, h, atoms_form]⟩
  · rintro ⟨h1, h2⟩
    rw [← form_units x 0 hx, ← form_units y 0 hy, h1, h2]
theorem form_form (u v w : List Dp) : form (u ++ (form v ++ w)) = form (u ++ (v ++ w)) := by
  refine form_congr u ?_
  have : ∀ v : List Dp, form (form v ++ w) = form (v ++ w) := by
    intro v
    induction v with
    | nil => rfl
    | cons p v ih =>
      show form (cons p (form v) ++ w) = cons p (form (v ++ w))
      rw [← ih]
      have hn := form_norm v
      generalize form v = z at *
      have del3 : ∀ (n m : Nat) (t : List UInt8) (x : List Dp), cons (ins t) (cons (del (n + m)) x) = cons (del n) (cons (ins t) (cons (del m) x)) := fun n m t x => by rw [cons_swap, cons_del]
      rcases z with _ | ⟨q, _ | ⟨r, l⟩⟩
      · cases p <;> rfl
      · cases p <;> cases q <;> first | rfl | exact (cons_ret _ _ _).symm | exact (cons_ins _ _ _).symm | exact (cons_del _ _ _).symm | exact (cons_swap _ _ _).symm
      · cases p <;> cases q <;> cases r <;> first | rfl | exact (cons_ret _ _ _).symm | exact (cons_ins _ _ _).symm | exact (cons_del _ _ _).symm | exact (cons_swap _ _ _).symm | exact del3 _ _ _ _
  exact this v
theorem sI_append : ∀ (u v : List Dp), sI (u ++ v) = sI u + sI v
  | [], _ => (Nat.zero_add _).symm
  | p :: u, v => by show p.inn + sI (u ++ v) = p.inn + sI u + sI v; rw [sI_append u v, Nat.add_assoc]
theorem sO_append : ∀ (u v : List Dp), sO (u ++ v) = sO u + sO v
  | [], _ => (Nat.zero_add _).symm
  | p :: u, v => by show p.out + sO (u ++ v) = p.out + sO u + sO v; rw [sO_append u v, Nat.add_assoc]
theorem ok_append : ∀ {u v : List Dp}, Ok u → Ok v → Ok (u ++ v)
  | [], _, _, h => h
  | p :: u, v, h, k => ⟨h.1, ok_append h.2 k⟩
end Dp
end Go.Proofs.YtdfkbahlngijcaaDoor

namespace Go.Proofs.YtdfkbahlngijcaaDoor
set_option linter.unusedVariables false

/-- the words between blanks -/
def splitW : List UInt8 → List (List UInt8)
  | [] => [[]]
  | c :: l => if c = 32 then [] :: splitW l else match splitW l with
    | [] => [[c]]
    | w :: ws => (c :: w) :: ws
def joinW : List (List UInt8) → List UInt8
  | [] => []
  | [w] => w
  | w :: v :: ws => w ++ 32 :: joinW (v :: ws)
theorem splitW_cons (c : UInt8) (l : List UInt8) : splitW (c :: l) = if c = 32 then [] :: splitW l else match splitW l with
    | [] => [[c]]
    | w :: ws => (c :: w) :: ws := rfl
theorem splitW_ne : ∀ l, splitW l ≠ []
  | [] => by simp [splitW]
  | c :: l => by
    rw [splitW_cons]
    by_cases h : c = 32
    · simp [h]
    · rw [if_neg h]
      rcases hh : splitW l with _ | ⟨w, ws⟩ <;> simp
theorem joinW_cons (c : UInt8) (w : List UInt8) (ws : List (List UInt8)) : joinW ((c :: w) :: ws) = c :: joinW (w :: ws) := by
  cases ws <;> rfl
theorem join_split : ∀ l, joinW (splitW l) = l
  | [] => rfl
  | c :: l => by
    have ih := join_split l
    have hne := splitW_ne l
    rw [splitW_cons]
    rcases hh : splitW l with _ | ⟨w, ws⟩
    · exact absurd hh hne
    · rw [hh] at ih
      by_cases h : c = 32
      · subst h
        rw [if_pos rfl]
        show [] ++ 32 :: joinW (w :: ws) = 32 :: l
        rw [ih]; rfl
      · rw [if_neg h]
        show joinW ((c :: w) :: ws) = _
        rw [joinW_cons, ih]
theorem split_word : ∀ (w : List UInt8), (∀ c ∈ w, c ≠ 32) → splitW w = [w]
  | [], _ => rfl
  | c :: w, h => by
    rw [splitW_cons, if_neg (h c (List.mem_cons_self ..)), split_word w fun d hd => h d (List.mem_cons_of_mem _ hd)]
theorem split_app : ∀ (w l : List UInt8), (∀ c ∈ w, c ≠ 32) → splitW (w ++ 32 :: l) = w :: splitW l
  | [], l, _ => by
    show splitW (32 :: l) = _
    rw [splitW_cons, if_pos rfl]
  | c :: w, l, h => by
    show splitW (c :: (w ++ 32 :: l)) = _
    rw [splitW_cons, if_neg (h c (List.mem_cons_self ..)), split_app w l fun d hd => h d (List.mem_cons_of_mem _ hd)]
theorem split_join : ∀ (ws : List (List UInt8)), ws ≠ [] → (∀ w ∈ ws, ∀ c ∈ w, c ≠ 32) → splitW (joinW ws) = ws
  | [], h, _ => absurd rfl h
  | [w], _, h => split_word w (h w (List.mem_cons_self ..))
  | w :: v :: ws, _, h => by
    show splitW (w ++ 32 :: joinW (v :: ws)) = _
    rw [split_app w _ (h w (List.mem_cons_self ..)), split_join (v :: ws) (by simp) fun u hu => h u (List.mem_cons_of_mem _ hu)]
theorem split_no : ∀ (l : List UInt8), ∀ w ∈ splitW l, ∀ c ∈ w, c ≠ 32
  | [], w, hw, c, hc => by
    simp only [splitW, List.mem_singleton] at hw
    subst hw
    exact absurd hc (List.not_mem_nil)
  | a :: l, w, hw, c, hc => by
    have ih := split_no l
    rw [splitW_cons] at hw
    by_cases h : a = 32
    · rw [if_pos h] at hw
      rcases List.mem_cons.1 hw with rfl | hw
      · exact absurd hc (List.not_mem_nil)
      · exact ih w hw c hc
    · rw [if_neg h] at hw
      rcases hh : splitW l with _ | ⟨v, vs⟩
      · exact absurd hh (splitW_ne l)
      · rw [hh] at hw ih
        rcases List.mem_cons.1 hw with rfl | hw
        · rcases List.mem_cons.1 hc with rfl | hc
          · exact h
          · exact ih v (List.mem_cons_self ..) c hc
        · exact ih w (List.mem_cons_of_mem _ hw) c hc

/-- numbers -/
def numG : Nat → List UInt8 → Option Nat
  | n, [] => some n
  | n, c :: l => if c < 48 ∨ 57 < c then none else if 1048576 < 10 * n + (c.toNat - 48) then none else numG (10 * n + (c.toNat - 48)) l
def numP : List UInt8 → Option Nat
  | [] => none
  | c :: l => if c = 48 then none else numG 0 (c :: l)
theorem numG_cons (n : Nat) (c : UInt8) (l : List UInt8) : numG n (c :: l) = if c < 48 ∨ 57 < c then none else if 1048576 < 10 * n + (c.toNat - 48) then none else numG (10 * n + (c.toNat - 48)) l := rfl
theorem numG_nil (n : Nat) : numG n [] = some n := rfl
theorem numP_cons (c : UInt8) (l : List UInt8) : numP (c :: l) = if c = 48 then none else numG 0 (c :: l) := rfl
theorem numG_step (c : UInt8) : ∀ (l : List UInt8) (n : Nat), numG n (l ++ [c]) = (numG n l).bind fun m => numG m [c]
  | [], n => rfl
  | d :: l, n => by
    show numG n (d :: (l ++ [c])) = _
    rw [numG_cons, numG_cons]
    by_cases h1 : d < 48 ∨ 57 < d
    · rw [if_pos h1, if_pos h1]; rfl
    · rw [if_neg h1, if_neg h1]
      by_cases h2 : 1048576 < 10 * n + (d.toNat - 48)
      · rw [if_pos h2, if_pos h2]; rfl
      · rw [if_neg h2, if_neg h2]
        exact numG_step c l _
theorem digC_nat (n : Nat) : (digC n).toNat = 48 + n % 10 := by
  have := digC_val n
  omega
theorem digC_dig (n : Nat) : ¬ (digC n < 48 ∨ 57 < digC n) := by
  have h := digC_nat n
  rw [UInt8.lt_iff_toNat_lt, UInt8.lt_iff_toNat_lt]
  rw [h]
  show ¬ (48 + n % 10 < 48 ∨ 57 < 48 + n % 10)
  omega
theorem decDigits_ne : ∀ n, Lib.decDigits n ≠ [] := fun n => by
  by_cases h : n < 10
  · rw [decDigits_small h]; simp
  · rw [decDigits_step h]; simp
theorem numP_snoc {l : List UInt8} (hl : l ≠ []) (c : UInt8) : numP (l ++ [c]) = (numP l).bind fun m => numG m [c] := by
  rcases l with _ | ⟨d, l⟩
  · exact absurd rfl hl
  · show numP (d :: (l ++ [c])) = _
    rw [numP_cons, numP_cons]
    by_cases h : d = 48
    · rw [if_pos h, if_pos h]; rfl
    · rw [if_neg h, if_neg h]
      exact numG_step c (d :: l) 0
theorem numP_dec : ∀ n : Nat, 1 ≤ n → n ≤ 1048576 → numP (Lib.decDigits n) = some n := by
  intro n
  induction n using Nat.strongRecOn with
  | ind n ih =>
    intro h1 h2
    have hv := digC_nat n
    have hd := digC_dig n
    by_cases h : n < 10
    · rw [decDigits_small h]
      rw [numP_cons, if_neg (fun e : digC n = 48 => by rw [e] at hv; simp at hv; omega), numG_cons, if_neg hd, if_neg (by omega), numG_nil]
      congr 1
      omega
    · rw [decDigits_step h, numP_snoc (decDigits_ne _), ih (n / 10) (by omega) (by omega) (by omega)]
      show numG (n / 10) [digC n] = _
      rw [numG_cons, if_neg hd, if_neg (by omega), numG_nil]
      congr 1
      omega
theorem dig_eq {c : UInt8} (h : ¬ (c < 48 ∨ 57 < c)) : 48 ≤ c.toNat ∧ c.toNat ≤ 57 := by
  rw [UInt8.lt_iff_toNat_lt, UInt8.lt_iff_toNat_lt] at h
  have e1 : (48 : UInt8).toNat = 48 := rfl
  have e2 : (57 : UInt8).toNat = 57 := rfl
  omega
theorem dec_ext {n : Nat} {c : UInt8} (hn : 1 ≤ n) (hc : ¬ (c < 48 ∨ 57 < c)) : Lib.decDigits (10 * n + (c.toNat - 48)) = Lib.decDigits n ++ [c] := by
  obtain ⟨h1, h2⟩ := dig_eq hc
  rw [decDigits_step (by omega), show (10 * n + (c.toNat - 48)) / 10 = n by omega]
  congr 2
  apply UInt8.toNat_inj.1
  rw [digC_nat]
  omega
theorem dec_one {c : UInt8} (hc : ¬ (c < 48 ∨ 57 < c)) : Lib.decDigits (c.toNat - 48) = [c] := by
  obtain ⟨h1, h2⟩ := dig_eq hc
  rw [decDigits_small (by omega)]
  congr 1
  apply UInt8.toNat_inj.1
  rw [digC_nat]
  omega
theorem numG_dec : ∀ (l : List UInt8) (n m : Nat), 1 ≤ n → n ≤ 1048576 → numG n l = some m → 1 ≤ m ∧ m ≤ 1048576 ∧ Lib.decDigits m = Lib.decDigits n ++ l
  | [], n, m, h1, h2, h => by
    obtain rfl : n = m := Option.some.inj h
    exact ⟨h1, h2, (List.append_nil _).symm⟩
  | c :: l, n, m, h1, h2, h => by
    rw [numG_cons] at h
    by_cases g1 : c < 48 ∨ 57 < c
    · rw [if_pos g1] at h; cases h
    · rw [if_neg g1] at h
      by_cases g2 : 1048576 < 10 * n + (c.toNat - 48)
      · rw [if_pos g2] at h; cases h
      · rw [if_neg g2] at h
        obtain ⟨k1, k2, k3⟩ := numG_dec l _ m (by omega) (by omega) h
        refine ⟨k1, k2, ?_⟩
        rw [k3, dec_ext h1 g1, List.append_assoc]
        rfl
theorem numP_some {l : List UInt8} {m : Nat} (h : numP l = some m) : 1 ≤ m ∧ m ≤ 1048576 ∧ Lib.decDigits m = l := by
  rcases l with _ | ⟨c, l⟩
  · cases h
  · rw [numP_cons] at h
    by_cases g0 : c = 48
    · rw [if_pos g0] at h; cases h
    · rw [if_neg g0] at h
      rw [numG_cons] at h
      by_cases g1 : c < 48 ∨ 57 < c
      · rw [if_pos g1] at h; cases h
      · rw [if_neg g1] at h
        obtain ⟨d1, d2⟩ := dig_eq g1
        have d3 : c.toNat ≠ 48 := fun e => g0 (UInt8.toNat_inj.1 e)
        by_cases g2 : 1048576 < 10 * 0 + (c.toNat - 48)
        · omega
        · rw [if_neg g2] at h
          obtain ⟨k1, k2, k3⟩ := numG_dec l _ m (by omega) (by omega) h
          refine ⟨k1, k2, ?_⟩
          rw [k3, show 10 * 0 + (c.toNat - 48) = c.toNat - 48 by omega, dec_one g1]
          rfl

/-- hexadecimal digits -/
def halfP (c : UInt8) : Option Nat := if 48 ≤ c ∧ c ≤ 57 then some (c.toNat - 48) else if 97 ≤ c ∧ c ≤ 102 then some (c.toNat - 87) else none
def hexP : List UInt8 → Option (List UInt8)
  | [] => some []
  | [_] => none
  | a :: b :: l => match halfP a, halfP b with
    | some x, some y => (hexP l).map (UInt8.ofNat (16 * x + y) :: ·)
    | _, _ => none
theorem half_hexD : ∀ n : Nat, n < 16 → halfP (hexD n) = some n := by decide +kernel
theorem half_some : ∀ c : UInt8, ∀ x, halfP c = some x → x < 16 ∧ hexD x = c := by
  intro c x h
  unfold halfP at h
  have e1 : (48 : UInt8).toNat = 48 := rfl
  have e2 : (57 : UInt8).toNat = 57 := rfl
  have e3 : (97 : UInt8).toNat = 97 := rfl
  have e4 : (102 : UInt8).toNat = 102 := rfl
  by_cases h1 : 48 ≤ c ∧ c ≤ 57
  · rw [if_pos h1] at h
    obtain rfl := Option.some.inj h
    rw [UInt8.le_iff_toNat_le, UInt8.le_iff_toNat_le] at h1
    refine ⟨by omega, ?_⟩
    unfold hexD
    rw [if_pos (by omega), show 48 + (c.toNat - 48) = c.toNat by omega]
    exact UInt8.ofNat_toNat
  · rw [if_neg h1] at h
    by_cases h2 : 97 ≤ c ∧ c ≤ 102
    · rw [if_pos h2] at h
      obtain rfl := Option.some.inj h
      rw [UInt8.le_iff_toNat_le, UInt8.le_iff_toNat_le] at h2
      refine ⟨by omega, ?_⟩
      unfold hexD
      rw [if_neg (by omega), show 87 + (c.toNat - 87) = c.toNat by omega]
      exact UInt8.ofNat_toNat
    · rw [if_neg h2] at h; cases h
theorem hexP_hexL : ∀ t : List UInt8, hexP (hexL t) = some t
  | [] => rfl
  | b :: t => by
    have hb := u8lt b
    show hexP (hexD (b.toNat / 16) :: hexD (b.toNat % 16) :: hexL t) = _
    unfold hexP
    rw [half_hexD _ (by omega), half_hexD _ (by omega), hexP_hexL t]
    show some (UInt8.ofNat (16 * (b.toNat / 16) + b.toNat % 16) :: t) = _
    rw [Nat.div_add_mod]
    rw [UInt8.ofNat_toNat]
theorem hexP_some : ∀ (l t : List UInt8), hexP l = some t → hexL t = l
  | [], t, h => by
    obtain rfl := Option.some.inj h
    rfl
  | [_], t, h => by cases h
  | a :: b :: l, t, h => by
    unfold hexP at h
    rcases ha : halfP a with _ | x
    · rw [ha] at h; cases h
    rcases hb : halfP b with _ | y
    · rw [ha, hb] at h; cases h
    rw [ha, hb] at h
    rcases hl : hexP l with _ | u
    · rw [hl] at h; cases h
    rw [hl] at h
    obtain rfl := Option.some.inj h
    obtain ⟨x1, x2⟩ := half_some a x ha
    obtain ⟨y1, y2⟩ := half_some b y hb
    show hexB (UInt8.ofNat (16 * x + y)) ++ hexL u = _
    rw [hexP_some l u hl]
    unfold hexB
    have e : (UInt8.ofNat (16 * x + y)).toNat = 16 * x + y := by
      rw [UInt8.toNat_ofNat']
      omega
    rw [e, show (16 * x + y) / 16 = x by omega, show (16 * x + y) % 16 = y by omega, x2, y2]
    rfl

/-- a piece's word -/
def pcT (p : Pc) : List UInt8 := if p.k = 2 then 43 :: hexL p.t.data.toList else if p.k = 3 then 45 :: Lib.decDigits p.n.toNat else 61 :: Lib.decDigits p.n.toNat
def oneP : List UInt8 → Option Pc
  | [] => none
  | c :: w => if c = 43 then (if w = [] then none else (hexP w).map fun t => ⟨2, 0, ⟨t.toArray⟩⟩)
    else if c = 61 then (numP w).map fun (n : Nat) => (⟨1, (n : Int), ⟨#[]⟩⟩ : Pc)
    else if c = 45 then (numP w).map fun (n : Nat) => (⟨3, (n : Int), ⟨#[]⟩⟩ : Pc)
    else none
theorem oneP_cons (c : UInt8) (w : List UInt8) : oneP (c :: w) = if c = 43 then (if w = [] then none else (hexP w).map fun t => ⟨2, 0, ⟨t.toArray⟩⟩)
    else if c = 61 then (numP w).map fun (n : Nat) => (⟨1, (n : Int), ⟨#[]⟩⟩ : Pc)
    else if c = 45 then (numP w).map fun (n : Nat) => (⟨3, (n : Int), ⟨#[]⟩⟩ : Pc)
    else none := by rw [oneP]
def textL (l : List Pc) : List UInt8 := joinW (l.map pcT)
def allP : List (List UInt8) → Option (List Pc)
  | [] => some []
  | w :: ws => match oneP w, allP ws with
    | some p, some l => some (p :: l)
    | _, _ => none
def parseL (s : List UInt8) : Option (List Pc) := if s = [] then some [] else allP (splitW s)
theorem pc_ext {p q : Pc} (h1 : p.k = q.k) (h2 : p.n = q.n) (h3 : p.t = q.t) : p = q := by
  obtain ⟨a, b, c⟩ := p
  obtain ⟨d, e, f⟩ := q
  simp only at h1 h2 h3
  rw [h1, h2, h3]
theorem one_pcT {p : Pc} (h : okP p = true) (hn : p.n ≤ 1048576) : oneP (pcT p) = some p := by
  obtain ⟨k, n, t⟩ := p
  rcases okP_cases h with ⟨rfl, h2, h3⟩ | ⟨rfl, h2, h3⟩ | ⟨rfl, h2, h3⟩
  · simp only at h2 h3 hn
    unfold pcT oneP
    simp only [show ¬ ((1 : Int) = 2) by decide, show ¬ ((1 : Int) = 3) by decide, if_false, show ¬ ((61 : UInt8) = 43) by decide, if_true]
    rw [numP_dec n.toNat (by omega) (by omega)]
    show some _ = _
    congr 1
    exact pc_ext rfl (by show (n.toNat : Int) = n; omega) (str_empty h3).symm
  · simp only at h2 h3 hn
    unfold pcT oneP
    simp only [show ¬ ((3 : Int) = 2) by decide, if_false, show ¬ ((45 : UInt8) = 43) by decide, show ¬ ((45 : UInt8) = 61) by decide, if_true]
    rw [numP_dec n.toNat (by omega) (by omega)]
    show some _ = _
    congr 1
    exact pc_ext rfl (by show (n.toNat : Int) = n; omega) (str_empty h3).symm
  · simp only at h2 h3 hn
    unfold pcT oneP
    simp only [if_true]
    rw [hexP_hexL, if_neg (fun e => h3 (by
      have := congrArg List.length e
      rw [hexL_len, Array.length_toList] at this
      have h0 : ([] : List UInt8).length = 0 := rfl
      rw [h0] at this
      show t.data.size = 0
      omega))]
    show some _ = _
    congr 1
    exact pc_ext rfl h2.symm (by show (⟨t.data.toList.toArray⟩ : ByteArray) = t; rw [Array.toArray_toList])
theorem one_some {w : List UInt8} {p : Pc} (h : oneP w = some p) : okP p = true ∧ p.n ≤ 1048576 ∧ pcT p = w := by
  rcases w with _ | ⟨c, w⟩
  · cases h
  rw [oneP_cons] at h
  by_cases h1 : c = 43
  · subst h1
    rw [if_pos rfl] at h
    by_cases hw : w = []
    · rw [if_pos hw] at h; cases h
    rw [if_neg hw] at h
    rcases hx : hexP w with _ | t
    · rw [hx] at h; cases h
    rw [hx] at h
    obtain rfl := Option.some.inj h
    have := hexP_some w t hx
    have ht : t.toArray.size ≠ 0 := fun e => hw (by
      have e' : t = [] := List.eq_nil_of_length_eq_zero (by rw [← List.size_toArray]; exact e)
      rw [← this, e']; rfl)
    refine ⟨?_, by show (0 : Int) ≤ _; decide, ?_⟩
    · unfold okP
      have ht' : (⟨t.toArray⟩ : ByteArray).size ≠ 0 := ht
      simp [ht']
    · show 43 :: hexL t.toArray.toList = 43 :: w
      rw [this]
  rw [if_neg h1] at h
  by_cases h2 : c = 61
  · subst h2
    rw [if_pos rfl] at h
    rcases hx : numP w with _ | n
    · rw [hx] at h; cases h
    rw [hx] at h
    obtain rfl := Option.some.inj h
    obtain ⟨k1, k2, k3⟩ := numP_some hx
    refine ⟨?_, by show (n : Int) ≤ _; omega, ?_⟩
    · unfold okP
      have : (1 : Int) ≤ n := by omega
      have h0 : (⟨#[]⟩ : ByteArray).size = 0 := rfl
      simp [this, h0]
    · show 61 :: Lib.decDigits (n : Int).toNat = 61 :: w
      rw [← k3]; rfl
  rw [if_neg h2] at h
  by_cases h3 : c = 45
  · subst h3
    rw [if_pos rfl] at h
    rcases hx : numP w with _ | n
    · rw [hx] at h; cases h
    rw [hx] at h
    obtain rfl := Option.some.inj h
    obtain ⟨k1, k2, k3⟩ := numP_some hx
    refine ⟨?_, by show (n : Int) ≤ _; omega, ?_⟩
    · unfold okP
      have : (1 : Int) ≤ n := by omega
      have h0 : (⟨#[]⟩ : ByteArray).size = 0 := rfl
      simp [this, h0]
    · show 45 :: Lib.decDigits (n : Int).toNat = 45 :: w
      rw [← k3]; rfl
  · rw [if_neg h3] at h; cases h
theorem dec_no32 (n : Nat) : ∀ c ∈ Lib.decDigits n, c ≠ 32 := by
  induction n using Nat.strongRecOn with
  | ind n ih =>
    intro c hc
    have hd := digC_nat n
    by_cases h : n < 10
    · rw [decDigits_small h, List.mem_singleton] at hc
      subst hc
      intro e; rw [e] at hd; simp at hd; omega
    · rw [decDigits_step h, List.mem_append, List.mem_singleton] at hc
      rcases hc with hc | rfl
      · exact ih (n / 10) (by omega) c hc
      · intro e; rw [e] at hd; simp at hd; omega
theorem hexD_no32 : ∀ n : Nat, n < 16 → hexD n ≠ 32 := by decide +kernel
theorem hexL_no32 (l : List UInt8) : ∀ c ∈ hexL l, c ≠ 32 := by
  intro c hc
  obtain ⟨b, _, hb⟩ := List.mem_flatMap.1 hc
  have := u8lt b
  simp only [hexB, List.mem_cons, List.not_mem_nil, or_false] at hb
  rcases hb with rfl | rfl
  · exact hexD_no32 _ (by omega)
  · exact hexD_no32 _ (by omega)
theorem pcT_no32 (p : Pc) : ∀ c ∈ pcT p, c ≠ 32 := by
  intro c hc
  unfold pcT at hc
  by_cases h1 : p.k = 2
  · rw [if_pos h1] at hc
    rcases List.mem_cons.1 hc with rfl | hc
    · decide
    · exact hexL_no32 _ c hc
  rw [if_neg h1] at hc
  by_cases h2 : p.k = 3
  · rw [if_pos h2] at hc
    rcases List.mem_cons.1 hc with rfl | hc
    · decide
    · exact dec_no32 _ c hc
  rw [if_neg h2] at hc
  rcases List.mem_cons.1 hc with rfl | hc
  · decide
  · exact dec_no32 _ c hc
theorem allP_map : ∀ (l : List Pc), (∀ p ∈ l, okP p = true ∧ p.n ≤ 1048576) → allP (l.map pcT) = some l
  | [], _ => rfl
  | p :: l, h => by
    show (match oneP (pcT p), allP (l.map pcT) with | some p, some l => some (p :: l) | _, _ => none) = _
    rw [one_pcT (h p (List.mem_cons_self ..)).1 (h p (List.mem_cons_self ..)).2, allP_map l fun q hq => h q (List.mem_cons_of_mem _ hq)]
theorem allP_some : ∀ (ws : List (List UInt8)) (l : List Pc), allP ws = some l → l.map pcT = ws ∧ ∀ p ∈ l, okP p = true ∧ p.n ≤ 1048576
  | [], l, h => by
    obtain rfl := Option.some.inj h
    exact ⟨rfl, fun p hp => absurd hp (List.not_mem_nil)⟩
  | w :: ws, l, h => by
    unfold allP at h
    rcases h1 : oneP w with _ | p
    · rw [h1] at h; cases h
    rcases h2 : allP ws with _ | l'
    · rw [h1, h2] at h; cases h
    rw [h1, h2] at h
    obtain rfl := Option.some.inj h
    obtain ⟨k1, k2⟩ := allP_some ws l' h2
    obtain ⟨g1, g2, g3⟩ := one_some h1
    refine ⟨by rw [List.map_cons, g3, k1], fun q hq => ?_⟩
    rcases List.mem_cons.1 hq with rfl | hq
    · exact ⟨g1, g2⟩
    · exact k2 q hq
theorem pcT_ne (p : Pc) : pcT p ≠ [] := by
  unfold pcT
  by_cases h1 : p.k = 2
  · rw [if_pos h1]; simp
  rw [if_neg h1]
  by_cases h2 : p.k = 3
  · rw [if_pos h2]; simp
  · rw [if_neg h2]; simp
theorem textL_ne {l : List Pc} (h : l ≠ []) : textL l ≠ [] := by
  unfold textL
  rcases l with _ | ⟨p, _ | ⟨q, l⟩⟩
  · exact absurd rfl h
  · exact pcT_ne p
  · show pcT p ++ 32 :: _ ≠ []
    simp
/-- reading what was printed -/
theorem parse_text {l : List Pc} (h : ∀ p ∈ l, okP p = true ∧ p.n ≤ 1048576) : parseL (textL l) = some l := by
  unfold parseL
  by_cases hl : l = []
  · subst hl; rfl
  rw [if_neg (textL_ne hl)]
  unfold textL
  rw [split_join (l.map pcT) (by simpa using hl) (by
    intro w hw
    obtain ⟨p, _, rfl⟩ := List.mem_map.1 hw
    exact pcT_no32 p)]
  exact allP_map l h
/-- printing what was read -/
theorem text_parse {s : List UInt8} {l : List Pc} (h : parseL s = some l) : textL l = s ∧ ∀ p ∈ l, okP p = true ∧ p.n ≤ 1048576 := by
  unfold parseL at h
  by_cases hs : s = []
  · rw [if_pos hs] at h
    obtain rfl := Option.some.inj h
    exact ⟨hs.symm, fun p hp => absurd hp (List.not_mem_nil)⟩
  · rw [if_neg hs] at h
    obtain ⟨h1, h2⟩ := allP_some _ _ h
    exact ⟨by unfold textL; rw [h1, join_split], h2⟩
end Go.Proofs.YtdfkbahlngijcaaDoor

namespace Go.Proofs.YtdfkbahlngijcaaDoor
set_option linter.unusedVariables false

def toP : Dp → Pc
  | .ret n => ⟨1, n, ⟨#[]⟩⟩
  | .ins t => ⟨2, 0, ⟨t.toArray⟩⟩
  | .del n => ⟨3, n, ⟨#[]⟩⟩
def ofP (p : Pc) : Dp := if p.k = 2 then .ins p.t.data.toList else if p.k = 3 then .del p.n.toNat else .ret p.n.toNat
theorem of_to (d : Dp) : ofP (toP d) = d := by
  cases d <;> rfl
theorem to_of {p : Pc} (h : okP p = true) : toP (ofP p) = p := by
  obtain ⟨k, n, t⟩ := p
  rcases okP_cases h with ⟨rfl, h2, h3⟩ | ⟨rfl, h2, h3⟩ | ⟨rfl, h2, h3⟩
  · exact pc_ext rfl (by show (n.toNat : Int) = n; simp only at h2; omega) (str_empty h3).symm
  · exact pc_ext rfl (by show (n.toNat : Int) = n; simp only at h2; omega) (str_empty h3).symm
  · exact pc_ext rfl (by simp only at h2; exact h2.symm) (by show (⟨t.data.toList.toArray⟩ : ByteArray) = t; rw [Array.toArray_toList])
theorem of_ok {p : Pc} (h : okP p = true) : (ofP p).ok := by
  obtain ⟨k, n, t⟩ := p
  rcases okP_cases h with ⟨rfl, h2, h3⟩ | ⟨rfl, h2, h3⟩ | ⟨rfl, h2, h3⟩
  · show 0 < n.toNat; simp only at h2; omega
  · show 0 < n.toNat; simp only at h2; omega
  · show t.data.toList ≠ []
    intro e
    exact h3 (by
      show t.data.size = 0
      rw [← Array.length_toList, e]; rfl)
theorem to_ok {d : Dp} (h : d.ok) : okP (toP d) = true := by
  cases d with
  | ret n =>
    have : (1 : Int) ≤ n := by have : 0 < n := h; omega
    have h0 : (⟨#[]⟩ : ByteArray).size = 0 := rfl
    simp [okP, toP, this, h0]
  | del n =>
    have : (1 : Int) ≤ n := by have : 0 < n := h; omega
    have h0 : (⟨#[]⟩ : ByteArray).size = 0 := rfl
    simp [okP, toP, this, h0]
  | ins t =>
    have h0 : (⟨t.toArray⟩ : ByteArray).size ≠ 0 := fun e => h (List.eq_nil_of_length_eq_zero (by rw [← List.size_toArray]; exact e))
    simp [okP, toP, h0]
theorem inP_of {p : Pc} (h : okP p = true) : inP p = (ofP p).inn ∧ outP p = (ofP p).out := by
  obtain ⟨k, n, t⟩ := p
  rcases okP_cases h with ⟨rfl, h2, h3⟩ | ⟨rfl, h2, h3⟩ | ⟨rfl, h2, h3⟩
  · simp only at h2
    exact ⟨by show n = (n.toNat : Int); omega, by show n = (n.toNat : Int); omega⟩
  · simp only at h2
    exact ⟨by show n = (n.toNat : Int); omega, rfl⟩
  · exact ⟨rfl, by show (t.size : Int) = (t.data.toList.length : Int); rw [Array.length_toList]; rfl⟩
def AllOk (l : List Pc) : Prop := ∀ p ∈ l, okP p = true
theorem AllOk.tail {p : Pc} {l : List Pc} (h : AllOk (p :: l)) : AllOk l := fun q hq => h q (List.mem_cons_of_mem _ hq)
theorem AllOk.head {p : Pc} {l : List Pc} (h : AllOk (p :: l)) : okP p = true := h p (List.mem_cons_self ..)
theorem AllOk.ok : ∀ {l : List Pc}, AllOk l → Dp.Ok (l.map ofP)
  | [], _ => trivial
  | p :: l, h => ⟨of_ok h.head, AllOk.ok h.tail⟩
theorem allOk_to : ∀ {l : List Dp}, Dp.Ok l → AllOk (l.map toP)
  | [], _, p, hp => absurd hp (List.not_mem_nil)
  | d :: l, h, p, hp => by
    rcases List.mem_cons.1 hp with rfl | hp
    · exact to_ok h.1
    · exact allOk_to h.2 p hp
theorem map_of_to : ∀ l : List Dp, (l.map toP).map ofP = l
  | [] => rfl
  | d :: l => by rw [List.map_cons, List.map_cons, of_to, map_of_to l]
theorem map_to_of : ∀ {l : List Pc}, AllOk l → (l.map ofP).map toP = l
  | [], _ => rfl
  | p :: l, h => by rw [List.map_cons, List.map_cons, to_of h.head, map_to_of h.tail]
def sIP (l : List Pc) : Nat := Dp.sI (l.map ofP)
def sOP (l : List Pc) : Nat := Dp.sO (l.map ofP)
theorem lenL_ok : ∀ (l : List Pc) (i o : Int), AllOk l → i + sIP l ≤ 1048576 → o + sOP l ≤ 1048576 → lenL i o l = (i + sIP l, o + sOP l, 0)
  | [], i, o, _, _, _ => by
    show (i, o, 0) = (i + ((0 : Nat) : Int), o + ((0 : Nat) : Int), 0)
    simp
  | p :: l, i, o, h, hi, ho => by
    obtain ⟨e1, e2⟩ := inP_of h.head
    have s1 : sIP (p :: l) = (ofP p).inn + sIP l := rfl
    have s2 : sOP (p :: l) = (ofP p).out + sOP l := rfl
    unfold lenL
    rw [if_neg (by rw [h.head]; decide), if_neg (by omega), lenL_ok l _ _ h.tail (by omega) (by omega), s1, s2, e1, e2]
    congr 1
    · omega
    · congr 1; omega
theorem lenL_inv : ∀ (l : List Pc) (i o : Int), i ≤ 1048576 → o ≤ 1048576 → (lenL i o l).2.2 = 0 → AllOk l ∧ i + sIP l ≤ 1048576 ∧ o + sOP l ≤ 1048576
  | [], i, o, hi, ho, _ => ⟨fun p hp => absurd hp (List.not_mem_nil), by show i + ((0 : Nat) : Int) ≤ _; omega, by show o + ((0 : Nat) : Int) ≤ _; omega⟩
  | p :: l, i, o, hi, ho, h => by
    unfold lenL at h
    by_cases h1 : okP p = false
    · rw [if_pos h1] at h; exact absurd h (by decide)
    · rw [if_neg h1] at h
      have hp : okP p = true := by simpa using h1
      by_cases h2 : 1048576 - i < inP p ∨ 1048576 - o < outP p
      · rw [if_pos h2] at h; exact absurd h (by decide)
      · rw [if_neg h2] at h
        obtain ⟨k1, k2, k3⟩ := lenL_inv l _ _ (by omega) (by omega) h
        obtain ⟨e1, e2⟩ := inP_of hp
        have s1 : sIP (p :: l) = (ofP p).inn + sIP l := rfl
        have s2 : sOP (p :: l) = (ofP p).out + sOP l := rfl
        refine ⟨fun q hq => ?_, by omega, by omega⟩
        rcases List.mem_cons.1 hq with rfl | hq
        · exact hp
        · exact k1 q hq
theorem check_inv {l : List Pc} (h : checkP l = 0) : l.length ≤ 4096 ∧ AllOk l ∧ sIP l ≤ 1048576 ∧ sOP l ≤ 1048576 := by
  unfold checkP lengthsP at h
  by_cases h1 : 4096 < l.length
  · rw [if_pos h1] at h; exact absurd h (by decide)
  · rw [if_neg h1] at h
    obtain ⟨k1, k2, k3⟩ := lenL_inv l 0 0 (by decide) (by decide) h
    exact ⟨by omega, k1, by omega, by omega⟩
theorem lengths_ok {l : List Pc} (h1 : l.length ≤ 4096) (h2 : AllOk l) (h3 : sIP l ≤ 1048576) (h4 : sOP l ≤ 1048576) : lengthsP l = (↑(sIP l), ↑(sOP l), 0) := by
  unfold lengthsP
  rw [if_neg (by omega), lenL_ok l 0 0 h2 (by omega) (by omega)]
  simp
theorem check_ok {l : List Pc} (h1 : l.length ≤ 4096) (h2 : AllOk l) (h3 : sIP l ≤ 1048576) (h4 : sOP l ≤ 1048576) : checkP l = 0 := by
  unfold checkP
  rw [lengths_ok h1 h2 h3 h4]
theorem lengths_of_check {l : List Pc} (h : checkP l = 0) : lengthsP l = (↑(sIP l), ↑(sOP l), 0) := by
  obtain ⟨h1, h2, h3, h4⟩ := check_inv h
  exact lengths_ok h1 h2 h3 h4
/-- the normal form -/
def formP (l : List Pc) : List Pc := (Dp.form (l.map ofP)).map toP
theorem formP_ok {l : List Pc} (h : AllOk l) : AllOk (formP l) := allOk_to (Dp.form_okL h.ok)
theorem map_formP (l : List Pc) : (formP l).map ofP = Dp.form (l.map ofP) := map_of_to _
theorem sIP_form (l : List Pc) : sIP (formP l) = sIP l := by
  unfold sIP
  rw [map_formP, Dp.sI_form]
theorem sOP_form (l : List Pc) : sOP (formP l) = sOP l := by
  unfold sOP
  rw [map_formP, Dp.sO_form]
theorem len_formP (l : List Pc) : (formP l).length ≤ l.length := by
  unfold formP
  have := Dp.len_form (l.map ofP)
  rw [List.length_map] at this ⊢
  exact this
theorem formP_form (l : List Pc) : formP (formP l) = formP l := by
  unfold formP
  rw [map_of_to, Dp.form_of_norm (Dp.form_norm _)]
theorem check_formP {l : List Pc} (h : checkP l = 0) : checkP (formP l) = 0 := by
  obtain ⟨h1, h2, h3, h4⟩ := check_inv h
  have := len_formP l
  exact check_ok (by omega) (formP_ok h2) (by rw [sIP_form]; exact h3) (by rw [sOP_form]; exact h4)
theorem formP_append (u v : List Pc) : formP (formP u ++ v) = formP (u ++ v) := by
  unfold formP
  rw [List.map_append, List.map_append, map_of_to]
  congr 1
  exact Dp.form_form [] _ _
theorem formP_append3 (u v w : List Pc) : formP (u ++ (formP v ++ w)) = formP (u ++ (v ++ w)) := by
  unfold formP
  rw [List.map_append, List.map_append, List.map_append, List.map_append, map_of_to]
  congr 1
  exact Dp.form_form _ _ _
theorem sIP_append (u v : List Pc) : sIP (u ++ v) = sIP u + sIP v := by
  unfold sIP
  rw [List.map_append, Dp.sI_append]
theorem sOP_append (u v : List Pc) : sOP (u ++ v) = sOP u + sOP v := by
  unfold sOP
  rw [List.map_append, Dp.sO_append]
theorem formP_eq_iff {x y : List Pc} (hx : AllOk x) (hy : AllOk y) : formP x = formP y ↔ sIP x = sIP y ∧ Dp.atoms 0 (x.map ofP) = Dp.atoms 0 (y.map ofP) := by
  refine Iff.trans ?_ (Dp.form_eq_iff hx.ok hy.ok)
  constructor
  · intro h
    have := congrArg (List.map ofP) h
    rwa [map_formP, map_formP] at this
  · intro h
    unfold formP
    rw [h]
end Go.Proofs.YtdfkbahlngijcaaDoor

namespace Go.Proofs.YtdfkbahlngijcaaDoor
open Go.RowKit Go.Sort
set_option linter.unusedVariables false

/-- the library's table of powers of ten reads as it is laid -/
def Tab (w : World) : Prop := Lib.TabIs Tryd.prog w "internal/strconv.uint64pow10" .u64 Lib.pow10Tab
theorem Tab.below {w w' : World} (h : Tab w) (hb : Below w.heap.size w w') : Tab w' := Lib.tabBelow_of_tabIs h w' hb
theorem below_growN (w : World) (k : Nat) (os : Array Obj) : Below w.heap.size w (grow (w.drewN k) os) :=
  ⟨rfl, rfl, rfl, by show w.heap.size ≤ (w.heap ++ os).size; rw [Array.size_append]; omega, fun j hj => by
    show (w.heap ++ os)[j]? = w.heap[j]?
    rw [Array.getElem?_append, if_pos hj]⟩
theorem others_below {e : TypeId} {b : Option Nat} {w w' : World} (h : Below w.heap.size w w') : Lib.OthersKept e b w w' := fun k o hk _ _ => by
  rw [h.block k (block_lt hk)]; exact hk
theorem builder_below {T e : TypeId} {B b : Nat} {bs : List Value} {w w' : World} (h : Lib.IsBuilderF T e B b bs w) (hb : Below w.heap.size w w') : Lib.IsBuilderF T e B b bs w' := by
  have key : ∀ p, Lib.BuilderAtF T e B b p bs w → Lib.BuilderAtF T e B b p bs w' := by
    rintro p ⟨h1, v, h2, h3, h4⟩
    refine ⟨h1, v, block_below hb h2 (block_lt h2), ⟨h3.1, ?_⟩, h4⟩
    rcases h3.2 with hn | ⟨g, cap, cur, fz, hv, hbg, hg, rest⟩
    · exact .inl hn
    · exact .inr ⟨g, cap, cur, fz, hv, hbg, block_below hb hg (block_lt hg), rest⟩
  exact h.elim (fun x => .inl (key _ x)) (fun x => .inr (key _ x))
theorem BuilderF_lt {T e : TypeId} {B b : Nat} {bs : List Value} {w : World} (h : Lib.IsBuilderF T e B b bs w) : b < w.heap.size := h.elim (fun x => x.lt) (fun x => x.lt)
theorem others_cells {e t : TypeId} {b k : Nat} {w w' : World} {c : Array Value} {fz : Nat × Nat} (h : Lib.OthersKept e (some b) w w') (hk : w.heap[k]? = some (.cells c t fz)) (hkb : k ≠ b) (ht : t ≠ e) : w'.heap[k]? = some (.cells c t fz) :=
  h k _ hk (fun e' => hkb (Option.some.inj e')) (fun c' fz' e' => ht (by injection e'))
theorem itoa_nat (n : Nat) (hn : n ≤ 9223372036854775807) (w : World) (ht : Tab w) :
    Calls Tryd.prog 27 #[.int .i64 n] w fun e w' => e = .returned (.string ⟨(Lib.decDigits n).toArray⟩) ∧ Below w.heap.size w w' := by
  refine (Tryd.strconv_Itoa (n : Int) (by omega) (by omega) w ht).mono ?_
  rintro e w' ⟨rfl, k, os, rfl⟩
  exact ⟨by rw [Lib.itoa_nonneg], below_growN w k os⟩
theorem joinW_snoc : ∀ (ws : List (List UInt8)) (v : List UInt8), ws ≠ [] → joinW (ws ++ [v]) = joinW ws ++ 32 :: v
  | [], _, h => absurd rfl h
  | [w], v, _ => rfl
  | w :: u :: ws, v, _ => by
    show w ++ 32 :: joinW ((u :: ws) ++ [v]) = w ++ 32 :: joinW (u :: ws) ++ 32 :: v
    rw [joinW_snoc (u :: ws) v (by simp), List.append_assoc]
    rfl
theorem textL_zero {l : List Pc} (h : 0 < l.length) : textL (l.take 1) = pcT l[0] := by
  rcases l with _ | ⟨p, l⟩
  · exact absurd h (Nat.lt_irrefl 0)
  · rfl
theorem textL_succ {l : List Pc} {j : Nat} (h : j < l.length) (hj : 0 < j) : textL (l.take (j + 1)) = textL (l.take j) ++ 32 :: pcT l[j] := by
  unfold textL
  rw [List.take_succ_eq_append_getElem h, List.map_append, List.map_cons, List.map_nil, joinW_snoc _ _ (by
    intro e
    have := congrArg List.length e
    simp at this
    rcases this with rfl | rfl
    · omega
    · simp at h)]
theorem pcT_len {p : Pc} (h : okP p = true) (hn : p.n ≤ 1048576) : (pcT p).length ≤ 8 + 2 * (ofP p).out := by
  obtain ⟨k, n, t⟩ := p
  rcases okP_cases h with ⟨rfl, h2, h3⟩ | ⟨rfl, h2, h3⟩ | ⟨rfl, h2, h3⟩
  · show (61 :: Lib.decDigits n.toNat).length ≤ _
    have := decDigits_len 7 n.toNat (by decide) (by simp only at hn h2; omega)
    rw [List.length_cons]; omega
  · show (45 :: Lib.decDigits n.toNat).length ≤ _
    have := decDigits_len 7 n.toNat (by decide) (by simp only at hn h2; omega)
    rw [List.length_cons]; omega
  · show (43 :: hexL t.data.toList).length ≤ 8 + 2 * t.data.toList.length
    rw [List.length_cons, hexL_len]; omega
theorem joinW_len : ∀ ws : List (List UInt8), (joinW ws).length ≤ (ws.map fun w => w.length + 1).sum
  | [] => Nat.le_refl _
  | [w] => by simp [joinW]
  | w :: v :: ws => by
    have := joinW_len (v :: ws)
    show (w ++ 32 :: joinW (v :: ws)).length ≤ (w.length + 1) + ((v :: ws).map fun w => w.length + 1).sum
    rw [List.length_append, List.length_cons]
    omega
theorem inn_le {p : Pc} {l : List Pc} (h : AllOk l) (hp : p ∈ l) : p.n ≤ sIP l := by
  induction l with
  | nil => exact absurd hp (List.not_mem_nil)
  | cons q l ih =>
    have s1 : sIP (q :: l) = (ofP q).inn + sIP l := rfl
    rcases List.mem_cons.1 hp with rfl | hp
    · have := (inP_of h.head).1
      have h3 := okP_cases h.head
      unfold inP at this
      rcases h3 with ⟨h1, h2, -⟩ | ⟨h1, h2, -⟩ | ⟨h1, h2, -⟩ <;> rw [h1] at this <;> simp at this <;> omega
    · have := ih h.tail hp
      omega
theorem textL_len : ∀ {l : List Pc}, AllOk l → (∀ p ∈ l, p.n ≤ 1048576) → (textL l).length ≤ 9 * l.length + 2 * sOP l := by
  intro l h hn
  unfold textL
  refine Nat.le_trans (joinW_len _) ?_
  induction l with
  | nil => exact Nat.zero_le _
  | cons p l ih =>
    have := ih h.tail fun q hq => hn q (List.mem_cons_of_mem _ hq)
    have h1 := pcT_len h.head (hn p (List.mem_cons_self ..))
    have s1 : sOP (p :: l) = (ofP p).out + sOP l := rfl
    rw [List.map_cons, List.map_cons, List.sum_cons, List.length_cons]
    omega
theorem sOP_take {l : List Pc} (h : AllOk l) (j : Nat) : sOP (l.take j) ≤ sOP l := by
  have e : sOP l = sOP (l.take j) + sOP (l.drop j) := by rw [← sOP_append, List.take_append_drop]
  omega
theorem AllOk.take {l : List Pc} (h : AllOk l) (j : Nat) : AllOk (l.take j) := fun p hp => h p (List.mem_of_mem_take hp)
/-- what is printed of the first pieces is short -/
theorem text_short {l : List Pc} (hc : checkP l = 0) (j : Nat) : (textL (l.take j)).length ≤ 3000000 := by
  obtain ⟨h1, h2, h3, h4⟩ := check_inv hc
  have := textL_len (h2.take j) fun p hp => by
    have := inn_le h2 (List.mem_of_mem_take hp)
    omega
  have h5 := sOP_take h2 j
  have h6 : (l.take j).length ≤ l.length := List.length_take_le' _ _
  omega
/-- what was written before piece j -/
def before (l : List Pc) (j : Nat) : List UInt8 := if j = 0 then [] else textL (l.take j) ++ [32]
theorem before_pc {l : List Pc} {j : Nat} (h : j < l.length) : before l j ++ pcT l[j] = textL (l.take (j + 1)) := by
  unfold before
  by_cases hj : j = 0
  · subst hj
    rw [if_pos rfl, textL_zero h]; rfl
  · rw [if_neg hj, textL_succ h (by omega), List.append_assoc]
    rfl
theorem before_len {l : List Pc} (hc : checkP l = 0) (j : Nat) : (before l j).length ≤ 3000001 := by
  have := text_short hc j
  unfold before
  by_cases hj : j = 0
  · rw [if_pos hj]; simp
  · rw [if_neg hj, List.length_append]; simp; omega
theorem byteCells_app (l m : List UInt8) : Lib.byteCells l ++ Lib.byteCells m = Lib.byteCells (l ++ m) := by
  unfold Lib.byteCells
  rw [List.map_append]
theorem strCells_bytes (l : List UInt8) : Lib.strCells ⟨l.toArray⟩ = Lib.byteCells l := by
  simp [Lib.strCells, Lib.byteCells]
theorem strCells_app (a b : List UInt8) : Lib.strCells ((⟨a.toArray⟩ : ByteArray) ++ ⟨b.toArray⟩) = Lib.byteCells (a ++ b) := by
  rw [← strCells_bytes]
  congr 1
theorem pc_step {l : List Pc} {j : Nat} {p : Pc} {d : List UInt8} (h : before l j ++ pcT p = textL (l.take (j + 1))) (hd : pcT p = d) : Lib.byteCells (textL (l.take (j + 1))) = Lib.byteCells (before l j) ++ Lib.byteCells d := by
  rw [byteCells_app, ← hd, h]
def txtP (l : List Pc) : List UInt8 := if checkP l = 0 then textL l else []
end Go.Proofs.YtdfkbahlngijcaaDoor

namespace Go.Proofs.YtdfkbahlngijcaaDoor
open Go.RowKit
set_option linter.unusedVariables false

set_option maxRecDepth 100000 in
set_option maxHeartbeats 8000000 in
theorem text_any (ao : Option Addr) (n c : Nat) (l : List Pc) (w : World) (h : IsR fP w ao n l) (hn63 : n ≤ 9223372036854775807) (ht : Tab w) :
    Calls Tryd.prog 30 #[.slice ao n c] w fun e w' => e = .returned (.tuple #[.string ⟨(txtP l).toArray⟩, .int .i64 (checkP l)]) ∧ Below w.heap.size w w' := by
  have hl := h.1
  have HC := Lib.hid (check_any ao n c l w h hn63)
  have HR := Lib.hid h
  have HT := Lib.hid ht
  clear h ht
  go_enter Tryd.func30, Tryd.ntmps30
  go_wp2_with fail
  refine (HC.out).mono ?_; rintro e w1 ⟨rfl, hb1⟩
  have HB1 := Lib.hid hb1
  have hs1 := hb1.size
  clear hb1 HC
  by_cases hc : checkP l = 0
  · have HE := Lib.hid (show txtP l = textL l by unfold txtP; rw [if_pos hc])
    have HCK := Lib.hid hc
    rw [hc]
    clear hc
    have HI0 := Lib.hid (Lib.IsBuilderF.of (Lib.fresh_isBuilder 75 5 w1))
    have HB2 := Lib.hid (HB1.out.alloc hs1 (.cells #[.pointer none, .slice none 0 0] 75))
    go_wp2_with fail
    go_loopw [16] (fun s wr => ∃ (j : Nat), j ≤ n ∧ s = .int .i64 j ∧ Lib.IsBuilderF 75 5 w1.heap.size w1.heap.size (Lib.byteCells (textL (l.take j))) wr ∧ Below w.heap.size w wr ∧ w1.heap.size < wr.heap.size) (fun s _ => n - (intOf s).toNat)
    case atStart => exact ⟨0, Nat.zero_le _, rfl, HI0.out, HB2.out, by simp⟩
    case round =>
      obtain ⟨j, hj, rfl, hI, hbr, hbs⟩ := hrel
      have HI := Lib.hid hI
      have HBR := Lib.hid hbr
      clear hI hbr HI0 HB2
      by_cases hlt : j < n
      · have hjl : j < l.length := by omega
        have hj1 : (j : Int) < (n : Int) := by omega
        obtain ⟨bb, off, rfl, hbb, hcl⟩ := HR.out.pc HBR.out hlt
        obtain ⟨c0, c1, c2⟩ := hcl hjl
        have hok : okP l[j] = true := (check_inv HCK.out).2.1 l[j] (List.getElem_mem hjl)
        have hn20 : l[j].n ≤ 1048576 := by
          have := inn_le (check_inv HCK.out).2.1 (List.getElem_mem hjl)
          have := (check_inv HCK.out).2.2.1
          omega
        have HSH := Lib.hid (text_short HCK.out j)
        have HSB := Lib.hid (before_len HCK.out j)
        have HS1 := Lib.hid (text_short HCK.out (j + 1))
        have HBP := Lib.hid (before_pc hjl)
        have HOK := Lib.hid (okP_cases hok)
        have HN := Lib.hid hn20
        have hj0 : (0 : Int) ≤ (j : Int) := by omega
        clear hok hn20 hcl
        generalize l[j] = p at *
        have HP := Lib.hid (block_new wr (.cells #[.int .u8 p.k, .int .i64 p.n, .string p.t] 31))
        have HIA := Lib.hid (HI.out.alloc (.cells #[.int .u8 p.k, .int .i64 p.n, .string p.t] 31))
        have HBA := Lib.hid (HBR.out.alloc HBR.out.size (.cells #[.int .u8 p.k, .int .i64 p.n, .string p.t] 31))
        have hsA : w1.heap.size ≤ (wr.alloc (.cells #[.int .u8 p.k, .int .i64 p.n, .string p.t] 31)).heap.size := by simp; omega
        go_upto_if 22 with (fail)
        go_cut [16] from 16 to 62 (fun s16 wq => s16 = .int .i64 j ∧ Lib.IsBuilderF 75 5 w1.heap.size w1.heap.size (Lib.byteCells (before l j)) wq ∧ wq.heap[wr.heap.size]? = some (.cells #[.int .u8 p.k, .int .i64 p.n, .string p.t] 31 (0, 0)) ∧ Below w.heap.size w wq ∧ w1.heap.size < wr.heap.size)
        case first =>
          by_cases h0 : j = 0
          · subst h0
            have HE0 := Lib.hid (show before l 0 = textL (l.take 0) from rfl)
            go_wp2_with fail
            go_meet
            case rel => exact ⟨rfl, by rw [HE0.out]; exact HIA.out, HP.out, HBA.out, hbs⟩
          · have hj2 : (0 : Int) < (j : Int) := by omega
            have HE0 := Lib.hid (show before l j = textL (l.take j) ++ [32] by unfold before; rw [if_neg h0])
            clear h0
            go_wp2_with fail
            refine (Tryd.Builder_WriteByte_k w1.heap.size w1.heap.size _ 32 _ HIA.out (by rw [Lib.byteCells_length]; have := HSH.out; omega) hsA).mono ?_; rintro e w2 ⟨rfl, hi2, hb2, ho2⟩
            have HI2 := Lib.hid hi2
            have HB2 := Lib.hid hb2
            have HO2 := Lib.hid ho2
            clear hi2 hb2 ho2
            go_wp2_with fail
            go_meet
            case rel => exact ⟨rfl, by rw [HE0.out, ← byteCells_app]; exact Or.inr HI2.out, others_cells HO2.out HP.out (by omega) (by decide), HBA.out.trans (HB2.out.mono hs1), hbs⟩
        case rest =>
          obtain ⟨rfl, hi, hp, hb, -⟩ := hcut
          clear HIA HBA HP HI HBR hsA
          generalize wr.heap.size = pb at *
          have HI3 := Lib.hid hi
          have HP3 := Lib.hid hp
          have HB3 := Lib.hid hb
          have hs3 : w1.heap.size ≤ wc.heap.size := by have := block_lt hp; omega
          clear hi hb
          (have q0 := block_cell hp 0; have q1 := block_cell hp 1; have q2 := block_cell hp 2; have f0 := block_free hp 0; have f1 := block_free hp 1; have f2 := block_free hp 2; have hz := block_lt hp; simp at q0 q1 q2)
          clear hp
          rcases HOK.out with ⟨h1, h2, h3⟩ | ⟨h1, h2, h3⟩ | ⟨h1, h2, h3⟩
          · obtain ⟨m, hm⟩ : ∃ m : Nat, p.n = m := ⟨p.n.toNat, by omega⟩
            have hm20 : m ≤ 1048576 := by have := HN.out; omega
            have HE1 := Lib.hid (show pcT p = [61] ++ Lib.decDigits m by
              unfold pcT
              rw [h1, hm]
              rfl)
            rw [h1] at q0
            rw [hm] at q1
            have hdl := decDigits_len 7 m (by decide) (by omega)
            have hcat : ¬ (9223372036854775807 < (⟨#[61]⟩ : ByteArray).size + (⟨(Lib.decDigits m).toArray⟩ : ByteArray).size) := by
              show ¬ (9223372036854775807 < 1 + (Lib.decDigits m).length)
              omega
            have HDL := Lib.hid hdl
            have HIT := Lib.hid (itoa_nat m (by omega) wc (HT.out.below HB3.out))
            clear h1 h2 h3 hm hdl
            go_wp2_with fail
            refine (HIT.out).mono ?_; rintro e w4 ⟨rfl, hb4⟩
            have HI4 := Lib.hid (builder_below HI3.out hb4)
            have HB4 := Lib.hid (HB3.out.trans (hb4.mono (by have := HB3.out.size; omega)))
            have hs4 : w1.heap.size ≤ w4.heap.size := Nat.le_trans hs3 hb4.size
            clear hb4 HIT HI3 HB3 q0 q1 q2 f0 f1 f2 hz
            go_wp2_with fail
            refine (Tryd.Builder_WriteString_k w1.heap.size w1.heap.size _ _ _ HI4.out (by rw [Lib.byteCells_length, ByteArray.size_append]; have := HSB.out; have := HDL.out; show _ + (1 + (Lib.decDigits m).length) ≤ _; omega) hs4).mono ?_; rintro e w5 ⟨rfl, hi5, hb5, ho5⟩
            have HI5 := Lib.hid (show Lib.IsBuilderF 75 5 w1.heap.size w1.heap.size (Lib.byteCells (textL (l.take (j + 1)))) w5 by
              rw [pc_step HBP.out HE1.out, ← strCells_app]
              exact Or.inr hi5)
            have HB5 := Lib.hid (HB4.out.trans (hb5.mono hs1))
            have hs5 : w1.heap.size < w5.heap.size := by have := hb5.size; have := hs4; have := BuilderF_lt HI4.out; omega
            clear hi5 hb5 ho5
            go_wp2_with fail
            go_roundw
            case rel => exact ⟨j + 1, by omega, by go_num, HI5.out, HB5.out, hs5⟩
            case measure => simp [intOf]; omega
          · obtain ⟨m, hm⟩ : ∃ m : Nat, p.n = m := ⟨p.n.toNat, by omega⟩
            have hm20 : m ≤ 1048576 := by have := HN.out; omega
            have HE1 := Lib.hid (show pcT p = [45] ++ Lib.decDigits m by
              unfold pcT
              rw [h1, hm]
              rfl)
            rw [h1] at q0
            rw [hm] at q1
            have hdl := decDigits_len 7 m (by decide) (by omega)
            have hcat : ¬ (9223372036854775807 < (⟨#[45]⟩ : ByteArray).size + (⟨(Lib.decDigits m).toArray⟩ : ByteArray).size) := by
              show ¬ (9223372036854775807 < 1 + (Lib.decDigits m).length)
              omega
            have HDL := Lib.hid hdl
            have HIT := Lib.hid (itoa_nat m (by omega) wc (HT.out.below HB3.out))
            clear h1 h2 h3 hm hdl
            go_wp2_with fail
            refine (HIT.out).mono ?_; rintro e w4 ⟨rfl, hb4⟩
            have HI4 := Lib.hid (builder_below HI3.out hb4)
            have HB4 := Lib.hid (HB3.out.trans (hb4.mono (by have := HB3.out.size; omega)))
            have hs4 : w1.heap.size ≤ w4.heap.size := Nat.le_trans hs3 hb4.size
            clear hb4 HIT HI3 HB3 q0 q1 q2 f0 f1 f2 hz
            go_wp2_with fail
            refine (Tryd.Builder_WriteString_k w1.heap.size w1.heap.size _ _ _ HI4.out (by rw [Lib.byteCells_length, ByteArray.size_append]; have := HSB.out; have := HDL.out; show _ + (1 + (Lib.decDigits m).length) ≤ _; omega) hs4).mono ?_; rintro e w5 ⟨rfl, hi5, hb5, ho5⟩
            have HI5 := Lib.hid (show Lib.IsBuilderF 75 5 w1.heap.size w1.heap.size (Lib.byteCells (textL (l.take (j + 1)))) w5 by
              rw [pc_step HBP.out HE1.out, ← strCells_app]
              exact Or.inr hi5)
            have HB5 := Lib.hid (HB4.out.trans (hb5.mono hs1))
            have hs5 : w1.heap.size < w5.heap.size := by have := hb5.size; have := hs4; have := BuilderF_lt HI4.out; omega
            clear hi5 hb5 ho5
            go_wp2_with fail
            go_roundw
            case rel => exact ⟨j + 1, by omega, by go_num, HI5.out, HB5.out, hs5⟩
            case measure => simp [intOf]; omega
          · have HE1 := Lib.hid (show pcT p = [43] ++ hexL p.t.data.toList by
              unfold pcT
              rw [h1]
              rfl)
            have HLT := Lib.hid (show p.t.size ≤ 3000000 by
              have := HS1.out
              rw [← HBP.out, HE1.out, List.length_append, List.length_append, hexL_len] at this
              have e : p.t.data.toList.length = p.t.size := Array.length_toList ..
              omega)
            rw [h1] at q0
            clear h1 h2 h3
            go_wp2_with fail
            refine (Tryd.Builder_WriteByte_k w1.heap.size w1.heap.size _ 43 _ HI3.out (by rw [Lib.byteCells_length]; have := HSB.out; omega) hs3).mono ?_; rintro e w4 ⟨rfl, hi4, hb4, ho4⟩
            have hi4' : Lib.IsBuilderF 75 5 w1.heap.size w1.heap.size (Lib.byteCells (before l j ++ [43] ++ hexL (p.t.data.toList.take 0))) w4 := by
              rw [show before l j ++ [43] ++ hexL (p.t.data.toList.take 0) = before l j ++ [43] from List.append_nil _, ← byteCells_app]
              exact Or.inr hi4
            have HI4 := Lib.hid hi4'
            have HB4 := Lib.hid (HB3.out.trans (hb4.mono hs1))
            have hp4 := others_cells ho4 HP3.out (by omega) (by decide)
            have HP4 := Lib.hid hp4
            clear hi4 hi4' hb4 ho4 HI3 HB3 HP3 q0 q1 q2 f0 f1 f2 hz
            (have q0 := block_cell hp4 0; have q1 := block_cell hp4 1; have q2 := block_cell hp4 2; have f0 := block_free hp4 0; have f1 := block_free hp4 1; have f2 := block_free hp4 2; have hz := block_lt hp4; simp at q0 q1 q2)
            clear hp4
            go_wp2_with fail
            go_loopw [37] (fun s wr2 => ∃ (i : Nat), i ≤ p.t.size ∧ s = .int .i64 i ∧ Lib.IsBuilderF 75 5 w1.heap.size w1.heap.size (Lib.byteCells (before l j ++ [43] ++ hexL (p.t.data.toList.take i))) wr2 ∧ Below w.heap.size w wr2 ∧ wr2.heap[pb]? = some (.cells #[.int .u8 p.k, .int .i64 p.n, .string p.t] 31 (0, 0))) (fun s _ => p.t.size - (intOf s).toNat)
            case atStart => exact ⟨0, Nat.zero_le _, rfl, HI4.out, HB4.out, HP4.out⟩
            case round =>
              obtain ⟨i, hi, rfl, hI, hbr2, hp⟩ := hrel
              have HI := Lib.hid hI
              have HBR2 := Lib.hid hbr2
              have HP := Lib.hid hp
              have hs6 : w1.heap.size ≤ wr.heap.size := by have := block_lt hp; omega
              clear hI hbr2 HI4 HB4 HP4
              have HL := Lib.hid (show (before l j ++ [43] ++ hexL (p.t.data.toList.take i)).length ≤ 9000010 by
                have := HSB.out
                have := HLT.out
                have h5 : (p.t.data.toList.take i).length ≤ i := List.length_take_le _ _
                rw [List.length_append, List.length_append, hexL_len]
                show _ + 1 + _ ≤ _
                omega)
              (have q0 := block_cell hp 0; have q1 := block_cell hp 1; have q2 := block_cell hp 2; have f0 := block_free hp 0; have f1 := block_free hp 1; have f2 := block_free hp 2; have hz := block_lt hp; simp at q0 q1 q2)
              clear hp
              by_cases hlt2 : i < p.t.size
              · have hi1 : (i : Int) < (p.t.size : Int) := by omega
                have hi0 : (0 : Int) ≤ (i : Int) := by omega
                have hlt3 := HLT.out
                have hb := u8lt p.t[i]
                have hA := and15 _ hb
                have h1 : (0 : Int) ≤ (p.t[i].toNat : Int) / 16 := by omega
                have h2 : (p.t[i].toNat : Int) / 16 < 16 := by omega
                have h3 : (0 : Int) ≤ ((p.t[i].toNat % 16 : Nat) : Int) := by omega
                have h4 : ((p.t[i].toNat % 16 : Nat) : Int) < 16 := by omega
                have HBY := Lib.hid hb
                have HXT := Lib.hid (hexL_take p.t hlt2)
                go_wp2_with fail
                refine (Tryd.Builder_WriteByte_k w1.heap.size w1.heap.size _ _ _ HI.out (by rw [Lib.byteCells_length]; have := HL.out; omega) hs6).mono ?_; rintro e w7 ⟨rfl, hi7, hb7, ho7⟩
                have hi7' : Lib.IsBuilderF 75 5 w1.heap.size w1.heap.size (Lib.byteCells (before l j ++ [43] ++ hexL (p.t.data.toList.take i) ++ [hexD (p.t[i].toNat / 16)])) w7 := by
                  have k1 := hexC (p.t[i].toNat / 16) (by omega)
                  simp only [k1] at hi7
                  rw [← byteCells_app]
                  exact Or.inr hi7
                have HI7 := Lib.hid hi7'
                have HB7 := Lib.hid (HBR2.out.trans (hb7.mono hs1))
                have hp7 := others_cells ho7 HP.out (by omega) (by decide)
                have HP7 := Lib.hid hp7
                have hs7 : w1.heap.size ≤ w7.heap.size := by have := block_lt hp7; omega
                clear hi7 hi7' hb7 ho7 HI HBR2 HP q0 q1 q2 f0 f1 f2 hz
                (have q0 := block_cell hp7 0; have q1 := block_cell hp7 1; have q2 := block_cell hp7 2; have f0 := block_free hp7 0; have f1 := block_free hp7 1; have f2 := block_free hp7 2; have hz := block_lt hp7; simp at q0 q1 q2)
                clear hp7
                go_wp2_with fail
                refine (Tryd.Builder_WriteByte_k w1.heap.size w1.heap.size _ _ _ HI7.out (by rw [Lib.byteCells_length, List.length_append]; have := HL.out; show _ + 1 + 1 ≤ _; omega) hs7).mono ?_; rintro e w8 ⟨rfl, hi8, hb8, ho8⟩
                have hi8' : Lib.IsBuilderF 75 5 w1.heap.size w1.heap.size (Lib.byteCells (before l j ++ [43] ++ hexL (p.t.data.toList.take (i + 1)))) w8 := by
                  have k2 := hexC (p.t[i].toNat % 16) (by omega)
                  simp only [k2] at hi8
                  rw [HXT.out, show before l j ++ [43] ++ (hexL (p.t.data.toList.take i) ++ hexB p.t[i]) = before l j ++ [43] ++ hexL (p.t.data.toList.take i) ++ [hexD (p.t[i].toNat / 16)] ++ [hexD (p.t[i].toNat % 16)] by simp [hexB], ← byteCells_app]
                  exact Or.inr hi8
                have HI8 := Lib.hid hi8'
                have HB8 := Lib.hid (HB7.out.trans (hb8.mono hs1))
                have HP8 := Lib.hid (others_cells ho8 HP7.out (by omega) (by decide))
                clear hi8 hi8' hb8 ho8 HI7 HB7 HP7 q0 q1 q2 f0 f1 f2 hz HXT
                go_wp2_with fail
                go_roundw
                case rel => exact ⟨i + 1, by omega, by go_num, HI8.out, HB8.out, HP8.out⟩
                case measure => simp [intOf]; omega
              · obtain rfl : i = p.t.size := by omega
                have HI5 := Lib.hid (show Lib.IsBuilderF 75 5 w1.heap.size w1.heap.size (Lib.byteCells (textL (l.take (j + 1)))) wr by
                  have := HI.out
                  rwa [show p.t.data.toList.take p.t.size = p.t.data.toList from List.take_of_length_le (Nat.le_of_eq (Array.length_toList ..)), List.append_assoc, ← HE1.out, HBP.out] at this)
                go_wp2_with fail
                go_roundw
                case rel => exact ⟨j + 1, by omega, by go_num, HI5.out, HBR2.out, by omega⟩
                case measure => simp [intOf]; omega
      · obtain rfl: j = n := by omega
        have HI2 := Lib.hid (show Lib.IsBuilderF 75 5 w1.heap.size w1.heap.size (Lib.byteCells (textL l)) wr by
          have := HI.out
          rwa [List.take_of_length_le (by omega)] at this)
        clear HI
        go_wp2_with fail
        refine (Tryd.Builder_String_any_k w1.heap.size w1.heap.size _ _ HI2.out (by omega)).mono ?_; rintro e w2 ⟨rfl, hi2, hb2, ho2⟩
        have HB2 := Lib.hid (HBR.out.trans (hb2.mono hs1))
        clear hi2 hb2 ho2
        go_wp2_with fail
        go_ret2
        exact ⟨by rw [HE.out, HCK.out] <;> rfl, HB2.out⟩
  · have HE := Lib.hid (show txtP l = [] by unfold txtP; rw [if_neg hc])
    have hc2 : (checkP l == 0) = false := by rw [beq_eq_false_iff_ne]; exact hc
    clear hc
    go_wp2_with fail
    go_ret2
    exact ⟨by rw [HE.out] <;> rfl, HB1.out⟩
end Go.Proofs.YtdfkbahlngijcaaDoor

namespace Go.Proofs.YtdfkbahlngijcaaDoor
open Go.RowKit
set_option linter.unusedVariables false

theorem step_append_str {P : Program} {w : World} {ops : Array Oper} {o : Oper} {a : Act} {K : Act → World → Prop} {Q : Exit → Act → World → Prop} {E : Prop} (hgd : o.guard = none) (sl x : Operand) (t u : TypeId)
    (ho : o.op = .call { callee := .builtin .append, args := #[sl, x], argTypes := #[t, u] })
    (base : Nat) (e : TypeId) (i : TypeInfo) (ht : P.underlying t = some (.slice e)) (hu : P.underlying u = some .string) (hi : P.info? e = some i) (hz : i.zero = some (.int .u8 0))
    (hsize : i.size = 1) (hby : i.bytes = 1)
    (v : Value) (n : Nat) (xs : List Value) (hs : a.eval sl = v) (hown : w.ownsRow base e 1 v n xs) (s : ByteArray) (hx : a.eval x = .string s)
    (h63 : n + s.size ≤ maxLen) (hbytes : n + s.size ≤ 140737488355328) (hbase : base ≤ w.heap.size)
    (h : ∀ v' w', w'.ownsRow base e 1 v' (n + s.size) (xs ++ Lib.strCells s) → w.grownBy w' v.ownBlock → K (a.put o.dst v') w') :
    if Region.wanted o (yielded ops a.tmps) = true then Oper.wp P o a w K Q else E := by
  have hw : Region.wanted o (yielded ops a.tmps) = true := by simp [Region.wanted, hgd]
  rw [if_pos hw]
  obtain ⟨v', w', hr, h2, h3, h4⟩ := Lib.run_append_own_string (P := P) w base t u o.type e i ht hu hi hz hsize hby v n xs hown s h63 hbytes hbase
  unfold Oper.wp execOp
  simp only [ho, resolve, invoke, builtin, Sem.run_bind, Sem.run_pure, Result.andThen_ok, List.map_toArray, List.map_cons, List.map_nil, hs, hx, hr]
  exact h _ _ h2 h3

theorem own_below {w w' : World} {B s : Nat} {e : TypeId} {v : Value} {n : Nat} {xs : List Value} (h : w.ownsRow B e s v n xs) (hb : Below w.heap.size w w') : w'.ownsRow B e s v n xs := by
  refine ⟨h.1, ?_⟩
  rcases h.2 with hn | ⟨g, cap, cur, hv, hbg, hg, rest⟩
  · exact .inl hn
  · exact .inr ⟨g, cap, cur, hv, hbg, block_below hb hg (block_lt hg), rest⟩
theorem own_text {w : World} {B : Nat} {v : Value} {b t d : List UInt8} {c : UInt8} {x : Int} (h : w.ownsRow B 5 1 v (b.length + 1 + (⟨d.toArray⟩ : ByteArray).size) (Lib.byteCells b ++ [.int .u8 x] ++ Lib.strCells ⟨d.toArray⟩)) (hx : (c.toNat : Int) = x) (e : b ++ ([c] ++ d) = t) :
    w.ownsRow B 5 1 v t.length (Lib.byteCells t) := by
  subst e
  subst hx
  rw [strCells_bytes] at h
  have e1 : (b ++ ([c] ++ d)).length = b.length + 1 + (⟨d.toArray⟩ : ByteArray).size := by
    rw [List.length_append, List.length_append, ← Nat.add_assoc]
    rfl
  rw [e1, ← byteCells_app, ← byteCells_app, ← List.append_assoc]
  exact h
theorem own_len {w : World} {B s : Nat} {e : TypeId} {v : Value} {n m : Nat} {xs : List Value} (h : w.ownsRow B e s v n xs) (k : n = m) : w.ownsRow B e s v m xs := k ▸ h
/-- the bytes of a row of the call's own, nil too, as a string -/
theorem own_conv {w : World} {B : Nat} {v : Value} {l : List UInt8} {n : Nat} (h : w.ownsRow B 5 1 v n (Lib.byteCells l)) (hn : l.length = n) :
    ∃ ao cap, v = .slice ao n cap ∧ (convert 73 9 (.slice ao n cap)).run Tryd.prog w = .ok (.string ⟨l.toArray⟩) w := by
  subst hn
  rcases h with ⟨_, ⟨h1, h2⟩ | ⟨g, cap, cur, rfl, hb, hg, hcap, hm, hs, htk⟩⟩
  · refine ⟨none, 0, by rw [h1, h2], ?_⟩
    rw [h2]
    obtain rfl := List.eq_nil_of_length_eq_zero h2
    exact run_convert_bytes_nil (P := Tryd.prog) w 73 5 Tryd.underlying73 Tryd.underlying5 0 0 _ Tryd.underlying9
  · refine ⟨_, cap, rfl, run_convert_bytes_back (P := Tryd.prog) w 73 9 5 ⟨g, 0, none⟩ cap l Tryd.underlying73 Tryd.underlying5 Tryd.underlying9 (fun j hj => ?_)⟩
    rw [add_to, block_cell hg, Nat.zero_add]
    have e := congrArg (fun l => l[j]?) htk
    rw [List.getElem?_take_of_lt (by omega), Array.getElem?_toList] at e
    rw [e]
    simp [Lib.byteCells, hj]
theorem hexD_lo {n : Nat} (h : n < 10) : ((hexD n).toNat : Int) = 48 + n := by
  unfold hexD
  rw [if_pos h, UInt8.toNat_ofNat']
  omega
theorem hexD_hi {n : Nat} (h : ¬ n < 10) (h2 : n < 16) : ((hexD n).toNat : Int) = 87 + n := by
  unfold hexD
  rw [if_neg h, UInt8.toNat_ofNat']
  omega
set_option maxRecDepth 100000 in
set_option maxHeartbeats 2000000 in
theorem hex_any (n : Nat) (h : n < 16) (w : World) : Calls Tryd.prog 71 #[.int .u8 n] w fun e w' => e = .returned (.int .u8 (hexD n).toNat) ∧ w = w' := by
  by_cases h10 : n < 10
  · have HE := Lib.hid (hexD_lo h10)
    have hW : IntKind.u8.wrap (48 + (n : Int)) = 48 + (n : Int) := wrap8 _ (by omega) (by omega)
    have h1 : (n : Int) < 10 := by omega
    go_enter Tryd.func71, Tryd.ntmps71
    go_wp2_with fail
    go_ret
    exact ⟨by rw [HE.out] <;> rfl, rfl⟩
  · have HE := Lib.hid (hexD_hi h10 h)
    have hW : IntKind.u8.wrap (87 + (n : Int)) = 87 + (n : Int) := wrap8 _ (by omega) (by omega)
    have h1 : ¬ ((n : Int) < 10) := by omega
    go_enter Tryd.func71, Tryd.ntmps71
    go_wp2_with fail
    go_ret
    exact ⟨by rw [HE.out] <;> rfl, rfl⟩

set_option maxRecDepth 100000 in
set_option maxHeartbeats 8000000 in
theorem refText_any (ao : Option Addr) (n c : Nat) (l : List Pc) (w : World) (h : IsR fP w ao n l) (hn63 : n ≤ 9223372036854775807) :
    Calls Tryd.prog 34 #[.slice ao n c] w fun e w' => e = .returned (.tuple #[.string ⟨(txtP l).toArray⟩, .int .i64 (checkP l)]) ∧ Below w.heap.size w w' := by
  obtain ⟨i0, hi0, hz0, hz1, hz2⟩ := info_parts infoU8
  have hl := h.1
  have HC := Lib.hid (refCheck_pc ao n c l w h hn63)
  have HR := Lib.hid h
  clear h
  go_enter Tryd.func34, Tryd.ntmps34
  go_wp2_with fail
  refine (HC.out).mono ?_; rintro e w1 ⟨rfl, hb1⟩
  have HB1 := Lib.hid hb1
  clear hb1 HC
  by_cases hc : checkP l = 0
  · have HE := Lib.hid (show txtP l = textL l by unfold txtP; rw [if_pos hc])
    have HCK := Lib.hid hc
    rw [hc]
    clear hc
    go_wp2_with fail
    go_loopw [5, 6] (fun vo s wr => ∃ (j : Nat), j ≤ n ∧ s = .int .i64 j ∧ wr.ownsRow w.heap.size 5 1 vo (textL (l.take j)).length (Lib.byteCells (textL (l.take j))) ∧ Below w.heap.size w wr) (fun _ s _ => n - (intOf s).toNat)
    case atStart => exact ⟨0, Nat.zero_le _, rfl, ⟨rfl, .inl ⟨rfl, rfl⟩⟩, HB1.out⟩
    case round =>
      obtain ⟨j, hj, rfl, hown, hbr⟩ := hrel
      have HOWN := Lib.hid hown
      have HBR := Lib.hid hbr
      have hsz := hbr.size
      clear hown hbr
      by_cases hlt : j < n
      · have hjl : j < l.length := by omega
        have hj1 : (j : Int) < (n : Int) := by omega
        have hok : okP l[j] = true := (check_inv HCK.out).2.1 l[j] (List.getElem_mem hjl)
        have hn20 : l[j].n ≤ 1048576 := by
          have := inn_le (check_inv HCK.out).2.1 (List.getElem_mem hjl)
          have := (check_inv HCK.out).2.2.1
          omega
        have HSH := Lib.hid (text_short HCK.out j)
        have HSB := Lib.hid (before_len HCK.out j)
        have HS1 := Lib.hid (text_short HCK.out (j + 1))
        have HBP := Lib.hid (before_pc hjl)
        have HOK := Lib.hid (okP_cases hok)
        have HN := Lib.hid hn20
        have hj0 : (0 : Int) ≤ (j : Int) := by omega
        clear hok hn20
        go_upto_if 20 with (fail)
        go_cut [5] from 13 to 86 (fun vo wq => wq.ownsRow w.heap.size 5 1 vo (before l j).length (Lib.byteCells (before l j)) ∧ Below w.heap.size w wq)
        case first =>
          by_cases h0 : j = 0
          · subst h0
            go_wp2_with fail
            go_meet
            case rel => exact ⟨HOWN.out, HBR.out⟩
          · have hj2 : (0 : Int) < (j : Int) := by omega
            have HE0 := Lib.hid (show before l j = textL (l.take j) ++ [32] by unfold before; rw [if_neg h0])
            clear h0
            go_wp2_with (at_builtin; refine wpList_append_lies _ rfl _ _ 73 rfl w.heap.size 5 i0 (.int .u8 0) 1 1 Tryd.underlying73 hi0 hz0 hz1 hz2 rfl (by decide) _ _ _ rfl (HOWN.out.alloc _) ⟨wr.heap.size, 0, none⟩ 1 1 [.int .u8 32] rfl rfl (World.news_of_block (cs := #[_]) (t := 5) (fr := (0, 0)) (heap_alloc_new wr _)) (by simp [Value.oneCell']) (by omega) (by unfold maxLen; have := HSH.out; omega) (by have := HSH.out; omega) (by simp; omega) (wr.heap.size + 1) (by simp) ?c1)
            case c1 =>
              intro gg cap w2 hown2 hgrow hat hlt'
              have HO := Lib.hid (show w2.ownsRow w.heap.size 5 1 (.slice (some ⟨gg, 0, none⟩) ((textL (l.take j)).length + 1) cap) (before l j).length (Lib.byteCells (before l j)) by
                rw [HE0.out, List.length_append, ← byteCells_app]
                exact hown2)
              have HB := Lib.hid ((HBR.out.alloc hsz _).grown hgrow (by simp; omega) fun q hq => (own_typ1 HOWN.out hq).1)
              clear hown2 hgrow hat hlt'
              go_wp2_with fail
              go_meet
              case rel => exact ⟨HO.out, HB.out⟩
        case rest =>
          obtain ⟨hown, hb⟩ := hcut
          obtain ⟨bb, off, rfl, hbb, hcl⟩ := HR.out.pc hb hlt
          obtain ⟨c0, c1, c2⟩ := hcl hjl
          have HO := Lib.hid hown
          have HB := Lib.hid hb
          have hsz2 := hb.size
          clear hcl hown hb HOWN HBR hsz
          generalize l[j] = p at *
          rcases HOK.out with ⟨h1, h2, h3⟩ | ⟨h1, h2, h3⟩ | ⟨h1, h2, h3⟩
          · obtain ⟨m, hm⟩ : ∃ m : Nat, p.n = m := ⟨p.n.toNat, by omega⟩
            have hm20 : m ≤ 1048576 := by have := HN.out; omega
            have HE1 := Lib.hid (show pcT p = [61] ++ Lib.decDigits m by
              unfold pcT
              rw [h1, hm]
              rfl)
            have HDL := Lib.hid (decDigits_len 7 m (by decide) (by omega))
            rw [h1] at c0
            rw [hm] at c1
            have C1 := Lib.hid c1
            have cca : (wc.alloc (.cells #[.int .u8 61] 5)).cell? ⟨bb, off + j * 3 + 1, none⟩ = some (.int .i64 m) := (((Below.refl wc.heap.size wc).alloc (Nat.le_refl _) _).cell (p := ⟨bb, off + j * 3 + 1, none⟩) (by show bb < _; omega)).trans c1
            clear h1 h2 h3 hm
            go_wp2_with fail
            go_region_law (first
              | (refine step_append_lies _ (by rfl) _ _ _ (by rfl) w.heap.size 5 i0 _ 1 1 Tryd.underlying73 hi0 hz0 hz1 hz2 rfl (by decide) _ (before l j).length _ (by rfl) ((HO.out.alloc _).drew) ⟨wc.heap.size, 0, none⟩ 1 1 [_] (by rfl) (by rfl) (World.news_of_block (cs := #[_]) (t := 5) (fr := (0, 0)) (heap_alloc_new wc _)) (by simp [Value.oneCell']) (by omega) (by unfold maxLen; have := HSB.out; omega) (by have := HSB.out; omega) (by simp; omega) (wc.heap.size + 1) (by simp) ?_; intro gg cap w2 hown2 hgrow hat hlt'; have hbw : Below w.heap.size w w2 := (HB.out.alloc hsz2 _).drew.grown hgrow (by simp; omega) fun q hq => (own_typ1 HO.out hq).1; have cc1 : w2.cell? ⟨bb, off + j * 3 + 1, none⟩ = some (.int .i64 m) := (hbw.cell (p := ⟨bb, off + j * 3 + 1, none⟩) hbb).trans ((HB.out.cell (p := ⟨bb, off + j * 3 + 1, none⟩) hbb).symm.trans C1.out); have HBW := Lib.hid hbw; have HOW := Lib.hid hown2; clear hbw hown2 hgrow hat hlt')
              | (go_simp; go_at_call 70; refine (digits_nat m (by omega) _).mono ?_; rintro e w3 ⟨rfl, hb3⟩; have HO3 := Lib.hid (own_below HOW.out hb3); have HB3 := Lib.hid (HBW.out.trans (hb3.mono HBW.out.size)); clear hb3)
              | (refine step_append_str (by rfl) _ _ _ _ (by rfl) w.heap.size 5 i0 Tryd.underlying73 Tryd.underlying9 hi0 hz0 hz1 hz2 _ _ _ (by rfl) HO3.out _ (by rfl) (by unfold maxLen; have := HSB.out; have := HDL.out; show _ + 1 + (Lib.decDigits m).length ≤ _; omega) (by have := HSB.out; have := HDL.out; show _ + 1 + (Lib.decDigits m).length ≤ _; omega) HB3.out.size ?_; intro v4 w4 hown4 hgrow4; have HB4 := Lib.hid (HB3.out.grown hgrow4 HB3.out.size fun q hq => (own_typ1 HO3.out hq).1); have HO4 := Lib.hid hown4; clear hown4 hgrow4))
            all_goals
              have HO5 := Lib.hid (own_text (c := 61) HO4.out rfl (by rw [← HE1.out, HBP.out]))
              clear HO HB HBW HOW HO3 HB3 HO4 c0 c1 c2 cc1 cca
              go_wp2_with fail
              go_roundw
              case rel => exact ⟨j + 1, by omega, by go_num, HO5.out, HB4.out⟩
              case measure => simp [intOf]; omega
          · obtain ⟨m, hm⟩ : ∃ m : Nat, p.n = m := ⟨p.n.toNat, by omega⟩
            have hm20 : m ≤ 1048576 := by have := HN.out; omega
            have HE1 := Lib.hid (show pcT p = [45] ++ Lib.decDigits m by
              unfold pcT
              rw [h1, hm]
              rfl)
            have HDL := Lib.hid (decDigits_len 7 m (by decide) (by omega))
            rw [h1] at c0
            rw [hm] at c1
            have C1 := Lib.hid c1
            have cca : (wc.alloc (.cells #[.int .u8 45] 5)).cell? ⟨bb, off + j * 3 + 1, none⟩ = some (.int .i64 m) := (((Below.refl wc.heap.size wc).alloc (Nat.le_refl _) _).cell (p := ⟨bb, off + j * 3 + 1, none⟩) (by show bb < _; omega)).trans c1
            clear h1 h2 h3 hm
            go_wp2_with fail
            go_region_law (first
              | (refine step_append_lies _ (by rfl) _ _ _ (by rfl) w.heap.size 5 i0 _ 1 1 Tryd.underlying73 hi0 hz0 hz1 hz2 rfl (by decide) _ (before l j).length _ (by rfl) ((HO.out.alloc _).drew) ⟨wc.heap.size, 0, none⟩ 1 1 [_] (by rfl) (by rfl) (World.news_of_block (cs := #[_]) (t := 5) (fr := (0, 0)) (heap_alloc_new wc _)) (by simp [Value.oneCell']) (by omega) (by unfold maxLen; have := HSB.out; omega) (by have := HSB.out; omega) (by simp; omega) (wc.heap.size + 1) (by simp) ?_; intro gg cap w2 hown2 hgrow hat hlt'; have hbw : Below w.heap.size w w2 := (HB.out.alloc hsz2 _).drew.grown hgrow (by simp; omega) fun q hq => (own_typ1 HO.out hq).1; have cc1 : w2.cell? ⟨bb, off + j * 3 + 1, none⟩ = some (.int .i64 m) := (hbw.cell (p := ⟨bb, off + j * 3 + 1, none⟩) hbb).trans ((HB.out.cell (p := ⟨bb, off + j * 3 + 1, none⟩) hbb).symm.trans C1.out); have HBW := Lib.hid hbw; have HOW := Lib.hid hown2; clear hbw hown2 hgrow hat hlt')
              | (go_simp; go_at_call 70; refine (digits_nat m (by omega) _).mono ?_; rintro e w3 ⟨rfl, hb3⟩; have HO3 := Lib.hid (own_below HOW.out hb3); have HB3 := Lib.hid (HBW.out.trans (hb3.mono HBW.out.size)); clear hb3)
              | (refine step_append_str (by rfl) _ _ _ _ (by rfl) w.heap.size 5 i0 Tryd.underlying73 Tryd.underlying9 hi0 hz0 hz1 hz2 _ _ _ (by rfl) HO3.out _ (by rfl) (by unfold maxLen; have := HSB.out; have := HDL.out; show _ + 1 + (Lib.decDigits m).length ≤ _; omega) (by have := HSB.out; have := HDL.out; show _ + 1 + (Lib.decDigits m).length ≤ _; omega) HB3.out.size ?_; intro v4 w4 hown4 hgrow4; have HB4 := Lib.hid (HB3.out.grown hgrow4 HB3.out.size fun q hq => (own_typ1 HO3.out hq).1); have HO4 := Lib.hid hown4; clear hown4 hgrow4))
            all_goals
              have HO5 := Lib.hid (own_text (c := 45) HO4.out rfl (by rw [← HE1.out, HBP.out]))
              clear HO HB HBW HOW HO3 HB3 HO4 c0 c1 c2 cc1 cca
              go_wp2_with fail
              go_roundw
              case rel => exact ⟨j + 1, by omega, by go_num, HO5.out, HB4.out⟩
              case measure => simp [intOf]; omega
          · have HE1 := Lib.hid (show pcT p = [43] ++ hexL p.t.data.toList by
              unfold pcT
              rw [h1]
              rfl)
            have HLT := Lib.hid (show p.t.size ≤ 3000000 by
              have := HS1.out
              rw [← HBP.out, HE1.out, List.length_append, List.length_append, hexL_len] at this
              have e : p.t.data.toList.length = p.t.size := Array.length_toList ..
              omega)
            rw [h1] at c0
            have HCT := Lib.hid ((HB.out.cell (p := ⟨bb, off + j * 3 + 2, none⟩) hbb).symm.trans c2)
            clear h1 h2 h3
            go_wp2_with (at_builtin; refine wpList_append_lies _ rfl _ _ 73 rfl w.heap.size 5 i0 (.int .u8 0) 1 1 Tryd.underlying73 hi0 hz0 hz1 hz2 rfl (by decide) _ _ _ rfl (HO.out.alloc _) ⟨wc.heap.size, 0, none⟩ 1 1 [.int .u8 43] rfl rfl (World.news_of_block (cs := #[_]) (t := 5) (fr := (0, 0)) (heap_alloc_new wc _)) (by simp [Value.oneCell']) (by omega) (by unfold maxLen; have := HSB.out; omega) (by have := HSB.out; omega) (by simp; omega) (wc.heap.size + 1) (by simp) ?c1)
            case c1 =>
              intro gg cap w2 hown2 hgrow hat hlt'
              have HO2 := Lib.hid (show w2.ownsRow w.heap.size 5 1 (.slice (some ⟨gg, 0, none⟩) ((before l j).length + 1) cap) ((before l j).length + 1 + 2 * 0) (Lib.byteCells (before l j ++ [43] ++ hexL (p.t.data.toList.take 0))) by
                rw [show before l j ++ [43] ++ hexL (p.t.data.toList.take 0) = before l j ++ [43] from List.append_nil _, ← byteCells_app]
                exact hown2)
              have HB2 := Lib.hid ((HB.out.alloc hsz2 _).grown hgrow (by simp; omega) fun q hq => (own_typ1 HO.out hq).1)
              clear hown2 hgrow hat hlt' HO HB c0 c1 c2 hsz2
              go_wp2_with fail
              go_loopw [5, 7] (fun vo s wr => ∃ (i : Nat), i ≤ p.t.size ∧ s = .int .i64 i ∧ wr.ownsRow w.heap.size 5 1 vo ((before l j).length + 1 + 2 * i) (Lib.byteCells (before l j ++ [43] ++ hexL (p.t.data.toList.take i))) ∧ Below w.heap.size w wr) (fun _ s _ => p.t.size - (intOf s).toNat)
              case atStart => exact ⟨0, Nat.zero_le _, rfl, HO2.out, HB2.out⟩
              case round =>
                obtain ⟨i, hi, rfl, hown, hbr⟩ := hrel
                have HOWN := Lib.hid hown
                have HBR := Lib.hid hbr
                have hsz := hbr.size
                have ct := (hbr.cell (p := ⟨bb, off + j * 3 + 2, none⟩) hbb).trans HCT.out
                clear hown hbr HO2 HB2
                have hlt3 := HLT.out
                by_cases hlt2 : i < p.t.size
                · have hi1 : (i : Int) < (p.t.size : Int) := by omega
                  have hi0' : (0 : Int) ≤ (i : Int) := by omega
                  have hb := u8lt p.t[i]
                  have hW : IntKind.u8.wrap ((p.t[i].toNat : Int) / 16) = (p.t[i].toNat : Int) / 16 := wrap8 _ (by omega) (by omega)
                  have hT : Int.tmod (p.t[i].toNat : Int) 16 = (p.t[i].toNat : Int) % 16 := Int.tmod_eq_emod_of_nonneg (by omega)
                  have HXT := Lib.hid (hexL_take p.t hlt2)
                  have HQ := Lib.hid (fun u => show Calls Tryd.prog 71 #[.int .u8 ((p.t[i].toNat : Int) / 16)] u _ from hex_any (p.t[i].toNat / 16) (by omega) u)
                  have HM := Lib.hid (fun u => show Calls Tryd.prog 71 #[.int .u8 ((p.t[i].toNat : Int) % 16)] u _ from hex_any (p.t[i].toNat % 16) (by omega) u)
                  go_wp2_with fail
                  go_region_held3 (fun w' => w'.cell? ⟨bb, off + j * 3 + 2, none⟩ = some (.string p.t)) (first | exact ct | exact ct3 | go_keep) (first
                    | (refine step_append_lies _ (by rfl) _ _ _ (by rfl) w.heap.size 5 i0 _ 1 1 Tryd.underlying73 hi0 hz0 hz1 hz2 rfl (by decide) _ ((before l j).length + 1 + 2 * i) _ (by rfl) ((HOWN.out.alloc _).drew) ⟨wr.heap.size, 0, none⟩ 2 2 [_, _] (by rfl) (by rfl) (World.news_of_block (cs := #[_, _]) (t := 5) (fr := (0, 0)) (heap_alloc_new wr _)) (by simp [Value.oneCell']) (by omega) (by unfold maxLen; have := HSB.out; omega) (by have := HSB.out; omega) (by simp; omega) (wr.heap.size + 1) (by simp) ?_; intro gg cap w3 hown3 hgrow hat hlt'; have hbw : Below w.heap.size w w3 := (HBR.out.alloc hsz _).drew.grown hgrow (by simp; omega) fun q hq => (own_typ1 HOWN.out hq).1; have ct3 := (hbw.cell (p := ⟨bb, off + j * 3 + 2, none⟩) hbb).trans HCT.out)
                    | (go_at_call 71; (with_reducible refine (HQ.out _).mono ?_); rintro e w4 ⟨rfl, rfl⟩)
                    | (go_at_call 71; (with_reducible refine (HM.out _).mono ?_); rintro e w4 ⟨rfl, rfl⟩))
                  all_goals
                    have k1 := hexC (p.t[i].toNat / 16) (by omega)
                    have HO := Lib.hid (show w3.ownsRow w.heap.size 5 1 (.slice (some ⟨gg, 0, none⟩) ((before l j).length + 1 + 2 * i + 2) cap) ((before l j).length + 1 + 2 * (i + 1)) (Lib.byteCells (before l j ++ [43] ++ hexL (p.t.data.toList.take (i + 1)))) by
                      rw [HXT.out, show (before l j).length + 1 + 2 * (i + 1) = (before l j).length + 1 + 2 * i + 2 by omega, ← List.append_assoc, ← byteCells_app]
                      exact hown3)
                    have HB := Lib.hid hbw
                    clear hown3 hgrow hat hlt' hbw ct3 k1 HOWN HBR ct
                    go_wp2_with fail
                    go_roundw
                    case rel => exact ⟨i + 1, by omega, by go_num, HO.out, HB.out⟩
                    case measure => simp [intOf]; omega
                · obtain rfl : i = p.t.size := by omega
                  have HO5 := Lib.hid (show wr.ownsRow w.heap.size 5 1 _ (textL (l.take (j + 1))).length (Lib.byteCells (textL (l.take (j + 1)))) by
                    have := HOWN.out
                    rw [show p.t.data.toList.take p.t.size = p.t.data.toList from List.take_of_length_le (Nat.le_of_eq (Array.length_toList ..)), List.append_assoc, ← HE1.out, HBP.out] at this
                    refine own_len this ?_
                    rw [← HBP.out, HE1.out, List.length_append, List.length_append, hexL_len, ← Nat.add_assoc]
                    show _ = _ + 1 + 2 * p.t.data.toList.length
                    rw [show p.t.data.toList.length = p.t.size from Array.length_toList ..])
                  go_wp2_with fail
                  go_roundw
                  case rel => exact ⟨j + 1, by omega, by go_num, HO5.out, HBR.out⟩
                  case measure => simp [intOf]; omega
      · obtain rfl : j = n := by omega
        rw [List.take_of_length_le (by omega)] at HOWN
        obtain ⟨ao', cap, rfl, hconv⟩ := own_conv HOWN.out rfl
        clear HOWN
        go_wp2_with fail
        go_ret2
        exact ⟨by rw [HE.out, HCK.out] <;> rfl, HBR.out⟩
  · have HE := Lib.hid (show txtP l = [] by unfold txtP; rw [if_neg hc])
    have hc2 : (checkP l == 0) = false := by rw [beq_eq_false_iff_ne]; exact hc
    clear hc
    go_wp2_with fail
    go_ret2
    exact ⟨by rw [HE.out] <;> rfl, HB1.out⟩
end Go.Proofs.YtdfkbahlngijcaaDoor

namespace Go.Proofs.YtdfkbahlngijcaaDoor
open Go.RowKit
set_option linter.unusedVariables false

set_option maxRecDepth 100000 in
set_option maxHeartbeats 8000000 in
theorem quote_any (t : ByteArray) (w : World) (ht : t.size ≤ 1000000000) :
    Calls Tryd.prog 29 #[.string t] w fun e w' => e = .returned (.string ⟨(quoteL t).toArray⟩) ∧ Below w.heap.size w w' := by
  obtain ⟨i0, hi0, hz0, hz1, hz2⟩ := info_parts infoU8
  have HB0 := Lib.hid ((Below.refl w.heap.size w).alloc (Nat.le_refl _) (.cells #[.int .u8 43] 5))
  have HO0 := Lib.hid (bytes_one w 43)
  go_enter Tryd.func29, Tryd.ntmps29
  go_wp2_with fail
  go_loopw [3, 4, 8] (fun vb vi s wr => ∃ (j : Nat), j ≤ t.size ∧ s = .int .i64 j ∧ wr.ownsRow w.heap.size 5 1 vb (2 * j + 1) (Lib.byteCells (43 :: hexL (t.data.toList.take j))) ∧ Below w.heap.size w wr) (fun _ _ s _ => t.size - (intOf s).toNat)
  case atStart => exact ⟨0, Nat.zero_le _, rfl, HO0.out, HB0.out⟩
  case round =>
    obtain ⟨j, hj, rfl, hown, hbr⟩ := hrel
    have HOWN := Lib.hid hown
    have HBR := Lib.hid hbr
    have hsz := hbr.size
    clear hown hbr HO0 HB0
    by_cases hlt : j < t.size
    · have hj1 : (j : Int) < (t.size : Int) := by omega
      have hj0 : (0 : Int) ≤ (j : Int) := by omega
      have hb := u8lt t[j]
      have hA := and15 _ hb
      have h1 : (0 : Int) ≤ (t[j].toNat : Int) / 16 := by omega
      have h2 : (t[j].toNat : Int) / 16 < 16 := by omega
      have h3 : (0 : Int) ≤ ((t[j].toNat % 16 : Nat) : Int) := by omega
      have h4 : ((t[j].toNat % 16 : Nat) : Int) < 16 := by omega
      go_wp2_with fail
      go_region_held3 (fun w' => True) (trivial) ((refine step_append_lies _ (by rfl) _ _ _ (by rfl) w.heap.size 5 i0 _ 1 1 Tryd.underlying73 hi0 hz0 hz1 hz2 rfl (by decide) _ (2 * j + 1) _ (by rfl) ((HOWN.out.alloc _).drew) ⟨wr.heap.size, 0, none⟩ 2 2 [_, _] (by rfl) (by rfl) (World.news_of_block (cs := #[_, _]) (t := 5) (fr := (0, 0)) (heap_alloc_new wr _)) (by simp [Value.oneCell']) (by omega) (by unfold maxLen; omega) (by omega) (by simp; omega) (wr.heap.size + 1) (by simp) ?_; intro gg cap w1 hown1 hgrow hat hlt'))
      all_goals
        have e1 : ((t[j].toNat : Int) / 16).toNat = t[j].toNat / 16 := by omega
        have e2 : ((t[j].toNat : Int) % 16).toNat = t[j].toNat % 16 := by omega
        have k1 := hexC (t[j].toNat / 16) (by omega)
        have k2 := hexC (t[j].toNat % 16) (by omega)
        simp only [e1, e2, k1, k2] at hown1
        have HO := Lib.hid (show w1.ownsRow w.heap.size 5 1 (.slice (some ⟨gg, 0, none⟩) (2 * j + 1 + 2) cap) (2 * (j + 1) + 1) (Lib.byteCells (43 :: hexL (t.data.toList.take (j + 1)))) by
          rw [show 2 * (j + 1) + 1 = 2 * j + 1 + 2 by omega, hexL_take t hlt, hex_step t]
          exact hown1)
        have HB := Lib.hid ((HBR.out.alloc hsz _).drew.grown hgrow (by simp; omega) fun q hq => (own_typ1 HOWN.out hq).1)
        clear hown1 hgrow hat hlt' e1 e2 k1 k2 HOWN HBR
        go_wp2_with fail
        go_roundw
        case rel => exact ⟨j + 1, by omega, by go_num, HO.out, HB.out⟩
        case measure => simp [intOf]; omega
    · obtain rfl : j = t.size := by omega
      obtain ⟨g, cap, rfl, hconv⟩ := own_str HOWN.out (by rw [quote_end, quote_len]) (by omega)
      rw [quote_end] at hconv
      clear HOWN
      go_wp2_with fail
      go_ret
      exact ⟨rfl, HBR.out⟩

set_option maxRecDepth 100000 in
set_option maxHeartbeats 8000000 in
theorem refString_any (t : ByteArray) (w : World) (ht : t.size ≤ 1000000000) :
    Calls Tryd.prog 33 #[.string t] w fun e w' => e = .returned (.string ⟨(quoteL t).toArray⟩) ∧ Below w.heap.size w w' := by
  obtain ⟨i0, hi0, hz0, hz1, hz2⟩ := info_parts infoU8
  have HB0 := Lib.hid ((Below.refl w.heap.size w).alloc (Nat.le_refl _) (.cells #[.int .u8 43] 5))
  have HO0 := Lib.hid (bytes_one w 43)
  go_enter Tryd.func33, Tryd.ntmps33
  go_wp2_with fail
  go_loopw [4, 5] (fun vb s wr => ∃ (j : Nat), j ≤ t.size ∧ s = .int .i64 j ∧ wr.ownsRow w.heap.size 5 1 vb (2 * j + 1) (Lib.byteCells (43 :: hexL (t.data.toList.take j))) ∧ Below w.heap.size w wr) (fun _ s _ => t.size - (intOf s).toNat)
  case atStart => exact ⟨0, Nat.zero_le _, rfl, HO0.out, HB0.out⟩
  case round =>
    obtain ⟨j, hj, rfl, hown, hbr⟩ := hrel
    have HOWN := Lib.hid hown
    have HBR := Lib.hid hbr
    have hsz := hbr.size
    clear hown hbr HO0 HB0
    by_cases hlt : j < t.size
    · have hj1 : (j : Int) < (t.size : Int) := by omega
      have hj0 : (0 : Int) ≤ (j : Int) := by omega
      have hb := u8lt t[j]
      have hW : IntKind.u8.wrap ((t[j].toNat : Int) / 16) = (t[j].toNat : Int) / 16 := wrap8 _ (by omega) (by omega)
      have hT : Int.tmod (t[j].toNat : Int) 16 = (t[j].toNat : Int) % 16 := Int.tmod_eq_emod_of_nonneg (by omega)
      have h5 : (0 : Int) ≤ (t[j].toNat : Int) % 16 := by omega
      have h6 : (t[j].toNat : Int) % 16 < 16 := by omega
      have h1 : (0 : Int) ≤ (t[j].toNat : Int) / 16 := by omega
      have h2 : (t[j].toNat : Int) / 16 < 16 := by omega
      have h3 : (0 : Int) ≤ ((t[j].toNat % 16 : Nat) : Int) := by omega
      have h4 : ((t[j].toNat % 16 : Nat) : Int) < 16 := by omega
      go_wp2_with fail
      go_region_held3 (fun w' => True) (trivial) ((refine step_append_lies _ (by rfl) _ _ _ (by rfl) w.heap.size 5 i0 _ 1 1 Tryd.underlying73 hi0 hz0 hz1 hz2 rfl (by decide) _ (2 * j + 1) _ (by rfl) ((HOWN.out.alloc _).drew) ⟨wr.heap.size, 0, none⟩ 2 2 [_, _] (by rfl) (by rfl) (World.news_of_block (cs := #[_, _]) (t := 5) (fr := (0, 0)) (heap_alloc_new wr _)) (by simp [Value.oneCell']) (by omega) (by unfold maxLen; omega) (by omega) (by simp; omega) (wr.heap.size + 1) (by simp) ?_; intro gg cap w1 hown1 hgrow hat hlt'))
      all_goals
        have e1 : ((t[j].toNat : Int) / 16).toNat = t[j].toNat / 16 := by omega
        have e2 : ((t[j].toNat : Int) % 16).toNat = t[j].toNat % 16 := by omega
        have k1 := hexC (t[j].toNat / 16) (by omega)
        have k2 := hexC (t[j].toNat % 16) (by omega)
        simp only [e1, e2, k1, k2] at hown1
        have HO := Lib.hid (show w1.ownsRow w.heap.size 5 1 (.slice (some ⟨gg, 0, none⟩) (2 * j + 1 + 2) cap) (2 * (j + 1) + 1) (Lib.byteCells (43 :: hexL (t.data.toList.take (j + 1)))) by
          rw [show 2 * (j + 1) + 1 = 2 * j + 1 + 2 by omega, hexL_take t hlt, hex_step t]
          exact hown1)
        have HB := Lib.hid ((HBR.out.alloc hsz _).drew.grown hgrow (by simp; omega) fun q hq => (own_typ1 HOWN.out hq).1)
        clear hown1 hgrow hat hlt' e1 e2 k1 k2 HOWN HBR
        go_wp2_with fail
        go_roundw
        case rel => exact ⟨j + 1, by omega, by go_num, HO.out, HB.out⟩
        case measure => simp [intOf]; omega
    · obtain rfl : j = t.size := by omega
      obtain ⟨g, cap, rfl, hconv⟩ := own_str HOWN.out (by rw [quote_end, quote_len]) (by omega)
      rw [quote_end] at hconv
      clear HOWN
      go_wp2_with fail
      go_ret
      exact ⟨rfl, HBR.out⟩
end Go.Proofs.YtdfkbahlngijcaaDoor

namespace Go.Proofs.YtdfkbahlngijcaaDoor
open Go.RowKit
set_option linter.unusedVariables false

def numOK (v : Int) : Prop := 0 ≤ v ∧ v ≤ 9999999999
instance (v : Int) : Decidable (numOK v) := by unfold numOK; infer_instance
def numL (v : Int) : List UInt8 := if numOK v then Lib.decDigits v.toNat else []

set_option maxRecDepth 100000 in
set_option maxHeartbeats 4000000 in
theorem refNumber_any (v : Int) (w : World) :
    Calls Tryd.prog 32 #[.int .i64 v] w fun e w' => e = .returned (.tuple #[.string ⟨(numL v).toArray⟩, .bool (decide (numOK v))]) ∧ Below w.heap.size w w' := by
  have HB := Lib.hid (Below.refl w.heap.size w)
  by_cases h0 : v < 0
  · have HE := Lib.hid (show numL v = [] ∧ decide (numOK v) = false by
      have : ¬ numOK v := fun h => by have := h.1; omega
      exact ⟨if_neg this, decide_eq_false this⟩)
    go_enter Tryd.func32, Tryd.ntmps32
    go_wp2_with fail
    go_ret2
    exact ⟨by rw [HE.out.1, HE.out.2] <;> rfl, HB.out⟩
  by_cases h1 : 9999999999 < v
  · have HE := Lib.hid (show numL v = [] ∧ decide (numOK v) = false by
      have : ¬ numOK v := fun h => by have := h.2; omega
      exact ⟨if_neg this, decide_eq_false this⟩)
    go_enter Tryd.func32, Tryd.ntmps32
    go_wp2_with fail
    go_ret2
    exact ⟨by rw [HE.out.1, HE.out.2] <;> rfl, HB.out⟩
  obtain ⟨n, rfl⟩ : ∃ n : Nat, v = n := ⟨v.toNat, by omega⟩
  have hlen := decDigits_len 10 n (by decide) (by omega)
  have HE := Lib.hid (show numL (n : Int) = Lib.decDigits n ∧ decide (numOK (n : Int)) = true by
    have : numOK (n : Int) := ⟨by omega, by omega⟩
    exact ⟨if_pos this, decide_eq_true this⟩)
  have HL := Lib.hid hlen
  clear hlen
  go_enter Tryd.func32, Tryd.ntmps32
  go_wp2_with fail
  go_loopw [0, 4] (fun sv ss wr => ∃ (m : Nat) (l : List UInt8), sv = .int .i64 m ∧ ss = .string ⟨l.toArray⟩ ∧ Lib.decDigits m ++ l = Lib.decDigits n ∧ m ≤ 9999999999 ∧ l.length ≤ 20 ∧ Below w.heap.size w wr) (fun sv _ _ => (intOf sv).toNat)
  case atStart => exact ⟨n, [], rfl, rfl, List.append_nil _, by omega, Nat.zero_le _, HB.out⟩
  case round =>
    obtain ⟨m, l, rfl, rfl, hd, hm, hl, hbr⟩ := hrel
    have HD := Lib.hid hd
    have HBP := Lib.hid (hbr.alloc hbr.size (.cells #[.int .u8 (digC m).toNat] 5))
    obtain ⟨g, cap, e, hconv⟩ := own_str (bytes_one wr (digC m)) rfl (by decide)
    injection e with e1 e2 e3
    injection e1 with e1
    injection e1 with e1
    subst e1 e3
    have hT : Int.tmod (m : Int) 10 = (m : Int) % 10 := Int.tmod_eq_emod_of_nonneg (by omega)
    have hQ : Int.tdiv (m : Int) 10 = ((m / 10 : Nat) : Int) := by rw [Int.tdiv_eq_ediv_of_nonneg (by omega)]; rfl
    have hV : IntKind.u8.wrap (48 + (m : Int) % 10) = ((digC m).toNat : Int) := by
      rw [digC_val]
      rw [wrap8 _ (by omega) (by omega)]
      omega
    have hcat : ¬ (9223372036854775807 < (⟨#[digC m]⟩ : ByteArray).size + (⟨l.toArray⟩ : ByteArray).size) := by
      show ¬ (9223372036854775807 < 1 + l.length)
      omega
    clear hd hbr
    by_cases h10 : m < 10
    · have hm10 : (m : Int) < 10 := by omega
      have hV2 : IntKind.u8.wrap (48 + (m : Int)) = ((digC m).toNat : Int) := by
        rw [← hV, show (m : Int) % 10 = m by omega]
      have HR := Lib.hid (show Lib.decDigits n = digC m :: l by rw [← HD.out, decDigits_small h10]; rfl)
      clear hV hT hQ
      go_wp2_with fail
      go_ret2
      exact ⟨by rw [HE.out.1, HE.out.2, HR.out] <;> rfl, HBP.out⟩
    · have hm10 : ¬ ((m : Int) < 10) := by omega
      have HR := Lib.hid (show Lib.decDigits (m / 10) ++ (digC m :: l) = Lib.decDigits n by rw [← HD.out, decDigits_step h10, List.append_assoc]; rfl)
      have HLE := Lib.hid (show (digC m :: l).length ≤ 20 by
        have h1 := congrArg List.length HR.out
        have h2 := HL.out
        rw [List.length_append] at h1
        omega)
      go_wp2_with fail
      go_roundw
      case rel => exact ⟨m / 10, digC m :: l, by go_num, rfl, HR.out, by omega, HLE.out, HBP.out⟩
      case measure => simp [intOf]; omega
end Go.Proofs.YtdfkbahlngijcaaDoor

namespace Go.Proofs.YtdfkbahlngijcaaDoor
open Go.RowKit
set_option linter.unusedVariables false

structure Rs where
  e : Int
  rev : Int
  sl : Int
  a : Int
  gr : Int
  t : ByteArray
  mb : Int
  mr : Int
  ml : Int
  ik : Int
  fr : Int
  tu : Int
  d : List Pc
def rsV (r : Rs) (ao : Option Addr) (n c : Nat) : Array Value := #[.int .i64 r.e, .int .i64 r.rev, .int .i64 r.sl, .int .i64 r.a, .int .u8 r.gr, .string r.t, .int .i64 r.mb, .int .i64 r.mr, .int .i64 r.ml, .int .u8 r.ik, .int .i64 r.fr, .int .i64 r.tu, .slice ao n c]
def zeroR (r : Rs) : Bool := r.rev == 0 && r.sl == 0 && r.a == 0 && r.gr == 0 && decide (r.t.size = 0) && r.mb == 0 && r.mr == 0 && r.ml == 0 && r.ik == 0 && r.fr == 0 && r.tu == 0 && decide (r.d.length = 0)
def nums1 (r : Rs) : List Int := [r.rev, r.sl, r.a, r.gr]
def nums2 (r : Rs) : List Int := [r.mb, r.mr, r.ml, r.ik, r.fr, r.tu]
def wordsR (r : Rs) : List (List UInt8) := [[111, 107]] ++ (nums1 r).map numL ++ [quoteL r.t] ++ (nums2 r).map numL ++ (if textL r.d = [] then [] else [textL r.d])
def allOK (l : List Int) : Bool := l.all fun v => decide (numOK v)
def resR (r : Rs) : List UInt8 × Int :=
  if r.e ≠ 0 then (if r.e < 0 ∨ zeroR r = false ∨ 9999999999 < r.e then ([], 2) else ([101, 114, 114, 111, 114, 32] ++ Lib.decDigits r.e.toNat, 0))
  else if allOK (nums1 r) = true ∧ allOK (nums2 r) = true ∧ checkP r.d = 0 then (joinW (wordsR r), 0) else ([], 2)

set_option maxRecDepth 100000 in
set_option maxHeartbeats 4000000 in
theorem empty_any (r : Rs) (ao : Option Addr) (n c : Nat) (hl : r.d.length = n) (w : World) :
    Calls Tryd.prog 26 #[.agg (rsV r ao n c)] w fun e w' => e = .returned (.bool (zeroR r)) ∧ Below w.heap.size w w' := by
  have HB := Lib.hid (((Below.refl w.heap.size w).alloc (Nat.le_refl _) (.cells (rsV r ao n c) 29)).alloc (by simp) (.cells #[.int .u8 r.ik, .int .i64 r.fr, .int .i64 r.tu, .slice ao n c] 27))
  obtain ⟨e, rev, sl, a, gr, t, mb, mr, ml, ik, fr, tu, d⟩ := r
  simp only [rsV] at HB hl ⊢
  by_cases hrev : rev = 0
  · subst hrev
    by_cases hsl : sl = 0
    · subst hsl
      by_cases ha : a = 0
      · subst ha
        by_cases hgr : gr = 0
        · subst hgr
          by_cases ht : t.size = 0
          · have et := str_empty ht
            subst et
            clear ht
            by_cases hmb : mb = 0
            · subst hmb
              by_cases hmr : mr = 0
              · subst hmr
                by_cases hml : ml = 0
                · subst hml
                  by_cases hik : ik = 0
                  · subst hik
                    by_cases hfr : fr = 0
                    · subst hfr
                      by_cases htu : tu = 0
                      · subst htu
                        by_cases hn : n = 0
                        · obtain rfl := hn
                          have hd : d.length = 0 := hl
                          have HZ := Lib.hid (show zeroR ⟨e, 0, 0, 0, 0, ⟨#[]⟩, 0, 0, 0, 0, 0, 0, d⟩ = true by unfold zeroR; simp only [hd] <;> rfl)
                          go_enter Tryd.func26, Tryd.ntmps26
                          go_wp2_with fail
                          go_ret
                          exact ⟨by rw [HZ.out] <;> rfl, HB.out⟩
                        · have hd : d.length ≠ 0 := by omega
                          have HZ := Lib.hid (show zeroR ⟨e, 0, 0, 0, 0, ⟨#[]⟩, 0, 0, 0, 0, 0, 0, d⟩ = false by simp [zeroR, hd])
                          have bn : ((n : Int) == 0) = false := by rw [beq_eq_false_iff_ne]; omega
                          clear hn
                          go_enter Tryd.func26, Tryd.ntmps26
                          go_wp2_with fail
                          go_ret
                          exact ⟨by rw [HZ.out] <;> rfl, HB.out⟩
                      · have HZ := Lib.hid (show zeroR ⟨e, 0, 0, 0, 0, ⟨#[]⟩, 0, 0, 0, 0, 0, tu, d⟩ = false by simp [zeroR, htu])
                        have btu : (tu == 0) = false := by rw [beq_eq_false_iff_ne]; exact htu
                        clear htu
                        go_enter Tryd.func26, Tryd.ntmps26
                        go_wp2_with fail
                        go_ret
                        exact ⟨by rw [HZ.out] <;> rfl, HB.out⟩
                    · have HZ := Lib.hid (show zeroR ⟨e, 0, 0, 0, 0, ⟨#[]⟩, 0, 0, 0, 0, fr, tu, d⟩ = false by simp [zeroR, hfr])
                      have bfr : (fr == 0) = false := by rw [beq_eq_false_iff_ne]; exact hfr
                      clear hfr
                      go_enter Tryd.func26, Tryd.ntmps26
                      go_wp2_with fail
                      go_ret
                      exact ⟨by rw [HZ.out] <;> rfl, HB.out⟩
                  · have HZ := Lib.hid (show zeroR ⟨e, 0, 0, 0, 0, ⟨#[]⟩, 0, 0, 0, ik, fr, tu, d⟩ = false by simp [zeroR, hik])
                    have bik : (ik == 0) = false := by rw [beq_eq_false_iff_ne]; exact hik
                    clear hik
                    go_enter Tryd.func26, Tryd.ntmps26
                    go_wp2_with fail
                    go_ret
                    exact ⟨by rw [HZ.out] <;> rfl, HB.out⟩
                · have HZ := Lib.hid (show zeroR ⟨e, 0, 0, 0, 0, ⟨#[]⟩, 0, 0, ml, ik, fr, tu, d⟩ = false by simp [zeroR, hml])
                  have bml : (ml == 0) = false := by rw [beq_eq_false_iff_ne]; exact hml
                  clear hml
                  go_enter Tryd.func26, Tryd.ntmps26
                  go_wp2_with fail
                  go_ret
                  exact ⟨by rw [HZ.out] <;> rfl, HB.out⟩
              · have HZ := Lib.hid (show zeroR ⟨e, 0, 0, 0, 0, ⟨#[]⟩, 0, mr, ml, ik, fr, tu, d⟩ = false by simp [zeroR, hmr])
                have bmr : (mr == 0) = false := by rw [beq_eq_false_iff_ne]; exact hmr
                clear hmr
                go_enter Tryd.func26, Tryd.ntmps26
                go_wp2_with fail
                go_ret
                exact ⟨by rw [HZ.out] <;> rfl, HB.out⟩
            · have HZ := Lib.hid (show zeroR ⟨e, 0, 0, 0, 0, ⟨#[]⟩, mb, mr, ml, ik, fr, tu, d⟩ = false by simp [zeroR, hmb])
              have bmb : (mb == 0) = false := by rw [beq_eq_false_iff_ne]; exact hmb
              clear hmb
              go_enter Tryd.func26, Tryd.ntmps26
              go_wp2_with fail
              go_ret
              exact ⟨by rw [HZ.out] <;> rfl, HB.out⟩
          · have HZ := Lib.hid (show zeroR ⟨e, 0, 0, 0, 0, t, mb, mr, ml, ik, fr, tu, d⟩ = false by simp [zeroR, ht])
            have bt := str_some ht
            clear ht
            go_enter Tryd.func26, Tryd.ntmps26
            go_wp2_with fail
            go_ret
            exact ⟨by rw [HZ.out] <;> rfl, HB.out⟩
        · have HZ := Lib.hid (show zeroR ⟨e, 0, 0, 0, gr, t, mb, mr, ml, ik, fr, tu, d⟩ = false by simp [zeroR, hgr])
          have bgr : (gr == 0) = false := by rw [beq_eq_false_iff_ne]; exact hgr
          clear hgr
          go_enter Tryd.func26, Tryd.ntmps26
          go_wp2_with fail
          go_ret
          exact ⟨by rw [HZ.out] <;> rfl, HB.out⟩
      · have HZ := Lib.hid (show zeroR ⟨e, 0, 0, a, gr, t, mb, mr, ml, ik, fr, tu, d⟩ = false by simp [zeroR, ha])
        have ba : (a == 0) = false := by rw [beq_eq_false_iff_ne]; exact ha
        clear ha
        go_enter Tryd.func26, Tryd.ntmps26
        go_wp2_with fail
        go_ret
        exact ⟨by rw [HZ.out] <;> rfl, HB.out⟩
    · have HZ := Lib.hid (show zeroR ⟨e, 0, sl, a, gr, t, mb, mr, ml, ik, fr, tu, d⟩ = false by simp [zeroR, hsl])
      have bsl : (sl == 0) = false := by rw [beq_eq_false_iff_ne]; exact hsl
      clear hsl
      go_enter Tryd.func26, Tryd.ntmps26
      go_wp2_with fail
      go_ret
      exact ⟨by rw [HZ.out] <;> rfl, HB.out⟩
  · have HZ := Lib.hid (show zeroR ⟨e, rev, sl, a, gr, t, mb, mr, ml, ik, fr, tu, d⟩ = false by simp [zeroR, hrev])
    have brev : (rev == 0) = false := by rw [beq_eq_false_iff_ne]; exact hrev
    clear hrev
    go_enter Tryd.func26, Tryd.ntmps26
    go_wp2_with fail
    go_ret
    exact ⟨by rw [HZ.out] <;> rfl, HB.out⟩
end Go.Proofs.YtdfkbahlngijcaaDoor

namespace Go.Proofs.YtdfkbahlngijcaaDoor
set_option linter.unusedVariables false

theorem decDigits_inj : ∀ m n : Nat, Lib.decDigits m = Lib.decDigits n → m = n := by
  intro m
  induction m using Nat.strongRecOn with
  | ind m ih =>
    intro n h
    have hm := digC_nat m
    have hn := digC_nat n
    by_cases h1 : m < 10
    · by_cases h2 : n < 10
      · rw [decDigits_small h1, decDigits_small h2] at h
        have e : digC m = digC n := by injection h
        rw [e] at hm
        omega
      · rw [decDigits_small h1, decDigits_step h2] at h
        have := congrArg List.length h
        rw [List.length_append] at this
        have h3 := List.length_pos_iff.2 (decDigits_ne (n / 10))
        simp at this
        exact absurd this (decDigits_ne (n / 10))
    · by_cases h2 : n < 10
      · rw [decDigits_step h1, decDigits_small h2] at h
        have := congrArg List.length h
        rw [List.length_append] at this
        simp at this
        exact absurd this (decDigits_ne (m / 10))
      · rw [decDigits_step h1, decDigits_step h2] at h
        obtain ⟨g1, g2⟩ := List.append_inj' h rfl
        have e : digC m = digC n := by injection g2
        rw [e] at hm
        have := ih (m / 10) (by omega) (n / 10) g1
        omega
theorem numL_inj {a b : Int} (ha : numOK a) (hb : numOK b) (h : numL a = numL b) : a = b := by
  unfold numL at h
  rw [if_pos ha, if_pos hb] at h
  have := decDigits_inj _ _ h
  have h1 := ha.1
  have h2 := hb.1
  omega
theorem hexL_inj {a b : List UInt8} (h : hexL a = hexL b) : a = b := by
  have h1 := hexP_hexL a
  rw [h, hexP_hexL b] at h1
  exact (Option.some.inj h1).symm
theorem quoteL_inj {a b : ByteArray} (h : quoteL a = quoteL b) : a = b := by
  unfold quoteL at h
  have h1 : hexL a.data.toList = hexL b.data.toList := by injection h
  have h2 := hexL_inj h1
  obtain ⟨x⟩ := a
  obtain ⟨y⟩ := b
  have : x = y := Array.toList_inj.1 h2
  rw [this]
theorem numL_no32 (v : Int) : ∀ c ∈ numL v, c ≠ 32 := by
  intro c hc
  unfold numL at hc
  by_cases h : numOK v
  · rw [if_pos h] at hc
    exact dec_no32 _ c hc
  · rw [if_neg h] at hc
    exact absurd hc List.not_mem_nil
theorem quote_no32 (t : ByteArray) : ∀ c ∈ quoteL t, c ≠ 32 := by
  intro c hc
  unfold quoteL at hc
  rcases List.mem_cons.1 hc with rfl | hc
  · decide
  · exact hexL_no32 _ c hc
def wordsAll (r : Rs) : List (List UInt8) := [111, 107] :: numL r.rev :: numL r.sl :: numL r.a :: numL r.gr :: quoteL r.t :: numL r.mb :: numL r.mr :: numL r.ml :: numL r.ik :: numL r.fr :: numL r.tu :: r.d.map pcT
theorem joinW_app : ∀ (A B : List (List UInt8)), A ≠ [] → B ≠ [] → joinW (A ++ B) = joinW A ++ 32 :: joinW B
  | [], _, h, _ => absurd rfl h
  | [w], B, _, hB => by
    rcases B with _ | ⟨v, ws⟩
    · exact absurd rfl hB
    · rfl
  | w :: v :: A, B, _, hB => by
    have ih := joinW_app (v :: A) B (by simp) hB
    show w ++ 32 :: joinW ((v :: A) ++ B) = (w ++ 32 :: joinW (v :: A)) ++ 32 :: joinW B
    rw [ih]
    simp
theorem words_all (r : Rs) : joinW (wordsR r) = joinW (wordsAll r) := by
  obtain ⟨A, hA, h0⟩ : ∃ A : List (List UInt8), A = [[111, 107]] ++ (nums1 r).map numL ++ [quoteL r.t] ++ (nums2 r).map numL ∧ A ≠ [] := ⟨_, rfl, by simp⟩
  have h1 : wordsAll r = A ++ r.d.map pcT := by rw [hA]; rfl
  have h2 : wordsR r = A ++ (if textL r.d = [] then [] else [textL r.d]) := by rw [hA]; rfl
  rw [h1, h2]
  by_cases hd : r.d = []
  · rw [hd]; rfl
  · rw [if_neg (textL_ne hd), joinW_app A _ h0 (by simp), joinW_app A _ h0 (by simpa using hd)]
    rfl
theorem words_no32 (r : Rs) : ∀ w ∈ wordsAll r, ∀ c ∈ w, c ≠ 32 := by
  intro w hw c hc
  unfold wordsAll at hw
  simp only [List.mem_cons] at hw
  rcases hw with rfl | rfl | rfl | rfl | rfl | rfl | rfl | rfl | rfl | rfl | rfl | rfl | hw
  · simp at hc; rcases hc with rfl | rfl <;> decide
  · exact numL_no32 _ c hc
  · exact numL_no32 _ c hc
  · exact numL_no32 _ c hc
  · exact numL_no32 _ c hc
  · exact quote_no32 _ c hc
  · exact numL_no32 _ c hc
  · exact numL_no32 _ c hc
  · exact numL_no32 _ c hc
  · exact numL_no32 _ c hc
  · exact numL_no32 _ c hc
  · exact numL_no32 _ c hc
  · obtain ⟨p, _, rfl⟩ := List.mem_map.1 hw
    exact pcT_no32 p c hc
theorem pcs_inj {a b : List Pc} (ha : checkP a = 0) (hb : checkP b = 0) (h : a.map pcT = b.map pcT) : a = b := by
  obtain ⟨h1, h2, h3, h4⟩ := check_inv ha
  obtain ⟨k1, k2, k3, k4⟩ := check_inv hb
  have e1 := allP_map a fun p hp => ⟨h2 p hp, by have := inn_le h2 hp; omega⟩
  have e2 := allP_map b fun p hp => ⟨k2 p hp, by have := inn_le k2 hp; omega⟩
  rw [h, e2] at e1
  exact (Option.some.inj e1).symm
theorem zero_all {r : Rs} (h : zeroR r = true) : r = ⟨r.e, 0, 0, 0, 0, ⟨#[]⟩, 0, 0, 0, 0, 0, 0, []⟩ := by
  obtain ⟨e, rev, sl, a, gr, t, mb, mr, ml, ik, fr, tu, d⟩ := r
  simp only [zeroR, Bool.and_eq_true, beq_iff_eq, decide_eq_true_eq] at h
  obtain ⟨⟨⟨⟨⟨⟨⟨⟨⟨⟨⟨h1, h2⟩, h3⟩, h4⟩, h5⟩, h6⟩, h7⟩, h8⟩, h9⟩, h10⟩, h11⟩, h12⟩ := h
  simp only
  rw [h1, h2, h3, h4, str_empty h5, h6, h7, h8, h9, h10, h11, List.eq_nil_of_length_eq_zero h12]
/-- what a result must be to have a line -/
theorem res_ok {r : Rs} {s : List UInt8} (h : resR r = (s, 0)) :
    (0 < r.e ∧ r.e ≤ 9999999999 ∧ zeroR r = true ∧ s = [101, 114, 114, 111, 114, 32] ++ Lib.decDigits r.e.toNat) ∨
    (r.e = 0 ∧ allOK (nums1 r) = true ∧ allOK (nums2 r) = true ∧ checkP r.d = 0 ∧ s = joinW (wordsR r)) := by
  unfold resR at h
  by_cases h0 : r.e ≠ 0
  · rw [if_pos h0] at h
    by_cases h1 : r.e < 0 ∨ zeroR r = false ∨ 9999999999 < r.e
    · rw [if_pos h1] at h
      simp at h
    · rw [if_neg h1] at h
      have h2 : ¬ r.e < 0 := fun k => h1 (.inl k)
      have h3 : zeroR r = true := by
        rcases hz : zeroR r with _ | _
        · exact absurd (.inr (.inl hz)) h1
        · rfl
      have h4 : ¬ 9999999999 < r.e := fun k => h1 (.inr (.inr k))
      exact .inl ⟨by omega, by omega, h3, (Prod.mk.inj h).1.symm⟩
  · rw [if_neg h0] at h
    by_cases h1 : allOK (nums1 r) = true ∧ allOK (nums2 r) = true ∧ checkP r.d = 0
    · rw [if_pos h1] at h
      exact .inr ⟨by omega, h1.1, h1.2.1, h1.2.2, (Prod.mk.inj h).1.symm⟩
    · rw [if_neg h1] at h
      simp at h
theorem words_head (r : Rs) : ∃ l, joinW (wordsR r) = 111 :: l := by
  rw [words_all]
  unfold wordsAll
  exact ⟨_, rfl⟩
theorem res_ne {r : Rs} {s : List UInt8} (h : resR r = (s, 0)) : s ≠ [] := by
  rcases res_ok h with ⟨_, _, _, rfl⟩ | ⟨_, _, _, _, rfl⟩
  · simp
  · obtain ⟨l, e⟩ := words_head r
    rw [e]; simp
theorem res_inj {a b : Rs} {s : List UInt8} (ha : resR a = (s, 0)) (hb : resR b = (s, 0)) : a = b := by
  rcases res_ok ha with ⟨a1, a2, a3, a4⟩ | ⟨a1, a2, a3, a4, a5⟩
  · rcases res_ok hb with ⟨b1, b2, b3, b4⟩ | ⟨b1, b2, b3, b4, b5⟩
    · have e : a.e = b.e := by
        rw [a4] at b4
        have := decDigits_inj _ _ (List.append_cancel_left b4)
        omega
      rw [zero_all a3, zero_all b3, e]
    · obtain ⟨l, e⟩ := words_head b
      rw [a4, e] at b5
      simp at b5
  · rcases res_ok hb with ⟨b1, b2, b3, b4⟩ | ⟨b1, b2, b3, b4, b5⟩
    · obtain ⟨l, e⟩ := words_head a
      rw [b4, e] at a5
      simp at a5
    · have hw : wordsAll a = wordsAll b := by
        have h1 := split_join (wordsAll a) (by unfold wordsAll; simp) (words_no32 a)
        have h2 := split_join (wordsAll b) (by unfold wordsAll; simp) (words_no32 b)
        rw [← words_all, ← a5] at h1
        rw [← words_all, ← b5, h1] at h2
        exact h2
      obtain ⟨e, rev, sl, at_, gr, t, mb, mr, ml, ik, fr, tu, d⟩ := a
      obtain ⟨e', rev', sl', at', gr', t', mb', mr', ml', ik', fr', tu', d'⟩ := b
      simp only [allOK, nums1, nums2, List.all_cons, List.all_nil, Bool.and_true, Bool.and_eq_true, decide_eq_true_eq] at a2 a3 b2 b3
      simp only [wordsAll, List.cons.injEq, true_and] at hw
      obtain ⟨w1, w2, w3, w4, w5, w6, w7, w8, w9, w10, w11, w12⟩ := hw
      simp only at a1 b1 a4 b4
      rw [a1, b1, numL_inj a2.1 b2.1 w1, numL_inj a2.2.1 b2.2.1 w2, numL_inj a2.2.2.1 b2.2.2.1 w3, numL_inj a2.2.2.2 b2.2.2.2 w4, quoteL_inj w5,
        numL_inj a3.1 b3.1 w6, numL_inj a3.2.1 b3.2.1 w7, numL_inj a3.2.2.1 b3.2.2.1 w8, numL_inj a3.2.2.2.1 b3.2.2.2.1 w9, numL_inj a3.2.2.2.2.1 b3.2.2.2.2.1 w10, numL_inj a3.2.2.2.2.2 b3.2.2.2.2.2 w11, pcs_inj a4 b4 w12]
end Go.Proofs.YtdfkbahlngijcaaDoor

namespace Go.Proofs.YtdfkbahlngijcaaDoor
open Go.RowKit
set_option linter.unusedVariables false

def fS (x : List UInt8) : List Value := [.string ⟨x.toArray⟩]
theorem fS_len (x : List UInt8) : (fS x).length = 1 := rfl
theorem infoStr : (Tryd.prog.info? 9).map (fun i => (i.zero, i.size, i.bytes)) = some (some (.string ByteArray.empty), 1, 16) := by kernel_rfl
theorem flatS_one (x : List UInt8) : flatR fS [x] = fS x := by simp [flatR]
theorem flatS_app (a b : List (List UInt8)) : flatR fS (a ++ b) = flatR fS a ++ flatR fS b := by simp [flatR]
/-- the variable out: a slice of strings in a cell -/
structure OutS (B bO : Nat) (v : Value) (ws : List (List UInt8)) (w : World) : Prop where
  out : w.heap[bO]? = some (.cells #[v] 59 (0, 0))
  own : w.ownsRow B 9 1 v ws.length (flatR fS ws)
theorem OutS.below {B bO : Nat} {v : Value} {ws : List (List UInt8)} {w w' : World} (h : OutS B bO v ws w) (hb : Below w.heap.size w w') : OutS B bO v ws w' :=
  ⟨block_below hb h.out (block_lt h.out), own_below h.own hb⟩
/-- blocks of another type stay where a row of the call's own grows -/
theorem keep_append {w w1 w' : World} {B k n i : Nat} {t T : TypeId} {v : Value} {xs : List Value} {cs : Array Value} {fr : Nat × Nat} (h : w.ownsRow B t k v n xs) (hx : w.heap[i]? = some (.cells cs T fr)) (ht : t ≠ T) (hg : w1.grownBy w' v.ownBlock) (e : w1.heap[i]? = some (.cells cs T fr)) : w'.heap[i]? = some (.cells cs T fr) := by
  rw [hg.block i (block_lt e) (fun e' => by
    obtain ⟨-, c1, h1⟩ := own_typ1 h e'.symm
    rw [hx] at h1
    injection h1 with h1
    injection h1 with _ h2 _
    exact ht h2.symm)]
  exact e
theorem ne_of_ty {w : World} {b b' : Nat} {c c' : Array Value} {T T' : TypeId} {fr fr' : Nat × Nat} (h : w.heap[b]? = some (.cells c T fr)) (h' : w.heap[b']? = some (.cells c' T' fr')) (ht : T ≠ T') : b ≠ b' := by
  intro e
  subst e
  rw [h] at h'
  injection h' with h'
  injection h' with _ h2 _
  exact ht h2
theorem own_set {w : World} {B s n b : Nat} {t T : TypeId} {v : Value} {xs : List Value} {cs : Array Value} {fr : Nat × Nat} (h : w.ownsRow B t s v n xs) (hx : w.heap[b]? = some (.cells cs T fr)) (ht : t ≠ T) (i : Nat) (x : Value) : (w.setCell ⟨b, i, none⟩ x).ownsRow B t s v n xs := by
  obtain ⟨h0, h | ⟨g, cap', cur, h1, hg, h2, h3⟩⟩ := h
  · exact ⟨h0, .inl h⟩
  · exact ⟨h0, .inr ⟨g, cap', cur, h1, hg, block_setCell_other h2 (p := ⟨b, i, none⟩) (Ne.symm (ne_of_ty h2 hx ht)) x, h3⟩⟩
def PutPost (B bO : Nat) (ws : List (List UInt8)) (l : List Int) (w : World) (e : Ending) (w' : World) : Prop :=
  e = .returned (.bool (allOK l)) ∧ Below B w w' ∧ (allOK l = true → ∃ v, OutS B bO v (ws ++ l.map numL) w')
theorem allOK_at {l : List Int} {j : Nat} (h : j < l.length) : allOK (l.take (j + 1)) = (allOK (l.take j) && decide (numOK l[j])) := by
  unfold allOK
  rw [List.take_succ_eq_append_getElem h, List.all_append]
  simp
theorem allOK_no {l : List Int} {j : Nat} (h : j < l.length) (hn : ¬ numOK l[j]) : allOK l = false := by
  unfold allOK
  rw [List.all_eq_false]
  exact ⟨l[j], List.getElem_mem h, by simp [hn]⟩
theorem int_cell {w : World} {ba : Nat} {l : List Int} {t : TypeId} (h : w.heap[ba]? = some (.cells (l.map (Value.int .i64)).toArray t (0, 0))) {j : Nat} (hj : j < l.length) : w.cell? ⟨ba, j, none⟩ = some (.int .i64 l[j]) := by
  rw [block_cell h]
  simp [hj]

set_option maxRecDepth 100000 in
set_option maxHeartbeats 8000000 in
theorem put_any (B bO ba c : Nat) (v : Value) (ws : List (List UInt8)) (l : List Int) (w0 w : World) (hO : OutS B bO v ws w) (hA : w.heap[ba]? = some (.cells (l.map (Value.int .i64)).toArray 3 (0, 0))) (hB0 : w0.heap.size ≤ B) (hbo : B ≤ bO) (hBw : B ≤ w.heap.size) (hb0 : Below w0.heap.size w0 w) (ht : Tab w0) (hw : ws.length ≤ 100) (hl : l.length ≤ 100) :
    Calls Tryd.prog 28 #[.slice (some ⟨ba, 0, none⟩) l.length c, .pointer (some ⟨bO, 0, none⟩)] w (PutPost B bO ws l w) := by
  obtain ⟨i0, hi0, hz0, hz1, hz2⟩ := info_parts infoStr
  have HO := Lib.hid hO
  have HA := Lib.hid hA
  have HB0 := Lib.hid hb0
  have HT := Lib.hid ht
  have hpos : ∀ m : Nat, (0 : Int) ≤ (m : Int) := fun m => by omega
  clear hO hA hb0 ht
  go_enter Tryd.func28, Tryd.ntmps28
  go_wp2_with fail
  go_loopw [8] (fun s wr => ∃ (j : Nat) (v : Value), j ≤ l.length ∧ s = .int .i64 j ∧ allOK (l.take j) = true ∧ OutS B bO v (ws ++ (l.take j).map numL) wr ∧ wr.heap[ba]? = some (.cells (l.map (Value.int .i64)).toArray 3 (0, 0)) ∧ Below B w wr) (fun s _ => l.length - (intOf s).toNat)
  case atStart => exact ⟨0, v, Nat.zero_le _, rfl, rfl, by simpa using HO.out, HA.out, Below.refl _ _⟩
  case round =>
    obtain ⟨j, v1, hj, rfl, hok, hO1, hA1, hbr⟩ := hrel
    have HO1 := Lib.hid hO1
    have HA1 := Lib.hid hA1
    have HBR := Lib.hid hbr
    have HOK := Lib.hid hok
    have hszr := hbr.size
    have hlen : (ws ++ (l.take j).map numL).length ≤ 200 := by simp; omega
    have HTR := Lib.hid (fun (u : World) (hu : Below wr.heap.size wr u) => show Tab u from HT.out.below (HB0.out.trans ((HBR.out.mono hB0).trans (hu.mono (by have := HB0.out.size; omega)))))
    clear hO1 hbr hok
    by_cases hlt : j < l.length
    · have hj1 : (j : Int) < (l.length : Int) := by omega
      have hj0 : (0 : Int) ≤ (j : Int) := by omega
      have ca := int_cell hA1 hlt
      have HNO := Lib.hid (fun hn : ¬ numOK l[j] => allOK_no hlt hn)
      have HST := Lib.hid (allOK_at hlt)
      have HTK := Lib.hid (List.take_succ_eq_append_getElem hlt)
      clear hA1
      generalize l[j] = x at *
      by_cases h0 : x < 0
      · have HF := Lib.hid (HNO.out fun h => by have := h.1; omega)
        go_wp2_with fail
        go_ret
        exact ⟨by rw [HF.out] <;> rfl, HBR.out, fun h => by rw [HF.out] at h; cases h⟩
      · by_cases h1 : 9999999999 < x
        · have HF := Lib.hid (HNO.out fun h => by have := h.2; omega)
          go_wp2_with fail
          go_ret
          exact ⟨by rw [HF.out] <;> rfl, HBR.out, fun h => by rw [HF.out] at h; cases h⟩
        · obtain ⟨m, rfl⟩ : ∃ m : Nat, x = m := ⟨x.toNat, by omega⟩
          have hm : m ≤ 9999999999 := by omega
          have HOK2 := Lib.hid (show allOK (l.take (j + 1)) = true by
            rw [HST.out, HOK.out, decide_eq_true (show numOK (m : Int) from ⟨by omega, by omega⟩)]; rfl)
          have HW2 := Lib.hid (show ws ++ (l.take (j + 1)).map numL = (ws ++ (l.take j).map numL) ++ [Lib.decDigits m] by
            rw [HTK.out, List.map_append, ← List.append_assoc]
            congr 1
            show [numL (m : Int)] = _
            unfold numL
            rw [if_pos (show numOK (m : Int) from ⟨by omega, by omega⟩)]
            rfl)
          have HIT := Lib.hid (fun (u : World) (hu : Below wr.heap.size wr u) => itoa_nat m (by omega) u (HTR.out u hu))
          have cO := block_cell HO1.out.out 0
          have fO := block_free HO1.out.out 0
          simp at cO
          generalize hws : ws ++ (l.take j).map numL = ws1 at *
          clear HNO HST HTK hws
          have hBr : B ≤ wr.heap.size := by omega
          go_wp2_with fail
          go_region_law (first
            | (go_simp; go_at_call 27; refine (HIT.out wr.drew (Below.refl _ _).drew).mono ?_; rintro e w3 ⟨rfl, hb3'⟩; have hb3 : Below wr.heap.size wr w3 := (Below.refl _ wr).drew.trans hb3'; have HO3 := Lib.hid (HO1.out.below hb3); have HA3 := Lib.hid (block_below hb3 HA1.out (block_lt HA1.out)); have cO3 : w3.cell? ⟨bO, 0, none⟩ = some v1 := block_cell HO3.out.out 0; have cA3 : (w3.alloc (.cells #[.string ⟨(Lib.decDigits m).toArray⟩] 9)).cell? ⟨bO, 0, none⟩ = some v1 := block_cell (block_alloc HO3.out.out _) 0; have hsz3 : wr.heap.size ≤ w3.heap.size := hb3.size; have HB3 := Lib.hid (HBR.out.trans (hb3.mono hBr)); clear hb3 hb3')
            | (refine step_append_lies _ (by rfl) _ _ _ (by rfl) B 9 i0 _ 1 16 Tryd.underlying59 hi0 hz0 hz1 hz2 rfl (by decide) v1 ws1.length _ (by rfl) (by first | exact HO3.out.own.alloc _ | exact (HO3.out.own.alloc _).drew) ⟨w3.heap.size, 0, none⟩ 1 1 [_] (by rfl) (by rfl) (World.news_of_block (cs := #[_]) (t := 9) (fr := (0, 0)) (heap_alloc_new w3 _)) (by simp [Value.oneCell']) (by omega) (by unfold maxLen; omega) (by omega) (by simp; omega) (w3.heap.size + 1) (by simp) ?_; intro gg cap w4 hown4 hgrow4 hat4 hlt4; have k4 : w4.heap[bO]? = some (.cells #[v1] 59 (0, 0)) := keep_append HO3.out.own HO3.out.out (by decide) hgrow4 (block_alloc HO3.out.out _); have cO4 : w4.cell? ⟨bO, 0, none⟩ = some v1 := block_cell k4 0; have fO4 : w4.frozen? ⟨bO, 0, none⟩ = false := block_free k4 0; have K4 := Lib.hid k4; clear k4))
          all_goals
            have hA4 := keep_append HO3.out.own HA3.out (by decide) hgrow4 (block_alloc HA3.out _)
            have HO5 := Lib.hid (show OutS B bO (.slice (some ⟨gg, 0, none⟩) (ws1.length + 1) cap) (ws1 ++ [Lib.decDigits m]) (w4.setCell ⟨bO, 0, none⟩ (.slice (some ⟨gg, 0, none⟩) (ws1.length + 1) cap)) from
              ⟨block_setCell K4.out 0 _, own_set (by rw [flatS_app, flatS_one, List.length_append]; exact hown4) K4.out (by decide) 0 _⟩)
            have HA5 := Lib.hid (block_setCell_other hA4 (p := ⟨bO, 0, none⟩) (ne_of_ty K4.out hA4 (by decide)) (.slice (some ⟨gg, 0, none⟩) (ws1.length + 1) cap))
            have HB4 : Below B w w4 := by first | exact (HB3.out.alloc (by omega) _).grown hgrow4 (by simp; omega) fun q hq => (own_typ1 HO3.out.own hq).1 | exact (HB3.out.alloc (by omega) _).drew.grown hgrow4 (by simp; omega) fun q hq => (own_typ1 HO3.out.own hq).1
            have HB5 := Lib.hid (HB4.setCell (p := ⟨bO, 0, none⟩) hbo (.slice (some ⟨gg, 0, none⟩) (ws1.length + 1) cap))
            clear HB4 hA4 hown4 hgrow4 hat4 hlt4 HO3 HA3 HB3 K4 cO3 cA3 cO4 fO4
            go_wp2_with fail
            go_roundw
            case rel => exact ⟨j + 1, _, by omega, by go_num, HOK2.out, by rw [HW2.out]; exact HO5.out, HA5.out, HB5.out⟩
            case measure => simp [intOf]; omega
    · obtain rfl : j = l.length := by omega
      have HALL := Lib.hid (show allOK l = true by have := HOK.out; rw [List.take_of_length_le (Nat.le_refl _)] at this; exact this)
      have HOE := Lib.hid (show OutS B bO v1 (ws ++ l.map numL) wr by have := HO1.out; rw [List.take_of_length_le (Nat.le_refl _)] at this; exact this)
      have hj1 : ¬ ((l.length : Int) < (l.length : Int)) := by omega
      go_wp2_with fail
      go_ret
      exact ⟨by rw [HALL.out] <;> rfl, HBR.out, fun _ => ⟨_, HOE.out⟩⟩
end Go.Proofs.YtdfkbahlngijcaaDoor

namespace Go.Proofs.YtdfkbahlngijcaaDoor
open Go.RowKit
set_option linter.unusedVariables false

theorem join_is : ∀ ws : List (List UInt8), Lib.join ws [32] = joinW ws
  | [] => rfl
  | [x] => Lib.join_one x [32]
  | x :: y :: r => by
    have ih := join_is (y :: r)
    rw [Lib.join_cons] at ih ⊢
    show x ++ Lib.joinTail [32] (y :: r) = x ++ 32 :: joinW (y :: r)
    rw [← ih]
    rfl
theorem joinW_most : ∀ (ws : List (List UInt8)) (k : Nat), (∀ x ∈ ws, x.length ≤ k) → (joinW ws).length ≤ ws.length * (k + 1)
  | [], _, _ => Nat.zero_le _
  | [x], k, h => by
    have := h x (List.mem_cons_self ..)
    show x.length ≤ 1 * (k + 1)
    omega
  | x :: y :: r, k, h => by
    have h1 := h x (List.mem_cons_self ..)
    have h2 := joinW_most (y :: r) k fun z hz => h z (List.mem_cons_of_mem _ hz)
    show (x ++ 32 :: joinW (y :: r)).length ≤ ((y :: r).length + 1) * (k + 1)
    rw [List.length_append, List.length_cons, Nat.add_mul]
    omega
def itemV (r : Rs) (ao : Option Addr) (n c : Nat) : Array Value := #[.int .u8 r.ik, .int .i64 r.fr, .int .i64 r.tu, .slice ao n c]
structure ResS (r : Rs) (ao : Option Addr) (n c : Nat) (w0 : World) (v : Value) (ws : List (List UInt8)) (w : World) : Prop where
  box : w.heap[w0.heap.size]? = some (.cells (rsV r ao n c) 29 (0, 0))
  item : w.heap[w0.heap.size + 1]? = some (.cells (itemV r ao n c) 27 (0, 0))
  out : OutS (w0.heap.size + 2) (w0.heap.size + 3) v ws w
  low : Below w0.heap.size w0 w
  size : w0.heap.size + 4 ≤ w.heap.size
theorem ResS.kept {r : Rs} {ao : Option Addr} {n c : Nat} {w0 w w' : World} {v v' : Value} {ws ws' : List (List UInt8)} (h : ResS r ao n c w0 v ws w) (hb : Below (w0.heap.size + 2) w w') (ho : OutS (w0.heap.size + 2) (w0.heap.size + 3) v' ws' w') : ResS r ao n c w0 v' ws' w' :=
  ⟨by rw [hb.block _ (by omega)]; exact h.box, by rw [hb.block _ (by omega)]; exact h.item, ho, h.low.trans (hb.mono (by omega)), by have := hb.size; have := h.size; omega⟩
theorem ResS.later {r : Rs} {ao : Option Addr} {n c : Nat} {w0 w w' : World} {v : Value} {ws : List (List UInt8)} (h : ResS r ao n c w0 v ws w) (hb : Below w.heap.size w w') : ResS r ao n c w0 v ws w' :=
  h.kept (hb.mono (by have := h.size; omega)) (h.out.below hb)
theorem ResS.alloc {r : Rs} {ao : Option Addr} {n c : Nat} {w0 w : World} {v : Value} {ws : List (List UInt8)} (h : ResS r ao n c w0 v ws w) (o : Obj) : ResS r ao n c w0 v ws (w.alloc o) := h.later ((Below.refl _ _).alloc (Nat.le_refl _) o)
theorem ResS.drew {r : Rs} {ao : Option Addr} {n c : Nat} {w0 w : World} {v : Value} {ws : List (List UInt8)} (h : ResS r ao n c w0 v ws w) : ResS r ao n c w0 v ws w.drew := h.later (Below.refl _ _).drew


set_option maxRecDepth 100000 in
set_option maxHeartbeats 4000000 in
theorem result_err (r : Rs) (ao : Option Addr) (n c : Nat) (w : World) (hl : r.d.length = n) (ht : Tab w) (he : r.e ≠ 0) :
    Calls Tryd.prog 12 #[.agg (rsV r ao n c)] w fun e w' => e = .returned (.tuple #[.string ⟨(resR r).1.toArray⟩, .int .i64 (resR r).2]) ∧ Below w.heap.size w w' := by
  have HB := Lib.hid ((Below.refl w.heap.size w).alloc (Nat.le_refl _) (.cells (rsV r ao n c) 29))
  have HE := Lib.hid (empty_any r ao n c hl (w.alloc (.cells (rsV r ao n c) 29)))
  have HT := Lib.hid ht
  obtain ⟨e, rev, sl, a, gr, t, mb, mr, ml, ik, fr, tu, d⟩ := r
  simp only [rsV] at HB HE hl he ⊢
  have he2 : (e == 0) = false := by rw [beq_eq_false_iff_ne]; exact he
  clear ht
  by_cases h0 : e < 0
  · have HR := Lib.hid (show resR ⟨e, rev, sl, a, gr, t, mb, mr, ml, ik, fr, tu, d⟩ = ([], 2) by
      unfold resR; rw [if_pos he, if_pos (.inl h0)])
    clear he HE
    go_enter Tryd.func12, Tryd.ntmps12
    go_wp2_with fail
    go_ret2
    exact ⟨by rw [HR.out] <;> rfl, HB.out⟩
  · rcases hz : zeroR ⟨e, rev, sl, a, gr, t, mb, mr, ml, ik, fr, tu, d⟩ with _ | _
    · have HR := Lib.hid (show resR ⟨e, rev, sl, a, gr, t, mb, mr, ml, ik, fr, tu, d⟩ = ([], 2) by
        unfold resR; rw [if_pos he, if_pos (.inr (.inl hz))])
      rw [hz] at HE
      clear he hz
      go_enter Tryd.func12, Tryd.ntmps12
      go_wp2_with fail
      refine (HE.out).mono ?_; rintro e1 w1 ⟨rfl, hb1⟩
      have HB1 := Lib.hid (below_two HB.out hb1)
      clear hb1 HE
      go_wp2_with fail
      go_ret2
      exact ⟨by rw [HR.out] <;> rfl, HB1.out⟩
    · have HBX := Lib.hid (block_new w (.cells #[.int .i64 e, .int .i64 rev, .int .i64 sl, .int .i64 a, .int .u8 gr, .string t, .int .i64 mb, .int .i64 mr, .int .i64 ml, .int .u8 ik, .int .i64 fr, .int .i64 tu, .slice ao n c] 29))
      rw [hz] at HE
      by_cases h1 : 9999999999 < e
      · have HR := Lib.hid (show resR ⟨e, rev, sl, a, gr, t, mb, mr, ml, ik, fr, tu, d⟩ = ([], 2) by
          unfold resR; rw [if_pos he, if_pos (.inr (.inr h1))])
        clear he hz
        go_enter Tryd.func12, Tryd.ntmps12
        go_wp2_with fail
        refine (HE.out).mono ?_; rintro e1 w1 ⟨rfl, hb1⟩
        have HB1 := Lib.hid (below_two HB.out hb1)
        have hbx := block_below hb1 HBX.out (block_lt HBX.out)
        have q0 := block_cell hbx 0
        simp at q0
        clear hb1 HE hbx
        go_wp2_with fail
        go_ret2
        exact ⟨by rw [HR.out] <;> rfl, HB1.out⟩
      · obtain ⟨m, rfl⟩ : ∃ m : Nat, e = m := ⟨e.toNat, by omega⟩
        have HR := Lib.hid (show resR ⟨(m : Int), rev, sl, a, gr, t, mb, mr, ml, ik, fr, tu, d⟩ = ([101, 114, 114, 111, 114, 32] ++ Lib.decDigits m, 0) by
          unfold resR
          rw [if_pos he, if_neg (by rintro (k | k | k); exact h0 k; rw [hz] at k; cases k; exact h1 k)]
          rfl)
        have hm : m ≤ 9999999999 := by omega
        have hlen := decDigits_len 10 m (by decide) (by omega)
        have hcat : ¬ (9223372036854775807 < (⟨#[101, 114, 114, 111, 114, 32]⟩ : ByteArray).size + (⟨(Lib.decDigits m).toArray⟩ : ByteArray).size) := by
          show ¬ (9223372036854775807 < 6 + (Lib.decDigits m).length)
          omega
        clear he hz
        go_enter Tryd.func12, Tryd.ntmps12
        go_wp2_with fail
        refine (HE.out).mono ?_; rintro e1 w1 ⟨rfl, hb1⟩
        have HB1 := Lib.hid (below_two HB.out hb1)
        have HI := Lib.hid (itoa_nat m (by omega) w1 (HT.out.below HB1.out))
        have hbx := block_below hb1 HBX.out (block_lt HBX.out)
        have q0 := block_cell hbx 0
        simp at q0
        clear hb1 HE hbx
        go_wp2_with fail
        refine (HI.out).mono ?_; rintro e2 w2 ⟨rfl, hb2⟩
        have HB2 := Lib.hid (below_two HB1.out hb2)
        clear hb2
        go_wp2_with fail
        go_ret2
        exact ⟨by rw [HR.out] <;> rfl, HB2.out⟩
end Go.Proofs.YtdfkbahlngijcaaDoor

namespace Go.Proofs.YtdfkbahlngijcaaDoor
open Go.RowKit
set_option linter.unusedVariables false

theorem flatS_map : ∀ ws : List (List UInt8), flatR fS ws = ws.map fun x => Value.string ⟨x.toArray⟩
  | [] => rfl
  | x :: l => by rw [show x :: l = [x] ++ l from rfl, flatS_app, flatS_map l, flatS_one]; rfl
theorem join_row {B : Nat} {v : Value} {ws : List (List UInt8)} {w : World} (h : w.ownsRow B 9 1 v ws.length (flatR fS ws)) (hne : 0 < ws.length) (hN : ws.length ≤ 1000) (hlen : (joinW ws).length ≤ 140737488355328) :
    Calls Tryd.prog 31 #[v, .string ⟨#[32]⟩] w fun e w' => e = .returned (.string ⟨(joinW ws).toArray⟩) ∧ Below w.heap.size w w' := by
  rcases h with ⟨_, ⟨_, h⟩ | ⟨g, cap, cur, rfl, hb, hg, hcap, hm, hs, htk⟩⟩
  · omega
  · have hl : (ws.map fun x => (⟨x.toArray⟩ : ByteArray)).length = ws.length := List.length_map ..
    have hmap : (ws.map fun x => (⟨x.toArray⟩ : ByteArray)).map (·.data.toList) = ws := by
      rw [List.map_map]
      conv => rhs; rw [← List.map_id ws]
      rfl
    have hfl := flatS_map ws
    have hJ := Tryd.strings_Join g 0 cap (ws.map fun x => (⟨x.toArray⟩ : ByteArray)) ⟨#[32]⟩ w (fun j x hj => by
      rw [block_cell hg, Nat.zero_add]
      rw [hfl] at htk
      have hjl : j < ws.length := by
        have := (List.getElem?_eq_some_iff.1 hj).1
        omega
      have e := congrArg (fun l => l[j]?) htk
      rw [List.getElem?_take_of_lt (by omega), Array.getElem?_toList] at e
      rw [e]
      rw [List.getElem?_map] at hj ⊢
      rcases hw : ws[j]? with _ | y
      · rw [hw] at hj; cases hj
      · rw [hw] at hj
        obtain rfl := Option.some.inj hj
        rfl) (block_lt hg) (by rw [hl]; omega) (by rw [hl]; exact hcap) (by
      rw [hmap]
      show (Lib.join ws [32]).length ≤ _
      rw [join_is]; exact hlen)
    rw [hl, hmap] at hJ
    have e : Lib.join ws (⟨#[32]⟩ : ByteArray).data.toList = joinW ws := join_is ws
    rw [e] at hJ
    exact hJ
theorem numL_len (v : Int) : (numL v).length ≤ 10 := by
  unfold numL
  by_cases h : numOK v
  · rw [if_pos h]
    obtain ⟨h1, h2⟩ := h
    exact decDigits_len 10 _ (by decide) (by omega)
  · rw [if_neg h]
    exact Nat.zero_le _
theorem words_len (r : Rs) (ht : r.t.size ≤ 1000000) (hc : checkP r.d = 0) : (joinW (wordsR r)).length ≤ 100000000 ∧ (wordsR r).length ≤ 13 := by
  have h13 : (wordsR r).length ≤ 13 := by
    unfold wordsR
    simp only [List.length_append, List.length_map, List.length_singleton]
    have h1 : (nums1 r).length = 4 := rfl
    have h2 : (nums2 r).length = 6 := rfl
    by_cases hd : textL r.d = []
    · rw [if_pos hd, h1, h2]; simp
    · rw [if_neg hd, h1, h2]; simp
  have hq := quote_len r.t
  have htx := text_short hc r.d.length
  rw [List.take_length] at htx
  have hk : ∀ x ∈ wordsR r, x.length ≤ 3000001 := by
    intro x hx
    unfold wordsR at hx
    simp only [List.mem_append, List.mem_map, List.mem_singleton] at hx
    rcases hx with (((rfl | ⟨v, _, rfl⟩) | rfl) | ⟨v, _, rfl⟩) | hx
    · show 2 ≤ _; omega
    · have := numL_len v; omega
    · omega
    · have := numL_len v; omega
    · by_cases hd : textL r.d = []
      · rw [if_pos hd] at hx; exact absurd hx List.not_mem_nil
      · rw [if_neg hd, List.mem_singleton] at hx
        subst hx; omega
  have h := joinW_most (wordsR r) 3000001 hk
  refine ⟨Nat.le_trans h ?_, h13⟩
  have := Nat.mul_le_mul_right (3000001 + 1) h13
  omega
theorem ResS.low_of {r : Rs} {ao : Option Addr} {n c : Nat} {w0 w : World} {v : Value} {ws : List (List UInt8)} (h : ResS r ao n c w0 v ws w) : Below w0.heap.size w0 w := h.low
/-- the world in which put is called first -/
def resW (r : Rs) (ao : Option Addr) (n c : Nat) (w : World) : World :=
  (((w.alloc (.cells (rsV r ao n c) 29)).alloc (.cells (itemV r ao n c) 27)).alloc (.cells #[.string ⟨#[111, 107]⟩] 9)).alloc (.cells #[.slice (some ⟨w.heap.size + 2, 0, none⟩) 1 1] 59)
theorem resW_is (r : Rs) (ao : Option Addr) (n c : Nat) (w : World) : ResS r ao n c w (.slice (some ⟨w.heap.size + 2, 0, none⟩) 1 1) [[111, 107]] (resW r ao n c w) := by
  unfold resW
  refine ⟨block_alloc (block_alloc (block_alloc (block_new _ _) _) _) _, block_alloc (block_alloc (block_new' _ _ _ (by simp)) _) _, ⟨block_new' _ _ _ (by simp), ?_⟩, ((((Below.refl _ w).alloc (Nat.le_refl _) _).alloc (by simp) _).alloc (by simp; omega) _).alloc (by simp; omega) _, by simp⟩
  exact ⟨rfl, .inr ⟨w.heap.size + 2, 1, #[.string ⟨#[111, 107]⟩], rfl, Nat.le_refl _, block_alloc (block_new' _ _ _ (by simp)) _, Nat.le_refl _, by decide, rfl, rfl⟩⟩
/-- put at a state of Result, with its numbers in a block of their own -/
theorem put_at {r : Rs} {ao : Option Addr} {n c : Nat} {w0 w : World} {v : Value} {ws : List (List UInt8)} (h : ResS r ao n c w0 v ws w) (ht : Tab w0) (hw : ws.length ≤ 100) (l : List Int) (hl : l.length ≤ 100) (cs : Array Value) (hcs : cs = (l.map (Value.int .i64)).toArray) (b k : Nat) (hb : b = w.heap.size) (hk : k = l.length) :
    Calls Tryd.prog 28 #[.slice (some ⟨b, 0, none⟩) k k, .pointer (some ⟨w0.heap.size + 3, 0, none⟩)] (w.alloc (.cells cs 3)) fun e w' =>
      e = .returned (.bool (allOK l)) ∧ Below w0.heap.size w0 w' ∧ (allOK l = true → ∃ v', ResS r ao n c w0 v' (ws ++ l.map numL) w') := by
  subst hb
  subst hcs
  subst hk
  have hA := h.alloc (.cells (l.map (Value.int .i64)).toArray 3)
  have hs := h.size
  refine (put_any (w0.heap.size + 2) (w0.heap.size + 3) w.heap.size l.length v ws l w0 _ hA.out (block_new _ _) (by omega) (by omega) (by simp; omega) hA.low ht hw hl).mono ?_
  rintro e w' ⟨rfl, hb, ho⟩
  refine ⟨rfl, hA.low.trans (hb.mono (by omega)), fun hk => ?_⟩
  obtain ⟨v', hv⟩ := ho hk
  exact ⟨v', hA.kept hb hv⟩

end Go.Proofs.YtdfkbahlngijcaaDoor

