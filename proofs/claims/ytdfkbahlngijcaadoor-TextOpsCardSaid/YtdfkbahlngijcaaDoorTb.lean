/- Pieces of a delta: plain model; valid, sizes, Lengths, Check; the reference's Piece and Check. -/
import Derived.Test.YtdfkbahlngijcaaDoorRow
import Derived.Test.YtdfkbahlngijcaaDoorRegU
import Derived.Deep.QuietTactic
import Derived.BigQuiet
import Derived.BigRegion
import Derived.OwnWalk
namespace Go.Proofs.YtdfkbahlngijcaaDoor
open Go.RowKit
set_option linter.unusedVariables false

theorem below_two {w w1 w2 : World} (h : Below w.heap.size w w1) (k : Below w1.heap.size w1 w2) : Below w.heap.size w w2 := h.trans (k.mono h.size)
theorem below_drewN {B : Nat} {w w1 : World} (h : Below B w w1) (n : Nat) : Below B w (w1.drewN n) := ⟨h.os, h.tape, h.output, h.size, h.block⟩
structure Pc where
  k : Int
  n : Int
  t : ByteArray
def fP (p : Pc) : List Value := [.int .u8 p.k, .int .i64 p.n, .string p.t]
theorem fP_len (p : Pc) : (fP p).length = 3 := rfl
def okP (p : Pc) : Bool := ((p.k == 1 || p.k == 3) && decide (1 ≤ p.n) && decide (p.t.size = 0)) || (p.k == 2 && p.n == 0 && decide (p.t.size ≠ 0))
def inP (p : Pc) : Int := if p.k = 1 then p.n else if p.k = 3 then p.n else 0
def outP (p : Pc) : Int := if p.k = 1 then p.n else if p.k = 3 then 0 else p.t.size
def lenL : Int → Int → List Pc → Int × Int × Int
  | i, o, [] => (i, o, 0)
  | i, o, p :: l => if okP p = false then (0, 0, 2) else if 1048576 - i < inP p ∨ 1048576 - o < outP p then (0, 0, 5) else lenL (i + inP p) (o + outP p) l
def lengthsP (l : List Pc) : Int × Int × Int := if 4096 < l.length then (0, 0, 5) else lenL 0 0 l
def checkP (l : List Pc) : Int := (lengthsP l).2.2
theorem lenL_step {i o : Int} {l : List Pc} {j : Nat} (hj : j < l.length) : lenL i o (l.drop j) = if okP l[j] = false then (0, 0, 2) else if 1048576 - i < inP l[j] ∨ 1048576 - o < outP l[j] then (0, 0, 5) else lenL (i + inP l[j]) (o + outP l[j]) (l.drop (j + 1)) := by
  rw [List.drop_eq_getElem_cons hj]
  rfl
theorem okP_cases {p : Pc} (h : okP p = true) : (p.k = 1 ∧ 1 ≤ p.n ∧ p.t.size = 0) ∨ (p.k = 3 ∧ 1 ≤ p.n ∧ p.t.size = 0) ∨ (p.k = 2 ∧ p.n = 0 ∧ p.t.size ≠ 0) := by
  unfold okP at h
  simp only [Bool.or_eq_true, Bool.and_eq_true, beq_iff_eq, decide_eq_true_eq] at h
  rcases h with ⟨⟨h1 | h1, h2⟩, h3⟩ | ⟨⟨h1, h2⟩, h3⟩
  · exact .inl ⟨h1, h2, h3⟩
  · exact .inr (.inl ⟨h1, h2, h3⟩)
  · exact .inr (.inr ⟨h1, h2, h3⟩)
theorem str_empty {t : ByteArray} (h : t.size = 0) : t = ⟨#[]⟩ := by
  obtain ⟨a⟩ := t
  have : a = #[] := Array.eq_empty_of_size_eq_zero h
  rw [this]
theorem str_some {t : ByteArray} (h : t.size ≠ 0) : t.toList.isEmpty = false := by
  rw [ByteArray.toList_eq]
  rcases hh : t.data.toList with _ | _
  · exact absurd (by show t.data.size = 0; rw [← Array.length_toList, hh]; rfl) h
  · rfl
theorem row_at {α : Type} {f : α → List Value} {s : Nat} (hf : ∀ x, (f x).length = s) {w : World} {l : List α} {b off : Nat} (h : ∀ j u, (flatR f l)[j]? = some u → w.cell? ⟨b, off + j, none⟩ = some u) (k : Nat) (hk : k < l.length) (i : Nat) (u : Value) (hi : (f l[k])[i]? = some u) : w.cell? ⟨b, off + k * s + i, none⟩ = some u := by
  have hi' : i < s := by
    have := (List.getElem?_eq_some_iff.1 hi).1
    rw [hf] at this; exact this
  have := h (k * s + i) u (by rw [flatR_at hf l k i hk hi']; exact hi)
  rw [← Nat.add_assoc] at this
  exact this
/-- piece j of a row of pieces -/
theorem IsR.pc {w w' : World} {ao : Option Addr} {len : Nat} {l : List Pc} (h : IsR fP w ao len l) (hb : Below w.heap.size w w') {j : Nat} (hj : j < len) :
    ∃ bb off, ao = some ⟨bb, off, none⟩ ∧ bb < w.heap.size ∧ ∀ hl : j < l.length, w'.cell? ⟨bb, off + j * 3, none⟩ = some (.int .u8 l[j].k) ∧ w'.cell? ⟨bb, off + j * 3 + 1, none⟩ = some (.int .i64 l[j].n) ∧ w'.cell? ⟨bb, off + j * 3 + 2, none⟩ = some (.string l[j].t) := by
  obtain ⟨bb, off, e, hbb, hc⟩ := h.2 (by omega)
  refine ⟨bb, off, e, hbb, fun hl => ?_⟩
  have hat := row_at fP_len (f := fP) (l := l) hc j hl
  have g := fun i (u : Value) (hi : (fP l[j])[i]? = some u) => (hb.cell (p := ⟨bb, off + j * 3 + i, none⟩) hbb).trans (hat i u hi)
  exact ⟨g 0 _ rfl, g 1 _ rfl, g 2 _ rfl⟩

set_option maxRecDepth 100000 in
set_option maxHeartbeats 4000000 in
theorem valid_any (p : Pc) (w : World) :
    Calls Tryd.prog 112 #[.agg #[.int .u8 p.k, .int .i64 p.n, .string p.t]] w fun e w' => e = .returned (.bool (okP p)) ∧ Below w.heap.size w w' := by
  have HB := Lib.hid ((Below.refl w.heap.size w).alloc (Nat.le_refl _) (.cells #[.int .u8 p.k, .int .i64 p.n, .string p.t] 31))
  obtain ⟨k, n, t⟩ := p
  simp only at HB ⊢
  by_cases h1 : k = 1
  · subst h1
    by_cases hn : 1 ≤ n
    · by_cases ht : t.size = 0
      · have HE := Lib.hid (show okP ⟨1, n, t⟩ = true by unfold okP; simp [hn, ht])
        have ht2 := str_empty ht
        subst ht2
        clear ht
        go_enter Tryd.func112, Tryd.ntmps112
        go_wp2_with fail
        go_ret
        exact ⟨by rw [HE.out] <;> rfl, HB.out⟩
      · have HE := Lib.hid (show okP ⟨1, n, t⟩ = false by unfold okP; simp [hn, ht])
        have ht2 := str_some ht
        clear ht
        go_enter Tryd.func112, Tryd.ntmps112
        go_wp2_with fail
        go_ret
        exact ⟨by rw [HE.out] <;> rfl, HB.out⟩
    · have HE := Lib.hid (show okP ⟨1, n, t⟩ = false by unfold okP; simp [hn])
      go_enter Tryd.func112, Tryd.ntmps112
      go_wp2_with fail
      go_ret
      exact ⟨by rw [HE.out] <;> rfl, HB.out⟩
  by_cases h3 : k = 3
  · subst h3
    clear h1
    by_cases hn : 1 ≤ n
    · by_cases ht : t.size = 0
      · have HE := Lib.hid (show okP ⟨3, n, t⟩ = true by unfold okP; simp [hn, ht])
        have ht2 := str_empty ht
        subst ht2
        clear ht
        go_enter Tryd.func112, Tryd.ntmps112
        go_wp2_with fail
        go_ret
        exact ⟨by rw [HE.out] <;> rfl, HB.out⟩
      · have HE := Lib.hid (show okP ⟨3, n, t⟩ = false by unfold okP; simp [hn, ht])
        have ht2 := str_some ht
        clear ht
        go_enter Tryd.func112, Tryd.ntmps112
        go_wp2_with fail
        go_ret
        exact ⟨by rw [HE.out] <;> rfl, HB.out⟩
    · have HE := Lib.hid (show okP ⟨3, n, t⟩ = false by unfold okP; simp [hn])
      go_enter Tryd.func112, Tryd.ntmps112
      go_wp2_with fail
      go_ret
      exact ⟨by rw [HE.out] <;> rfl, HB.out⟩
  by_cases h2 : k = 2
  · subst h2
    clear h1 h3
    by_cases hn : n = 0
    · subst hn
      by_cases ht : t.size = 0
      · have HE := Lib.hid (show okP ⟨2, 0, t⟩ = false by unfold okP; simp [ht])
        have ht2 := str_empty ht
        subst ht2
        clear ht
        go_enter Tryd.func112, Tryd.ntmps112
        go_wp2_with fail
        go_ret
        exact ⟨by rw [HE.out] <;> rfl, HB.out⟩
      · have HE := Lib.hid (show okP ⟨2, 0, t⟩ = true by unfold okP; simp [ht])
        have ht2 := str_some ht
        clear ht
        go_enter Tryd.func112, Tryd.ntmps112
        go_wp2_with fail
        go_ret
        exact ⟨by rw [HE.out] <;> rfl, HB.out⟩
    · have HE := Lib.hid (show okP ⟨2, n, t⟩ = false by unfold okP; simp [hn])
      have hn2 : (n == 0) = false := by rw [beq_eq_false_iff_ne]; exact hn
      clear hn
      go_enter Tryd.func112, Tryd.ntmps112
      go_wp2_with fail
      go_ret
      exact ⟨by rw [HE.out] <;> rfl, HB.out⟩
  have e1 : (k == 1) = false := by rw [beq_eq_false_iff_ne]; exact h1
  have e2 : (k == 2) = false := by rw [beq_eq_false_iff_ne]; exact h2
  have e3 : (k == 3) = false := by rw [beq_eq_false_iff_ne]; exact h3
  have HE := Lib.hid (show okP ⟨k, n, t⟩ = false by unfold okP; simp [h1, h2, h3])
  clear h1 h2 h3
  go_enter Tryd.func112, Tryd.ntmps112
  go_wp2_with fail
  go_ret
  exact ⟨by rw [HE.out] <;> rfl, HB.out⟩

set_option maxRecDepth 100000 in
set_option maxHeartbeats 4000000 in
theorem piece_any (p : Pc) (w : World) :
    Calls Tryd.prog 95 #[.agg #[.int .u8 p.k, .int .i64 p.n, .string p.t]] w fun e w' => e = .returned (.bool (okP p)) ∧ Below w.heap.size w w' := by
  have HB := Lib.hid ((Below.refl w.heap.size w).alloc (Nat.le_refl _) (.cells #[.int .u8 p.k, .int .i64 p.n, .string p.t] 31))
  obtain ⟨k, n, t⟩ := p
  simp only at HB ⊢
  by_cases h1 : k = 1
  · subst h1
    by_cases hn : 1 ≤ n
    · by_cases ht : t.size = 0
      · have HE := Lib.hid (show okP ⟨1, n, t⟩ = true by unfold okP; simp [hn, ht])
        have ht2 := str_empty ht
        subst ht2
        clear ht
        go_enter Tryd.func95, Tryd.ntmps95
        go_wp2_with fail
        go_ret
        exact ⟨by rw [HE.out] <;> rfl, HB.out⟩
      · have HE := Lib.hid (show okP ⟨1, n, t⟩ = false by unfold okP; simp [hn, ht])
        have ht2 := str_some ht
        clear ht
        go_enter Tryd.func95, Tryd.ntmps95
        go_wp2_with fail
        go_ret
        exact ⟨by rw [HE.out] <;> rfl, HB.out⟩
    · have HE := Lib.hid (show okP ⟨1, n, t⟩ = false by unfold okP; simp [hn])
      go_enter Tryd.func95, Tryd.ntmps95
      go_wp2_with fail
      go_ret
      exact ⟨by rw [HE.out] <;> rfl, HB.out⟩
  by_cases h3 : k = 3
  · subst h3
    clear h1
    by_cases hn : 1 ≤ n
    · by_cases ht : t.size = 0
      · have HE := Lib.hid (show okP ⟨3, n, t⟩ = true by unfold okP; simp [hn, ht])
        have ht2 := str_empty ht
        subst ht2
        clear ht
        go_enter Tryd.func95, Tryd.ntmps95
        go_wp2_with fail
        go_ret
        exact ⟨by rw [HE.out] <;> rfl, HB.out⟩
      · have HE := Lib.hid (show okP ⟨3, n, t⟩ = false by unfold okP; simp [hn, ht])
        have ht2 := str_some ht
        clear ht
        go_enter Tryd.func95, Tryd.ntmps95
        go_wp2_with fail
        go_ret
        exact ⟨by rw [HE.out] <;> rfl, HB.out⟩
    · have HE := Lib.hid (show okP ⟨3, n, t⟩ = false by unfold okP; simp [hn])
      go_enter Tryd.func95, Tryd.ntmps95
      go_wp2_with fail
      go_ret
      exact ⟨by rw [HE.out] <;> rfl, HB.out⟩
  by_cases h2 : k = 2
  · subst h2
    clear h1 h3
    by_cases hn : n = 0
    · subst hn
      by_cases ht : t.size = 0
      · have HE := Lib.hid (show okP ⟨2, 0, t⟩ = false by unfold okP; simp [ht])
        have ht2 := str_empty ht
        subst ht2
        clear ht
        go_enter Tryd.func95, Tryd.ntmps95
        go_wp2_with fail
        go_ret
        exact ⟨by rw [HE.out] <;> rfl, HB.out⟩
      · have HE := Lib.hid (show okP ⟨2, 0, t⟩ = true by unfold okP; simp [ht])
        have ht2 := str_some ht
        clear ht
        go_enter Tryd.func95, Tryd.ntmps95
        go_wp2_with fail
        go_ret
        exact ⟨by rw [HE.out] <;> rfl, HB.out⟩
    · have HE := Lib.hid (show okP ⟨2, n, t⟩ = false by unfold okP; simp [hn])
      have hn2 : (n == 0) = false := by rw [beq_eq_false_iff_ne]; exact hn
      clear hn
      go_enter Tryd.func95, Tryd.ntmps95
      go_wp2_with fail
      go_ret
      exact ⟨by rw [HE.out] <;> rfl, HB.out⟩
  have e1 : (k == 1) = false := by rw [beq_eq_false_iff_ne]; exact h1
  have e2 : (k == 2) = false := by rw [beq_eq_false_iff_ne]; exact h2
  have e3 : (k == 3) = false := by rw [beq_eq_false_iff_ne]; exact h3
  have HE := Lib.hid (show okP ⟨k, n, t⟩ = false by unfold okP; simp [h1, h2, h3])
  clear h1 h2 h3
  go_enter Tryd.func95, Tryd.ntmps95
  go_wp2_with fail
  go_ret
  exact ⟨by rw [HE.out] <;> rfl, HB.out⟩

set_option maxRecDepth 100000 in
set_option maxHeartbeats 4000000 in
theorem sizes_any (p : Pc) (w : World) :
    Calls Tryd.prog 113 #[.agg #[.int .u8 p.k, .int .i64 p.n, .string p.t]] w fun e w' => e = .returned (.tuple #[.int .i64 (inP p), .int .i64 (outP p)]) ∧ Below w.heap.size w w' := by
  have HB := Lib.hid ((Below.refl w.heap.size w).alloc (Nat.le_refl _) (.cells #[.int .u8 p.k, .int .i64 p.n, .string p.t] 31))
  have HBN := Lib.hid (fun n => below_drewN HB.out n)
  obtain ⟨k, n, t⟩ := p
  simp only at HB HBN ⊢
  by_cases h1 : k = 1
  · subst h1
    have HE := Lib.hid (show inP ⟨1, n, t⟩ = n ∧ outP ⟨1, n, t⟩ = n from ⟨rfl, rfl⟩)
    go_enter Tryd.func113, Tryd.ntmps113
    go_wp2_with fail
    go_quiet (fail)
    go_wp2_with fail
    go_ret2
    exact ⟨by rw [HE.out.1, HE.out.2] <;> rfl, HBN.out _⟩
  by_cases h3 : k = 3
  · subst h3
    have HE := Lib.hid (show inP ⟨3, n, t⟩ = n ∧ outP ⟨3, n, t⟩ = 0 from ⟨rfl, rfl⟩)
    go_enter Tryd.func113, Tryd.ntmps113
    go_wp2_with fail
    go_ret2
    exact ⟨by rw [HE.out.1, HE.out.2] <;> rfl, HB.out⟩
  have HE := Lib.hid (show inP ⟨k, n, t⟩ = 0 ∧ outP ⟨k, n, t⟩ = t.size by unfold inP outP; simp [h1, h3])
  have e1 : (k == 1) = false := by rw [beq_eq_false_iff_ne]; exact h1
  have e3 : (k == 3) = false := by rw [beq_eq_false_iff_ne]; exact h3
  clear h1 h3
  go_enter Tryd.func113, Tryd.ntmps113
  go_wp2_with fail
  go_quiet (fail)
  go_wp2_with fail
  go_ret2
  exact ⟨by rw [HE.out.1, HE.out.2] <;> rfl, HBN.out _⟩

theorem inP_ok {p : Pc} (h : okP p = true) : 0 ≤ inP p ∧ 0 ≤ outP p := by
  unfold inP outP
  rcases okP_cases h with ⟨h1, h2, -⟩ | ⟨h1, h2, -⟩ | ⟨h1, h2, -⟩ <;> rw [h1] <;> simp <;> omega

set_option maxRecDepth 100000 in
set_option maxHeartbeats 4000000 in
theorem lengths_any (ao : Option Addr) (n c : Nat) (l : List Pc) (w : World) (h : IsR fP w ao n l) (hn63 : n ≤ 9223372036854775807) :
    Calls Tryd.prog 93 #[.slice ao n c] w fun e w' => e = .returned (.tuple #[.int .i64 (lengthsP l).1, .int .i64 (lengthsP l).2.1, .int .i64 (lengthsP l).2.2]) ∧ Below w.heap.size w w' := by
  have hl := h.1
  have HB0 := Lib.hid (Below.refl w.heap.size w)
  by_cases hbig : 4096 < n
  · have HE := Lib.hid (show lengthsP l = (0, 0, 5) by unfold lengthsP; rw [if_pos (by omega)])
    have hb1 : (4096 : Int) < (n : Int) := by omega
    go_enter Tryd.func93, Tryd.ntmps93
    go_wp2_with fail
    go_ret3
    exact ⟨by rw [HE.out] <;> rfl, HB0.out⟩
  · have HE := Lib.hid (show lengthsP l = lenL 0 0 l by unfold lengthsP; rw [if_neg (by omega)])
    have HR := Lib.hid h
    have hb1 : ¬ ((4096 : Int) < (n : Int)) := by omega
    clear h
    go_enter Tryd.func93, Tryd.ntmps93
    go_wp2_with fail
    go_loopw [2, 3, 14] (fun vi vo s wr => ∃ (j : Nat) (i o : Int), j ≤ n ∧ s = .int .i64 j ∧ vi = .int .i64 i ∧ vo = .int .i64 o ∧ 0 ≤ i ∧ i ≤ 1048576 ∧ 0 ≤ o ∧ o ≤ 1048576 ∧ lenL i o (l.drop j) = lenL 0 0 l ∧ Below w.heap.size w wr) (fun _ _ s _ => n - (intOf s).toNat)
    case atStart => exact ⟨0, 0, 0, Nat.zero_le _, rfl, rfl, rfl, by decide, by decide, by decide, by decide, rfl, HB0.out⟩
    case round =>
      obtain ⟨j, i, o, hj, rfl, rfl, rfl, hi0, hi1, ho0, ho1, hle, hbr⟩ := hrel
      have HBR := Lib.hid hbr
      by_cases hlt : j < n
      · have hjl : j < l.length := by omega
        have hj1 : (j : Int) < (n : Int) := by omega
        have hst := lenL_step (i := i) (o := o) hjl
        rw [hle] at hst
        obtain ⟨bb, off, rfl, hbb, hc⟩ := HR.out.pc hbr hlt
        obtain ⟨c0, c1, c2⟩ := hc hjl
        have HST := Lib.hid hst
        have HBP := Lib.hid (HBR.out.alloc HBR.out.size (.cells #[.int .u8 l[j].k, .int .i64 l[j].n, .string l[j].t] 31))
        have HX := Lib.hid (block_new wr (.cells #[.int .u8 l[j].k, .int .i64 l[j].n, .string l[j].t] 31))
        clear hst hle hc hbr
        generalize l[j] = p at *
        have HV := Lib.hid (valid_any p)
        have HSZ := Lib.hid (sizes_any p)
        go_wp2_with fail
        refine (HV.out _).mono ?_; rintro e w1 ⟨rfl, hb1'⟩
        have HB1 := Lib.hid (below_two HBP.out hb1')
        have hx1 := block_below hb1' HX.out (block_lt HX.out)
        have HX1 := Lib.hid hx1
        clear hb1'
        by_cases hv : okP p = true
        · rw [hv]
          have HST2 := Lib.hid (HST.out.trans (if_neg (by rw [hv]; decide)))
          obtain ⟨hp0, hp1⟩ := inP_ok hv
          clear HST hv
          (have q0 := block_cell hx1 0; have q1 := block_cell hx1 1; have q2 := block_cell hx1 2; have f0 := block_free hx1 0; have f1 := block_free hx1 1; have f2 := block_free hx1 2; have hz := block_lt hx1; simp at q0 q1 q2)
          clear hx1 HX
          go_wp2_with fail
          refine (HSZ.out _).mono ?_; rintro e w2 ⟨rfl, hb2⟩
          have HB2 := Lib.hid (below_two HB1.out hb2)
          clear hb2 HV HSZ HX1 HBP HB1 HBR q0 q1 q2 f0 f1 f2 hz c0 c1 c2
          generalize inP p = pi at *
          generalize outP p = po at *
          by_cases hi : 1048576 - i < pi
          · have HE2 := Lib.hid (HST2.out.trans (if_pos (.inl hi)))
            clear HST2
            go_wp2_with fail
            go_ret3
            exact ⟨by rw [HE.out, HE2.out] <;> rfl, HB2.out⟩
          · by_cases ho : 1048576 - o < po
            · have HE2 := Lib.hid (HST2.out.trans (if_pos (.inr ho)))
              clear HST2
              go_wp2_with fail
              go_ret3
              exact ⟨by rw [HE.out, HE2.out] <;> rfl, HB2.out⟩
            · have HE2 := Lib.hid (HST2.out.trans (if_neg (by rintro (h | h) <;> contradiction)))
              clear HST2
              go_wp2_with fail
              go_roundw
              case rel => exact ⟨j + 1, i + pi, o + po, by omega, by go_num, by go_num, by go_num, by omega, by omega, by omega, by omega, HE2.out.symm, HB2.out⟩
              case measure => simp [intOf]; omega
        · have hv' : okP p = false := by simpa using hv
          have HE2 := Lib.hid (HST.out.trans (if_pos hv'))
          rw [hv']
          clear HST hv hv' hx1
          go_wp2_with fail
          go_ret3
          exact ⟨by rw [HE.out, HE2.out] <;> rfl, HB1.out⟩
      · obtain rfl : j = n := by omega
        have HE2 := Lib.hid (show lenL 0 0 l = (i, o, 0) by rw [← hle, List.drop_eq_nil_of_le (by omega)]; rfl)
        clear hle hbr
        go_wp2_with fail
        go_ret3
        exact ⟨by rw [HE.out, HE2.out] <;> rfl, HBR.out⟩

set_option maxRecDepth 100000 in
set_option maxHeartbeats 4000000 in
theorem check_any (ao : Option Addr) (n c : Nat) (l : List Pc) (w : World) (h : IsR fP w ao n l) (hn63 : n ≤ 9223372036854775807) :
    Calls Tryd.prog 66 #[.slice ao n c] w fun e w' => e = .returned (.int .i64 (checkP l)) ∧ Below w.heap.size w w' := by
  have HL := Lib.hid (lengths_any ao n c l w h hn63)
  clear h
  go_enter Tryd.func66, Tryd.ntmps66
  go_wp2_with fail
  refine (HL.out).mono ?_; rintro e w1 ⟨rfl, hb⟩
  have HB := Lib.hid hb
  clear hb
  go_wp2_with fail
  go_ret
  exact ⟨rfl, HB.out⟩

set_option maxRecDepth 100000 in
set_option maxHeartbeats 4000000 in
theorem refCheck_pc (ao : Option Addr) (n c : Nat) (l : List Pc) (w : World) (h : IsR fP w ao n l) (hn63 : n ≤ 9223372036854775807) :
    Calls Tryd.prog 69 #[.slice ao n c] w fun e w' => e = .returned (.int .i64 (checkP l)) ∧ Below w.heap.size w w' := by
  have hl := h.1
  have HB0 := Lib.hid (Below.refl w.heap.size w)
  unfold checkP
  by_cases hbig : 4096 < n
  · have HE := Lib.hid (show lengthsP l = (0, 0, 5) by unfold lengthsP; rw [if_pos (by omega)])
    have hb1 : (4096 : Int) < (n : Int) := by omega
    go_enter Tryd.func69, Tryd.ntmps69
    go_wp2_with fail
    go_ret
    exact ⟨by rw [HE.out] <;> rfl, HB0.out⟩
  · have HE := Lib.hid (show lengthsP l = lenL 0 0 l by unfold lengthsP; rw [if_neg (by omega)])
    have HR := Lib.hid h
    have hb1 : ¬ ((4096 : Int) < (n : Int)) := by omega
    clear h
    go_enter Tryd.func69, Tryd.ntmps69
    go_wp2_with fail
    go_loopw [3, 4, 5] (fun vi vo s wr => ∃ (j : Nat) (i o : Int), j ≤ n ∧ s = .int .i64 j ∧ vi = .int .i64 i ∧ vo = .int .i64 o ∧ 0 ≤ i ∧ i ≤ 1048576 ∧ 0 ≤ o ∧ o ≤ 1048576 ∧ lenL i o (l.drop j) = lenL 0 0 l ∧ Below w.heap.size w wr) (fun _ _ s _ => n - (intOf s).toNat)
    case atStart => exact ⟨0, 0, 0, Nat.zero_le _, rfl, rfl, rfl, by decide, by decide, by decide, by decide, rfl, HB0.out⟩
    case round =>
      obtain ⟨j, i, o, hj, rfl, rfl, rfl, hi0, hi1, ho0, ho1, hle, hbr⟩ := hrel
      have HBR := Lib.hid hbr
      by_cases hlt : j < n
      · have hjl : j < l.length := by omega
        have hj1 : (j : Int) < (n : Int) := by omega
        have hst := lenL_step (i := i) (o := o) hjl
        rw [hle] at hst
        obtain ⟨bb, off, rfl, hbb, hc⟩ := HR.out.pc hbr hlt
        obtain ⟨c0, c1, c2⟩ := hc hjl
        have HST := Lib.hid hst
        have HBP := Lib.hid (HBR.out.alloc HBR.out.size (.cells #[.int .u8 l[j].k, .int .i64 l[j].n, .string l[j].t] 31))
        have HX := Lib.hid (block_new wr (.cells #[.int .u8 l[j].k, .int .i64 l[j].n, .string l[j].t] 31))
        clear hst hle hc hbr
        generalize l[j] = p at *
        have HV := Lib.hid (piece_any p)
        go_wp2_with fail
        refine (HV.out _).mono ?_; rintro e w1 ⟨rfl, hb1'⟩
        have HB1 := Lib.hid (below_two HBP.out hb1')
        have hx1 := block_below hb1' HX.out (block_lt HX.out)
        clear hb1' HV HX HBP HBR c0 c1 c2
        by_cases hv : okP p = true
        · rw [hv]
          have HST2 := Lib.hid (HST.out.trans (if_neg (by rw [hv]; decide)))
          have hcs := okP_cases hv
          clear HST hv
          obtain ⟨pk, pn, pt⟩ := p
          simp only at hcs hx1
          (have q0 := block_cell hx1 0; have q1 := block_cell hx1 1; have q2 := block_cell hx1 2; have f0 := block_free hx1 0; have f1 := block_free hx1 1; have f2 := block_free hx1 2; have hz := block_lt hx1; simp at q0 q1 q2)
          clear hx1
          rcases hcs with ⟨h1, h2, h3⟩ | ⟨h1, h2, h3⟩ | ⟨h1, h2, h3⟩
          · subst h1
            have h3' := str_empty h3
            subst h3'
            have HIO := Lib.hid (show inP ⟨1, pn, ⟨#[]⟩⟩ = pn ∧ outP ⟨1, pn, ⟨#[]⟩⟩ = pn from ⟨rfl, rfl⟩)
            rw [HIO.out.1, HIO.out.2] at HST2
            clear h3
            by_cases hi : 1048576 - i < pn
            · have HE2 := Lib.hid (HST2.out.trans (if_pos (.inl hi)))
              clear HST2
              go_wp2_with fail
              go_ret
              exact ⟨by rw [HE.out, HE2.out] <;> rfl, HB1.out⟩
            · by_cases ho : 1048576 - o < pn
              · have HE2 := Lib.hid (HST2.out.trans (if_pos (.inr ho)))
                clear HST2
                go_wp2_with fail
                go_ret
                exact ⟨by rw [HE.out, HE2.out] <;> rfl, HB1.out⟩
              · have HE2 := Lib.hid (HST2.out.trans (if_neg (by rintro (h | h) <;> contradiction)))
                clear HST2
                go_wp2_with fail
                go_roundw
                case rel => exact ⟨j + 1, i + pn, o + pn, by omega, by go_num, by go_num, by go_num, by omega, by omega, by omega, by omega, HE2.out.symm, HB1.out⟩
                case measure => simp [intOf]; omega
          · subst h1
            have h3' := str_empty h3
            subst h3'
            have HIO := Lib.hid (show inP ⟨3, pn, ⟨#[]⟩⟩ = pn ∧ outP ⟨3, pn, ⟨#[]⟩⟩ = 0 from ⟨rfl, rfl⟩)
            rw [HIO.out.1, HIO.out.2] at HST2
            clear h3
            by_cases hi : 1048576 - i < pn
            · have HE2 := Lib.hid (HST2.out.trans (if_pos (.inl hi)))
              clear HST2
              go_wp2_with fail
              go_ret
              exact ⟨by rw [HE.out, HE2.out] <;> rfl, HB1.out⟩
            · have HE2 := Lib.hid (HST2.out.trans (if_neg (by rintro (h | h); exact hi h; omega)))
              clear HST2
              go_wp2_with fail
              go_roundw
              case rel => exact ⟨j + 1, i + pn, o + 0, by omega, by go_num, by go_num, by go_num, by omega, by omega, by omega, by omega, HE2.out.symm, HB1.out⟩
              case measure => simp [intOf]; omega
          · subst h1
            subst h2
            have HIO := Lib.hid (show inP ⟨2, 0, pt⟩ = 0 ∧ outP ⟨2, 0, pt⟩ = pt.size from ⟨rfl, rfl⟩)
            rw [HIO.out.1, HIO.out.2] at HST2
            by_cases ho : 1048576 - o < (pt.size : Int)
            · have HE2 := Lib.hid (HST2.out.trans (if_pos (.inr ho)))
              clear HST2
              go_wp2_with fail
              go_ret
              exact ⟨by rw [HE.out, HE2.out] <;> rfl, HB1.out⟩
            · have HE2 := Lib.hid (HST2.out.trans (if_neg (by rintro (h | h); omega; exact ho h)))
              clear HST2
              go_wp2_with fail
              go_roundw
              case rel => exact ⟨j + 1, i + 0, o + pt.size, by omega, by go_num, by go_num, by go_num, by omega, by omega, by omega, by omega, HE2.out.symm, HB1.out⟩
              case measure => simp [intOf]; omega
        · have hv' : okP p = false := by simpa using hv
          have HE2 := Lib.hid (HST.out.trans (if_pos hv'))
          rw [hv']
          clear HST hv hv' hx1
          go_wp2_with fail
          go_ret
          exact ⟨by rw [HE.out, HE2.out] <;> rfl, HB1.out⟩
      · obtain rfl : j = n := by omega
        have HE2 := Lib.hid (show lenL 0 0 l = (i, o, 0) by rw [← hle, List.drop_eq_nil_of_le (by omega)]; rfl)
        clear hle hbr
        go_wp2_with fail
        go_ret
        exact ⟨by rw [HE.out, HE2.out] <;> rfl, HBR.out⟩
end Go.Proofs.YtdfkbahlngijcaaDoor
