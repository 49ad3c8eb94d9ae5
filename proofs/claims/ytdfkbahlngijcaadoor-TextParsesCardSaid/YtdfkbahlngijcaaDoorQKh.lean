/- Text: store.within and store.Check: their walks. (printed by slim.py.) -/
import Derived.Test.YtdfkbahlngijcaaDoorQKc
import Derived.Test.YtdfkbahlngijcaaDoorQKg
namespace Go.Proofs.YtdfkbahlngijcaaDoor
open Go.RowKit
set_option linter.unusedVariables false

/-- a configuration -/
structure Cf where
  slots : Int
  gens : Int
  clients : Int
  readers : Int
  queue : Int
  batch : Int
  feed : Int
  t : ByteArray
def inR (n lo hi : Int) : Bool := decide (lo ≤ n) && decide (n ≤ hi)
def cfgOk (x : Cf) : Bool := inR x.slots 1 16384 && (inR x.gens 1 4294967295 && (inR x.clients 0 8 && (inR x.readers 0 8 && (inR x.queue 1 64 && (inR x.batch 1 16 && inR x.feed 1 64)))))
noncomputable def cfgE (x : Cf) : Int := if cfgOk x = true then (if 65536 < x.t.size then 5 else if validB x.t.data.toList = true then 0 else 11) else 2
set_option maxRecDepth 100000 in
set_option maxHeartbeats 2000000 in
theorem within_any (n lo hi : Int) (w : World) : Calls Tryd.prog 86 #[.int .i64 n, .int .i64 lo, .int .i64 hi] w fun e w' => e = .returned (.bool (inR n lo hi)) ∧ w = w' := by
  by_cases h1 : lo ≤ n
  · by_cases h2 : n ≤ hi
    · have HE := Lib.hid (show inR n lo hi = true by unfold inR; rw [decide_eq_true h1, decide_eq_true h2]; rfl)
      go_enter Tryd.func86, Tryd.ntmps86
      go_wp2_with fail
      go_ret
      exact ⟨by rw [HE.out] <;> rfl, rfl⟩
    · have HE := Lib.hid (show inR n lo hi = false by unfold inR; rw [decide_eq_false h2, Bool.and_false])
      have hd := decide_eq_false h2
      go_enter Tryd.func86, Tryd.ntmps86
      go_wp2_with fail
      go_ret
      exact ⟨by rw [HE.out] <;> rfl, rfl⟩
  · have HE := Lib.hid (show inR n lo hi = false by unfold inR; rw [decide_eq_false h1]; rfl)
    have hd := decide_eq_false h1
    go_enter Tryd.func86, Tryd.ntmps86
    go_wp2_with fail
    go_ret
    exact ⟨by rw [HE.out] <;> rfl, rfl⟩
set_option maxRecDepth 100000 in
set_option maxHeartbeats 16000000 in
theorem cfgCheck_any (x : Cf) (w : World) (ht : x.t.size ≤ 140737488355328) :
    Calls Tryd.prog 62 #[.agg #[.int .i64 x.slots, .int .u64 x.gens, .int .i64 x.clients, .int .i64 x.readers, .int .i64 x.queue, .int .i64 x.batch, .int .i64 x.feed, .string x.t]] w fun e w' => e = .returned (.int .i64 (cfgE x)) ∧ Below w.heap.size w w' := by
  have HPE := Lib.hid (show cfgE x = if cfgOk x = true then (if 65536 < x.t.size then 5 else if validB x.t.data.toList = true then 0 else 11) else 2 from rfl)
  have HPO := Lib.hid (show cfgOk x = (inR x.slots 1 16384 && (inR x.gens 1 4294967295 && (inR x.clients 0 8 && (inR x.readers 0 8 && (inR x.queue 1 64 && (inR x.batch 1 16 && inR x.feed 1 64)))))) from rfl)
  generalize cfgE x = P at *
  generalize cfgOk x = C at *
  obtain ⟨a, b, c, d, e', f, g, t⟩ := x
  replace ht : t.size ≤ 140737488355328 := ht
  replace HPE := Lib.hid (show P = if C = true then (if 65536 < t.size then 5 else if validB t.data.toList = true then 0 else 11) else 2 from HPE.out)
  replace HPO := Lib.hid (show C = (inR a 1 16384 && (inR b 1 4294967295 && (inR c 0 8 && (inR d 0 8 && (inR e' 1 64 && (inR f 1 16 && inR g 1 64)))))) from HPO.out)
  have hnb := block_new w (.cells #[.int .i64 a, .int .u64 b, .int .i64 c, .int .i64 d, .int .i64 e', .int .i64 f, .int .i64 g, .string t] 38)
  have HB2 := Lib.hid ((Below.refl w.heap.size w).alloc (Nat.le_refl _) (.cells #[.int .i64 a, .int .u64 b, .int .i64 c, .int .i64 d, .int .i64 e', .int .i64 f, .int .i64 g, .string t] 38))
  have HW := Lib.hid (fun (n lo hi : Int) => within_any n lo hi (w.alloc (.cells #[.int .i64 a, .int .u64 b, .int .i64 c, .int .i64 d, .int .i64 e', .int .i64 f, .int .i64 g, .string t] 38)))
  have HV := Lib.hid (fun (h : t.size ≤ 1048576) => valid_str t (w.alloc (.cells #[.int .i64 a, .int .u64 b, .int .i64 c, .int .i64 d, .int .i64 e', .int .i64 f, .int .i64 g, .string t] 38)) h)
  have HNB := Lib.hid hnb
  clear hnb
  go_enter Tryd.func62, Tryd.ntmps62
  go_upto_region 1 with (fail)
  try simp only [List.append_eq, List.cons_append, List.nil_append]
  generalize w.alloc (.cells #[.int .i64 a, .int .u64 b, .int .i64 c, .int .i64 d, .int .i64 e', .int .i64 f, .int .i64 g, .string t] 38) = w2 at *
  generalize hbo : w.heap.size = bo at *
  have HBO := Lib.hid hbo
  clear hbo
  have q0 := block_cell HNB.out 0
  have q1 := block_cell HNB.out 1
  have q2 := block_cell HNB.out 2
  have q3 := block_cell HNB.out 3
  have q4 := block_cell HNB.out 4
  have q5 := block_cell HNB.out 5
  have q6 := block_cell HNB.out 6
  have q7 := block_cell HNB.out 7
  simp at q0 q1 q2 q3 q4 q5 q6 q7
  clear HNB
  have HK0 := Lib.hid (HW.out a 1 16384)
  by_cases h0 : inR a 1 16384 = true
  · rw [h0] at HK0
    go_wp2_with fail
    refine (HK0.out).mono ?_; rintro e w3 ⟨rfl, rfl⟩
    by_cases g1 : b < 1
    · as_aux_lemma =>
      have h1 : inR b 1 4294967295 = false := by unfold inR; rw [decide_eq_false (by omega)]; rfl
      have HE := Lib.hid (show P = 2 by rw [HPE.out, HPO.out, h0, h1]; rfl)
      go_wp2_with fail
      go_ret
      exact ⟨by rw [HE.out] <;> rfl, by rw [HBO.out]; exact HB2.out⟩
    · have g1' : decide (b < 1) = false := decide_eq_false g1
      by_cases g2 : 4294967295 < b
      · as_aux_lemma =>
        have h1 : inR b 1 4294967295 = false := by unfold inR; rw [decide_eq_false (show ¬ (b ≤ 4294967295) by omega), Bool.and_false]
        have HE := Lib.hid (show P = 2 by rw [HPE.out, HPO.out, h0, h1]; rfl)
        go_wp2_with fail
        go_ret
        exact ⟨by rw [HE.out] <;> rfl, by rw [HBO.out]; exact HB2.out⟩
      · have g2' : decide (4294967295 < b) = false := decide_eq_false g2
        have h1 : inR b 1 4294967295 = true := by unfold inR; rw [decide_eq_true (show (1 : Int) ≤ b by omega), decide_eq_true (show b ≤ 4294967295 by omega)]; rfl
        have HK2 := Lib.hid (HW.out c 0 8)
        by_cases h2 : inR c 0 8 = true
        · rw [h2] at HK2
          go_wp2_with fail
          refine (HK2.out).mono ?_; rintro e w3 ⟨rfl, rfl⟩
          have HK3 := Lib.hid (HW.out d 0 8)
          by_cases h3 : inR d 0 8 = true
          · rw [h3] at HK3
            go_wp2_with fail
            refine (HK3.out).mono ?_; rintro e w3 ⟨rfl, rfl⟩
            have HK4 := Lib.hid (HW.out e' 1 64)
            by_cases h4 : inR e' 1 64 = true
            · rw [h4] at HK4
              go_wp2_with fail
              refine (HK4.out).mono ?_; rintro e w3 ⟨rfl, rfl⟩
              have HK5 := Lib.hid (HW.out f 1 16)
              by_cases h5 : inR f 1 16 = true
              · rw [h5] at HK5
                go_wp2_with fail
                refine (HK5.out).mono ?_; rintro e w3 ⟨rfl, rfl⟩
                have HK6 := Lib.hid (HW.out g 1 64)
                by_cases h6 : inR g 1 64 = true
                · rw [h6] at HK6
                  go_wp2_with fail
                  refine (HK6.out).mono ?_; rintro e w3 ⟨rfl, rfl⟩
                  have HC := Lib.hid (show C = true by rw [HPO.out, h0, h1, h2, h3, h4, h5, h6]; rfl)
                  clear h0 h1 h2 h3 h4 h5 h6
                  by_cases u : 65536 < t.size
                  · as_aux_lemma =>
                    have u' : (65536 : Int) < (t.size : Int) := by omega
                    have HE := Lib.hid (show P = 5 by rw [HPE.out, HC.out, if_pos rfl, if_pos u])
                    clear u
                    go_wp2_with fail
                    go_ret
                    exact ⟨by rw [HE.out] <;> rfl, by rw [HBO.out]; exact HB2.out⟩
                  · have u' : ¬ ((65536 : Int) < (t.size : Int)) := by omega
                    by_cases hv : validB t.data.toList = true
                    · as_aux_lemma =>
                      have HE := Lib.hid (show P = 0 by rw [HPE.out, HC.out, if_pos rfl, if_neg u, if_pos hv])
                      have HK := Lib.hid (HV.out (by omega))
                      rw [hv] at HK
                      clear u hv
                      go_wp2_with fail
                      refine (HK.out).mono ?_; rintro e w3 ⟨rfl, rfl⟩
                      go_wp2_with fail
                      go_ret
                      exact ⟨by rw [HE.out] <;> rfl, by rw [HBO.out]; exact HB2.out⟩
                    · as_aux_lemma =>
                      have HE := Lib.hid (show P = 11 by rw [HPE.out, HC.out, if_pos rfl, if_neg u, if_neg hv])
                      have HK := Lib.hid (HV.out (by omega))
                      rw [Bool.eq_false_iff.2 hv] at HK
                      clear u hv
                      go_wp2_with fail
                      refine (HK.out).mono ?_; rintro e w3 ⟨rfl, rfl⟩
                      go_wp2_with fail
                      go_ret
                      exact ⟨by rw [HE.out] <;> rfl, by rw [HBO.out]; exact HB2.out⟩
                · as_aux_lemma =>
                  replace h6 := Bool.eq_false_iff.2 h6
                  have HE := Lib.hid (show P = 2 by rw [HPE.out, HPO.out, h0, h1, h2, h3, h4, h5, h6]; rfl)
                  rw [h6] at HK6
                  go_wp2_with fail
                  refine (HK6.out).mono ?_; rintro e w3 ⟨rfl, rfl⟩
                  go_wp2_with fail
                  go_ret
                  exact ⟨by rw [HE.out] <;> rfl, by rw [HBO.out]; exact HB2.out⟩
              · as_aux_lemma =>
                replace h5 := Bool.eq_false_iff.2 h5
                have HE := Lib.hid (show P = 2 by rw [HPE.out, HPO.out, h0, h1, h2, h3, h4, h5]; rfl)
                rw [h5] at HK5
                go_wp2_with fail
                refine (HK5.out).mono ?_; rintro e w3 ⟨rfl, rfl⟩
                go_wp2_with fail
                go_ret
                exact ⟨by rw [HE.out] <;> rfl, by rw [HBO.out]; exact HB2.out⟩
            · as_aux_lemma =>
              replace h4 := Bool.eq_false_iff.2 h4
              have HE := Lib.hid (show P = 2 by rw [HPE.out, HPO.out, h0, h1, h2, h3, h4]; rfl)
              rw [h4] at HK4
              go_wp2_with fail
              refine (HK4.out).mono ?_; rintro e w3 ⟨rfl, rfl⟩
              go_wp2_with fail
              go_ret
              exact ⟨by rw [HE.out] <;> rfl, by rw [HBO.out]; exact HB2.out⟩
          · as_aux_lemma =>
            replace h3 := Bool.eq_false_iff.2 h3
            have HE := Lib.hid (show P = 2 by rw [HPE.out, HPO.out, h0, h1, h2, h3]; rfl)
            rw [h3] at HK3
            go_wp2_with fail
            refine (HK3.out).mono ?_; rintro e w3 ⟨rfl, rfl⟩
            go_wp2_with fail
            go_ret
            exact ⟨by rw [HE.out] <;> rfl, by rw [HBO.out]; exact HB2.out⟩
        · as_aux_lemma =>
          replace h2 := Bool.eq_false_iff.2 h2
          have HE := Lib.hid (show P = 2 by rw [HPE.out, HPO.out, h0, h1, h2]; rfl)
          rw [h2] at HK2
          go_wp2_with fail
          refine (HK2.out).mono ?_; rintro e w3 ⟨rfl, rfl⟩
          go_wp2_with fail
          go_ret
          exact ⟨by rw [HE.out] <;> rfl, by rw [HBO.out]; exact HB2.out⟩
  · as_aux_lemma =>
    replace h0 := Bool.eq_false_iff.2 h0
    have HE := Lib.hid (show P = 2 by rw [HPE.out, HPO.out, h0]; rfl)
    rw [h0] at HK0
    go_wp2_with fail
    refine (HK0.out).mono ?_; rintro e w3 ⟨rfl, rfl⟩
    go_wp2_with fail
    go_ret
    exact ⟨by rw [HE.out] <;> rfl, by rw [HBO.out]; exact HB2.out⟩
end Go.Proofs.YtdfkbahlngijcaaDoor

namespace Go.Proofs.YtdfkbahlngijcaaDoor
open Go.RowKit
set_option linter.unusedVariables false

/-- the bytes that a field takes -/
def szF (x : Ov) : Nat → Nat
  | 0 => 1
  | 1 => 2
  | 2 => 2
  | 3 => 4
  | 4 => 1
  | _ => 2 + x.t.size
theorem fldK_lt (k : Nat) : ∀ f ∈ fldK k, f ≤ 5 := by
  unfold fldK
  split <;> simp
set_option maxRecDepth 100000 in
set_option maxHeartbeats 4000000 in
theorem size_any (x : Ov) (f : Nat) (w : World) (hf : f ≤ 5) (ht : x.t.size ≤ 140737488355328) :
    Calls Tryd.prog 91 #[.agg #[.int .u8 x.k, .int .i64 x.slot, .int .i64 x.at_, .int .i64 x.n, .int .u32 x.id, .int .u8 x.g, .string x.t], .int .u8 f] w fun e w' => e = .returned (.int .i64 (szF x f : Nat)) ∧ Below w.heap.size w w' := by
  have HB := Lib.hid ((Below.refl w.heap.size w).alloc (Nat.le_refl _) (.cells (oC x) 51))
  have hnb := block_new w (.cells (oC x) 51)
  have q6 := block_cell hnb 6
  have HE := Lib.hid (fun (v : Nat) (h : v = szF x f) => (show Ending.returned (.int .i64 (v : Nat)) = .returned (.int .i64 (szF x f : Nat)) by rw [h]))
  have HX := Lib.hid (show szF x 5 = 2 + x.t.size from rfl)
  obtain ⟨k, s, a, n, id, g, t⟩ := x
  replace ht : t.size ≤ 140737488355328 := ht
  unfold oC at q6
  simp at q6
  clear hnb
  have hcs : f = 0 ∨ f = 1 ∨ f = 2 ∨ f = 3 ∨ f = 4 ∨ f = 5 := by omega
  rcases hcs with rfl | rfl | rfl | rfl | rfl | rfl
  · go_enter Tryd.func91, Tryd.ntmps91
    go_wp2_with fail
    go_ret
    exact ⟨rfl, HB.out⟩
  · go_enter Tryd.func91, Tryd.ntmps91
    go_wp2_with fail
    go_ret
    exact ⟨rfl, HB.out⟩
  · go_enter Tryd.func91, Tryd.ntmps91
    go_wp2_with fail
    go_ret
    exact ⟨rfl, HB.out⟩
  · go_enter Tryd.func91, Tryd.ntmps91
    go_wp2_with fail
    go_ret
    exact ⟨rfl, HB.out⟩
  · go_enter Tryd.func91, Tryd.ntmps91
    go_wp2_with fail
    go_ret
    exact ⟨rfl, HB.out⟩
  · have hw : IntKind.i64.wrap (2 + (t.size : Int)) = 2 + (t.size : Int) := by rw [IntKind.wrap_i64]; omega
    go_enter Tryd.func91, Tryd.ntmps91
    go_wp2_with fail
    go_ret
    exact ⟨rfl, HB.out⟩
/-- the bytes that an operation takes -/
def szO (x : Ov) : Nat := 1 + ((fldK x.k.toNat).map (szF x)).sum
/-- a program of a script: a slice of operations -/
structure Pg where
  a : Option Addr
  n : Nat
  c : Nat
  l : List Ov
def fPg (s : Pg) : List Value := [.slice s.a s.n s.c]
theorem fPg_len (s : Pg) : (fPg s).length = 1 := rfl
/-- a slice of programs in memory -/
def IsPg (w : World) (ao : Option Addr) (m : Nat) (ss : List Pg) : Prop := IsR fPg w ao m ss ∧ ∀ s ∈ ss, IsR fO w s.a s.n s.l
theorem IsPg.later {w w' : World} {ao : Option Addr} {m : Nat} {ss : List Pg} (h : IsPg w ao m ss) (hb : Below w.heap.size w w') : IsPg w' ao m ss :=
  ⟨h.1.later hb, fun s hs => (h.2 s hs).later hb⟩
def szP (p : Pg) : Nat := 2 + (p.l.map szO).sum
/-- a script's length as script.length reckons it -/
def lenSc (c : Cf) (ss : List Pg) (picks : Nat) : Nat := 15 + c.t.size + picks + (ss.map szP).sum
/-- an operation at a place of a row, laid open -/
theorem IsR.op {w w' : World} {ao : Option Addr} {len : Nat} {l : List Ov} (h : IsR fO w ao len l) (hb : Below w.heap.size w w') {j : Nat} (hj : j < len) :
    ∃ b off, ao = some ⟨b, off, none⟩ ∧ b < w.heap.size ∧ ∀ (hjl : j < l.length), ∀ i u, (fO l[j])[i]? = some u → w'.cell? ⟨b, off + j * 7 + i, none⟩ = some u := by
  obtain ⟨b, off, e, hlt, h3⟩ := h.2 (by omega)
  refine ⟨b, off, e, hlt, fun hjl i u hi => ?_⟩
  have hi' : i < 7 := by
    have := (List.getElem?_eq_some_iff.1 hi).1
    rw [fO_len] at this; exact this
  have := h3 (j * 7 + i) u (by rw [flatR_at fO_len l j i hjl hi']; exact hi)
  rw [← Nat.add_assoc] at this
  exact (hb.cell (p := ⟨b, off + j * 7 + i, none⟩) hlt).trans this
theorem IsPg.at {w w' : World} {ao : Option Addr} {m : Nat} {ss : List Pg} (h : IsPg w ao m ss) (hb : Below w.heap.size w w') {j : Nat} (hj : j < m) :
    ∃ b off, ao = some ⟨b, off, none⟩ ∧ b < w.heap.size ∧ ∀ (hjl : j < ss.length), w'.cell? ⟨b, off + j, none⟩ = some (.slice ss[j].a ss[j].n ss[j].c) := by
  obtain ⟨b, off, e, hlt, h3⟩ := h.1.2 (by omega)
  refine ⟨b, off, e, hlt, fun hjl => ?_⟩
  have := h3 (j * 1 + 0) (.slice ss[j].a ss[j].n ss[j].c) (by rw [flatR_at fPg_len ss j 0 hjl (by decide)]; rfl)
  rw [Nat.mul_one, Nat.add_zero] at this
  exact (hb.cell (p := ⟨b, off + j, none⟩) hlt).trans this
end Go.Proofs.YtdfkbahlngijcaaDoor

namespace Go.Proofs.YtdfkbahlngijcaaDoor
open Go.RowKit
set_option linter.unusedVariables false

theorem sum_take {α : Type} (f : α → Nat) {l : List α} {j : Nat} (h : j < l.length) : ((l.take (j + 1)).map f).sum = ((l.take j).map f).sum + f l[j] := by
  rw [List.take_succ_eq_append_getElem h, List.map_append, List.sum_append]
  simp
theorem sum_le {α : Type} (f : α → Nat) (l : List α) (j : Nat) : ((l.take j).map f).sum ≤ (l.map f).sum := by
  have e : l.map f = (l.take j).map f ++ (l.drop j).map f := by rw [← List.map_append, List.take_append_drop]
  rw [e, List.sum_append]
  omega
theorem sum_all {α : Type} (f : α → Nat) (l : List α) : ((l.take l.length).map f).sum = (l.map f).sum := by rw [List.take_length]
theorem len_le_sum {α : Type} (f : α → Nat) (hf : ∀ x, 1 ≤ f x) (l : List α) : l.length ≤ (l.map f).sum := by
  induction l with
  | nil => simp
  | cons a l ih => have := hf a; simp only [List.length_cons, List.map_cons, List.sum_cons]; omega
theorem plain_kind {x : Ov} (h : plainO x = true) : 1 ≤ x.k ∧ x.k ≤ 16 := by
  unfold plainO at h
  by_cases k : x.k < 1 ∨ 16 < x.k
  · rw [if_pos k] at h; cases h
  · omega
theorem plain_text {x : Ov} (h : plainO x = true) : x.t.size ≤ 256 := by
  unfold plainO at h
  by_cases k : x.k < 1 ∨ 16 < x.k
  · rw [if_pos k] at h; cases h
  · rw [if_neg k] at h
    simp only [Bool.and_eq_true] at h
    have h5 := h.2.2.2.2.2
    unfold p5 hasB at h5
    split at h5
    · exact of_decide_eq_true h5
    · have := of_decide_eq_true h5
      omega
def scA (c : Cf) (po : Option Addr) (pn pc : Nat) (qo : Option Addr) (qn qc : Nat) : Array Value := #[.int .i64 c.slots, .int .u64 c.gens, .int .i64 c.clients, .int .i64 c.readers, .int .i64 c.queue, .int .i64 c.batch, .int .i64 c.feed, .string c.t, .slice po pn pc, .slice qo qn qc]
set_option maxRecDepth 100000 in
set_option maxHeartbeats 16000000 in
theorem length_sc (c : Cf) (po : Option Addr) (pn pc : Nat) (qo : Option Addr) (qn qc : Nat) (ss : List Pg) (w : World) (hp : IsPg w po pn ss)
    (hpl : ∀ s ∈ ss, ∀ x ∈ s.l, plainO x = true) (hsm : lenSc c ss qn ≤ 1000000000000) :
    Calls Tryd.prog 64 #[.agg #[.int .i64 c.slots, .int .u64 c.gens, .int .i64 c.clients, .int .i64 c.readers, .int .i64 c.queue, .int .i64 c.batch, .int .i64 c.feed, .string c.t, .slice po pn pc, .slice qo qn qc]] w fun e w' => e = .returned (.int .i64 (lenSc c ss qn : Nat)) ∧ Below w.heap.size w w' := by
  have HP := Lib.hid hp
  have HPL := Lib.hid hpl
  have hln := hp.1.1
  have HLN := Lib.hid hln
  have HB0 := Lib.hid ((Below.refl w.heap.size w).alloc (Nat.le_refl _) (.cells (scA c po pn pc qo qn qc) 42))
  have hnb := block_new w (.cells (scA c po pn pc qo qn qc) 42)
  have q7 := block_cell hnb 7
  have q8 := block_cell hnb 8
  have q9 := block_cell hnb 9
  obtain ⟨A, hA⟩ : ∃ A, A = 15 + c.t.size + qn := ⟨_, rfl⟩
  have HLS := Lib.hid (show lenSc c ss qn = A + (ss.map szP).sum by rw [hA]; rfl)
  have HT := Lib.hid (show A + (ss.map szP).sum ≤ 1000000000000 by rw [← HLS.out]; exact hsm)
  have htl : c.t.size + qn ≤ 1000000000000 := by have := HT.out; omega
  have hpnl : pn ≤ 1000000000000 := by have h1 := HT.out; have h2 := len_le_sum szP (fun x => by unfold szP; omega) ss; have h3 := HLN.out; omega
  generalize lenSc c ss qn = L at *
  obtain ⟨ca, cb, cc, cd, ce, cf, cg, t⟩ := c
  unfold scA at q7 q8 q9
  simp at q7 q8 q9
  replace htl : t.size + qn ≤ 1000000000000 := htl
  replace hA : A = 15 + t.size + qn := hA
  have hw1 : IntKind.i64.wrap (13 + (t.size : Int)) = 13 + (t.size : Int) := by rw [IntKind.wrap_i64]; omega
  have hw2 : IntKind.i64.wrap (13 + (t.size : Int) + 2) = 13 + (t.size : Int) + 2 := by rw [IntKind.wrap_i64]; omega
  have hw3 : IntKind.i64.wrap (13 + (t.size : Int) + 2 + (qn : Int)) = 13 + (t.size : Int) + 2 + (qn : Int) := by rw [IntKind.wrap_i64]; omega
  have HA := Lib.hid (show 13 + (t.size : Int) + 2 + (qn : Int) = (A : Int) by omega)
  clear hp hpl hln hnb hsm hA
  go_enter Tryd.func64, Tryd.ntmps64
  go_wp2_with fail
  rw [HA.out]
  clear hw1 hw2 hw3 q7 q8 q9
  go_loopw [3, 23] (fun s3 s23 wr => ∃ (i B : Nat), i ≤ pn ∧ s23 = .int .i64 i ∧ s3 = .int .i64 B ∧ B = A + ((ss.take i).map szP).sum ∧ Below w.heap.size w wr) (fun _ s23 _ => pn - (intOf s23).toNat)
  case atStart => exact ⟨0, A, Nat.zero_le _, rfl, rfl, rfl, HB0.out⟩
  case round =>
    obtain ⟨i, B, hi, rfl, rfl, hB, hbr⟩ := hrel
    have HBB := Lib.hid hB
    have HBR := Lib.hid hbr
    have hBl : B ≤ 1000000000000 := by have h1 := sum_le szP ss i; have h2 := HT.out; omega
    clear hB
    by_cases hlt : i < pn
    · as_aux_lemma =>
        have hlt' : (i : Int) < (pn : Int) := by omega
        have hi0 : (0 : Int) ≤ (i : Int) := by omega
        have HIL := Lib.hid (show i < ss.length by have := HLN.out; omega)
        obtain ⟨bp, op, rfl, hbp, hcl⟩ := HP.out.at hbr hlt
        have c0 := hcl HIL.out
        have HOPS := Lib.hid (HP.out.2 (ss[i]'HIL.out) (List.getElem_mem _))
        have HPS := Lib.hid (HPL.out (ss[i]'HIL.out) (List.getElem_mem _))
        have HST := Lib.hid (sum_take szP HIL.out)
        have HSL := Lib.hid (sum_le szP ss (i + 1))
        generalize ss[i]'HIL.out = p at *
        obtain ⟨sa, sn, sc, sl⟩ := p
        have HOPS2 := Lib.hid (show IsR fO w sa sn sl from HOPS.out)
        have HPS2 := Lib.hid (show ∀ x ∈ sl, plainO x = true from HPS.out)
        have HST2 := Lib.hid (show ((ss.take (i + 1)).map szP).sum = ((ss.take i).map szP).sum + (2 + (sl.map szO).sum) from HST.out)
        have HSN := Lib.hid (show sl.length = sn from HOPS.out.1)
        have HTB := Lib.hid (show B + 2 + (sl.map szO).sum ≤ 1000000000000 by have h1 := HST2.out; have h2 := HSL.out; have h3 := HT.out; have h4 := HBB.out; omega)
        have hsnl : sn ≤ 1000000000000 := by have h1 := HTB.out; have h2 := len_le_sum szO (fun x => by unfold szO; omega) sl; have h3 := HSN.out; omega
        replace c0 : wr.cell? ⟨bp, op + i, none⟩ = some (.slice sa sn sc) := c0
        clear HOPS HPS HST HSL hcl hbr
        go_wp2_with fail
        clear c0
        generalize wr = w3 at *
        go_loopw [3, 31] (fun s3 s31 wr => ∃ (j D : Nat), j ≤ sn ∧ s31 = .int .i64 j ∧ s3 = .int .i64 D ∧ D = B + 2 + ((sl.take j).map szO).sum ∧ Below w.heap.size w wr) (fun _ s31 _ => sn - (intOf s31).toNat)
        case atStart => exact ⟨0, B + 2, Nat.zero_le _, rfl, by go_num, rfl, HBR.out⟩
        case round =>
          obtain ⟨j, D, hj, rfl, rfl, hD, hbr⟩ := hrel
          have HDD := Lib.hid hD
          have HBR2 := Lib.hid hbr
          have hDl : D ≤ 1000000000000 := by have h1 := sum_le szO sl j; have h2 := HTB.out; omega
          have hszw := hbr.size
          clear hD
          by_cases hlj : j < sn
          · as_aux_lemma =>
              have hlj' : (j : Int) < (sn : Int) := by omega
              have hj0 : (0 : Int) ≤ (j : Int) := by omega
              have HJL := Lib.hid (show j < sl.length by rw [HSN.out]; exact hlj)
              obtain ⟨bo, oo, rfl, hbo, hcl⟩ := HOPS2.out.op hbr hlj
              have hcl := hcl HJL.out
              have HPX := Lib.hid (HPS2.out (sl[j]'HJL.out) (List.getElem_mem _))
              have HST := Lib.hid (sum_take szO HJL.out)
              have HSL := Lib.hid (sum_le szO sl (j + 1))
              generalize sl[j]'HJL.out = x at *
              have c0 := hcl 0 _ rfl
              have c1 := hcl 1 _ rfl
              have c2 := hcl 2 _ rfl
              have c3 := hcl 3 _ rfl
              have c4 := hcl 4 _ rfl
              have c5 := hcl 5 _ rfl
              have c6 := hcl 6 _ rfl
              rw [Nat.add_zero] at c0
              obtain ⟨k1, k2⟩ := plain_kind HPX.out
              obtain ⟨kn, hkn⟩ : ∃ kn : Nat, x.k = kn := ⟨x.k.toNat, by omega⟩
              have htx := plain_text HPX.out
              have hk1 : 1 ≤ kn := by omega
              have hk2 : kn ≤ 16 := by omega
              have HSZ := Lib.hid (show szO x = 1 + ((fldK kn).map (szF x)).sum by unfold szO; rw [hkn, Int.toNat_natCast])
              have HOB := Lib.hid (block_new wr (.cells #[.int .u8 kn, .int .i64 x.slot, .int .i64 x.at_, .int .i64 x.n, .int .u32 x.id, .int .u8 x.g, .string x.t] 51))
              have HBA := Lib.hid (hbr.alloc hszw (.cells #[.int .u8 kn, .int .i64 x.slot, .int .i64 x.at_, .int .i64 x.n, .int .u32 x.id, .int .u8 x.g, .string x.t] 51))
              have HFD := Lib.hid (fields_any kn hk1 hk2 (wr.alloc (.cells #[.int .u8 kn, .int .i64 x.slot, .int .i64 x.at_, .int .i64 x.n, .int .u32 x.id, .int .u8 x.g, .string x.t] 51)))
              have HSF := Lib.hid (fun (f : Nat) (u : World) (hf : f ≤ 5) => size_any x f u hf (by omega))
              rw [hkn] at c0 HSF
              have HL3 := Lib.hid (fldK_len kn)
              have HFL := Lib.hid (fldK_lt kn)
              have HTD := Lib.hid (show D + szO x ≤ 1000000000000 by have h1 := HST.out; have h2 := HSL.out; have h3 := HTB.out; have h4 := HDD.out; omega)
              have hkn' : (kn : Int) ≤ 16 := by omega
              generalize fldK kn = fl at *
              have hD1 : IntKind.i64.wrap ((D : Int) + 1) = (D : Int) + 1 := by rw [IntKind.wrap_i64]; omega
              clear hcl hbr hkn k1 k2
              go_wp2_with fail
              refine (HFD.out).mono ?_; rintro e w5 ⟨bf, rfl, hcf, hbf, hb5⟩
              have HO5 := Lib.hid (block_below hb5 HOB.out (by simp))
              have HB5 := Lib.hid (HBA.out.trans (hb5.mono (by have := HBA.out.size; exact this)))
              have HC5 := Lib.hid (show FldAt w5 bf fl from hcf)
              have HLT := Lib.hid (show wr.heap.size < w5.heap.size from block_lt HO5.out)
              have HBF := Lib.hid hbf
              have hs5 := HB5.out.size
              clear hcf hb5 hbf HFD HOB HBA c0 c1 c2 c3 c4 c5 c6
              obtain ⟨ln, hln⟩ : ∃ ln, ln = fl.length := ⟨_, rfl⟩
              rw [← hln]
              have HLF := Lib.hid hln
              have hl3 : ln ≤ 3 := by rw [hln]; exact HL3.out
              clear hln
              go_wp2_with fail
              generalize hwz : wr.heap.size = bz at *
              clear hwz
              go_loopw [3, 41] (fun s3 s41 wr => ∃ (q E : Nat), q ≤ ln ∧ s41 = .int .i64 q ∧ s3 = .int .i64 E ∧ E = D + 1 + ((fl.take q).map (szF x)).sum ∧ Below w5.heap.size w5 wr) (fun _ s41 _ => ln - (intOf s41).toNat)
              case atStart => exact ⟨0, D + 1, Nat.zero_le _, rfl, by go_num, rfl, Below.refl _ _⟩
              case round =>
                obtain ⟨q, E, hq, rfl, rfl, hE, hbq⟩ := hrel
                have HEE := Lib.hid hE
                have HBQ := Lib.hid hbq
                have hEl : E ≤ 1000000000000 := by have h1 := sum_le (szF x) fl q; have h2 := HTD.out; have h3 := HSZ.out; omega
                clear hE
                by_cases hlq : q < ln
                · as_aux_lemma =>
                    have hlq' : (q : Int) < (ln : Int) := by omega
                    have hq0 : (0 : Int) ≤ (q : Int) := by omega
                    have HQL := Lib.hid (show q < fl.length by rw [← HLF.out]; exact hlq)
                    have cf := (hbq.cell (p := ⟨bf, q, none⟩) HBF.out).trans (HC5.out q HQL.out)
                    have HOQ := Lib.hid (block_below hbq HO5.out HLT.out)
                    have d0 := block_cell HOQ.out 0
                    have d1 := block_cell HOQ.out 1
                    have d2 := block_cell HOQ.out 2
                    have d3 := block_cell HOQ.out 3
                    have d4 := block_cell HOQ.out 4
                    have d5 := block_cell HOQ.out 5
                    have d6 := block_cell HOQ.out 6
                    simp at d0 d1 d2 d3 d4 d5 d6
                    have HST3 := Lib.hid (sum_take (szF x) HQL.out)
                    have HSL3 := Lib.hid (sum_le (szF x) fl (q + 1))
                    have HF5 := Lib.hid (HFL.out (fl[q]'HQL.out) (List.getElem_mem _))
                    generalize fl[q]'HQL.out = fv at *
                    have HCS := Lib.hid (HSF.out fv wr HF5.out)
                    have hEs : E + szF x fv ≤ 1000000000000 := by have h1 := HST3.out; have h2 := HSL3.out; have h3 := HTD.out; have h4 := HSZ.out; have h5 := HEE.out; omega
                    have hwE : IntKind.i64.wrap ((E : Int) + (szF x fv : Nat)) = (E : Int) + (szF x fv : Nat) := by rw [IntKind.wrap_i64]; omega
                    have HNX := Lib.hid (show E + szF x fv = D + 1 + ((fl.take (q + 1)).map (szF x)).sum by have h1 := HST3.out; have h5 := HEE.out; omega)
                    clear hbq
                    go_wp2_with fail
                    refine (HCS.out).mono ?_; rintro e w6 ⟨rfl, hb6⟩
                    have HB6 := Lib.hid (HBQ.out.trans (hb6.mono HBQ.out.size))
                    clear hb6
                    generalize szF x fv = zz at *
                    go_wp2_with fail
                    go_roundw
                    case rel => exact ⟨q + 1, E + zz, by omega, by go_num, by go_num, HNX.out, HB6.out⟩
                    case measure => (simp [intOf] <;> omega)
                · as_aux_lemma =>
                    have hlq' : ¬ ((q : Int) < (ln : Int)) := by omega
                    have HNX := Lib.hid (show E = B + 2 + ((sl.take (j + 1)).map szO).sum by
                      have h1 := HEE.out
                      rw [show q = fl.length by rw [← HLF.out]; omega, sum_all] at h1
                      have h2 := HST.out
                      have h3 := HSZ.out
                      have h4 := HDD.out
                      omega)
                    have HBN := Lib.hid (HB5.out.trans (hbq.mono hs5))
                    clear hlq hbq
                    go_wp2_with fail
                    go_roundw
                    case rel => exact ⟨j + 1, E, by omega, by go_num, rfl, HNX.out, HBN.out⟩
                    case measure => (simp [intOf] <;> omega)
          · as_aux_lemma =>
              have hlj' : ¬ ((j : Int) < (sn : Int)) := by omega
              have HNX := Lib.hid (show D = A + ((ss.take (i + 1)).map szP).sum by
                have h1 := HDD.out
                rw [show j = sl.length by rw [HSN.out]; omega, sum_all] at h1
                have h2 := HST2.out
                have h3 := HBB.out
                omega)
              clear hlj hbr
              go_wp2_with fail
              go_roundw
              case rel => exact ⟨i + 1, D, by omega, by go_num, rfl, HNX.out, HBR2.out⟩
              case measure => (simp [intOf] <;> omega)
    · as_aux_lemma =>
        have hlt' : ¬ ((i : Int) < (pn : Int)) := by omega
        have HE := Lib.hid (show B = L by
          have h1 := HBB.out
          rw [show i = ss.length by have := HLN.out; omega, sum_all] at h1
          rw [HLS.out]; exact h1)
        clear hlt hbr
        go_wp2_with fail
        go_ret
        exact ⟨by rw [HE.out] <;> rfl, HBR.out⟩
end Go.Proofs.YtdfkbahlngijcaaDoor

namespace Go.Proofs.YtdfkbahlngijcaaDoor
open Go.RowKit
set_option linter.unusedVariables false

/-- what the programs of a script give: 0 if they are all plain and not too long -/
def progE : List Pg → Int
  | [] => 0
  | p :: r => if 256 < p.n then 5 else if p.l.all plainO = true then progE r else 2
/-- what script.Check gives -/
noncomputable def scE (c : Cf) (ss : List Pg) (ps : List Int) : Int :=
  if cfgE c ≠ 0 then cfgE c else if (ss.length : Int) ≠ c.clients then 2 else if progE ss ≠ 0 then progE ss else if 65535 < ps.length then 5 else
    if ps.all (fun q => inR q 0 c.clients) = true then (if 65536 < lenSc c ss ps.length then 5 else 0) else 2
theorem progE_zero {ss : List Pg} (h : progE ss = 0) : ∀ s ∈ ss, s.n ≤ 256 ∧ s.l.all plainO = true := by
  induction ss with
  | nil => intro s hs; cases hs
  | cons p r ih =>
    unfold progE at h
    by_cases h1 : 256 < p.n
    · rw [if_pos h1] at h; cases h
    · rw [if_neg h1] at h
      by_cases h2 : p.l.all plainO = true
      · rw [if_pos h2] at h
        intro s hs
        rcases List.mem_cons.1 hs with rfl | hs
        · exact ⟨by omega, h2⟩
        · exact ih h s hs
      · rw [if_neg h2] at h; cases h
theorem cfg_zero {c : Cf} (h : cfgE c = 0) : 0 ≤ c.clients ∧ c.clients ≤ 8 ∧ c.t.size ≤ 65536 := by
  unfold cfgE at h
  by_cases h1 : cfgOk c = true
  · rw [if_pos h1] at h
    by_cases h2 : 65536 < c.t.size
    · rw [if_pos h2] at h; cases h
    · unfold cfgOk inR at h1
      simp only [Bool.and_eq_true, decide_eq_true_eq] at h1
      exact ⟨h1.2.2.1.1, h1.2.2.1.2, by omega⟩
  · rw [if_neg h1] at h; cases h
theorem szF_le {x : Ov} (h : x.t.size ≤ 256) (f : Nat) : szF x f ≤ 258 := by
  unfold szF; split <;> omega
theorem sum_bound {α : Type} (f : α → Nat) (b : Nat) (l : List α) (h : ∀ x ∈ l, f x ≤ b) : (l.map f).sum ≤ l.length * b := by
  induction l with
  | nil => simp
  | cons a l ih =>
    have h1 := h a (List.mem_cons_self ..)
    have h2 := ih (fun x hx => h x (List.mem_cons_of_mem _ hx))
    simp only [List.length_cons, List.map_cons, List.sum_cons, Nat.add_mul]
    omega
theorem szO_le {x : Ov} (h : plainO x = true) : szO x ≤ 775 := by
  have h1 := plain_text h
  have h2 := sum_bound (szF x) 258 (fldK x.k.toNat) (fun f _ => szF_le h1 f)
  have h3 := fldK_len x.k.toNat
  have h4 : (fldK x.k.toNat).length * 258 ≤ 3 * 258 := Nat.mul_le_mul_right _ h3
  unfold szO
  omega
theorem len_bound {c : Cf} {ss : List Pg} {n : Nat} (h : cfgE c = 0) (hl : (ss.length : Int) = c.clients) (hp : progE ss = 0) (hn : ∀ s ∈ ss, s.l.length = s.n) (hq : n ≤ 65535) :
    lenSc c ss n ≤ 1000000000000 := by
  obtain ⟨h1, h2, h3⟩ := cfg_zero h
  have h4 := sum_bound szP 198402 ss (fun s hs => by
    obtain ⟨a, b⟩ := progE_zero hp s hs
    have h5 := sum_bound szO 775 s.l (fun x hx => szO_le (List.all_eq_true.1 b x hx))
    have h6 : s.l.length * 775 ≤ 256 * 775 := Nat.mul_le_mul_right _ (by rw [hn s hs]; exact a)
    unfold szP
    omega)
  have h5 : ss.length * 198402 ≤ 8 * 198402 := Nat.mul_le_mul_right _ (by omega)
  unfold lenSc
  omega
def fI (q : Int) : List Value := [.int .i64 q]
theorem fI_len (q : Int) : (fI q).length = 1 := rfl
/-- a pick at its place, laid open -/
theorem IsR.pick {w w' : World} {ao : Option Addr} {m : Nat} {ps : List Int} (h : IsR fI w ao m ps) (hb : Below w.heap.size w w') {j : Nat} (hj : j < m) :
    ∃ b off, ao = some ⟨b, off, none⟩ ∧ b < w.heap.size ∧ ∀ (hjl : j < ps.length), w'.cell? ⟨b, off + j, none⟩ = some (.int .i64 ps[j]) := by
  obtain ⟨b, off, e, hlt, h3⟩ := h.2 (by omega)
  refine ⟨b, off, e, hlt, fun hjl => ?_⟩
  have := h3 (j * 1 + 0) (.int .i64 ps[j]) (by rw [flatR_at fI_len ps j 0 hjl (by decide)]; rfl)
  rw [Nat.mul_one, Nat.add_zero] at this
  exact (hb.cell (p := ⟨b, off + j, none⟩) hlt).trans this
theorem drop_at {α : Type} {l : List α} {j : Nat} (h : j < l.length) : l.drop j = l[j] :: l.drop (j + 1) := List.drop_eq_getElem_cons h
end Go.Proofs.YtdfkbahlngijcaaDoor

namespace Go.Proofs.YtdfkbahlngijcaaDoor
open Go.RowKit
set_option linter.unusedVariables false

set_option maxRecDepth 100000 in
set_option maxHeartbeats 16000000 in
theorem check_sc (c : Cf) (po : Option Addr) (pn pc : Nat) (qo : Option Addr) (qn qc : Nat) (ss : List Pg) (ps : List Int) (w : World) (hp : IsPg w po pn ss) (hq : IsR fI w qo qn ps)
    (hct : c.t.size ≤ 140737488355328) (hpt : ∀ s ∈ ss, ∀ x ∈ s.l, x.t.size ≤ 140737488355328) (hpn : pn ≤ 140737488355328) (hqn : qn ≤ 140737488355328) :
    Calls Tryd.prog 25 #[.agg #[.int .i64 c.slots, .int .u64 c.gens, .int .i64 c.clients, .int .i64 c.readers, .int .i64 c.queue, .int .i64 c.batch, .int .i64 c.feed, .string c.t, .slice po pn pc, .slice qo qn qc]] w fun e w' => e = .returned (.int .i64 (scE c ss ps)) ∧ Below w.heap.size w w' := by
  have HP := Lib.hid hp
  have HQ := Lib.hid hq
  have HLN := Lib.hid (show ss.length = pn from hp.1.1)
  have HQN := Lib.hid (show ps.length = qn from hq.1)
  have HPT := Lib.hid hpt
  have HSC := Lib.hid (show scE c ss ps = if cfgE c ≠ 0 then cfgE c else if (ss.length : Int) ≠ c.clients then 2 else if progE ss ≠ 0 then progE ss else if 65535 < ps.length then 5 else
    if ps.all (fun q => inR q 0 c.clients) = true then (if 65536 < lenSc c ss ps.length then 5 else 0) else 2 from rfl)
  have HLB := Lib.hid (fun h1 h2 h3 h4 h5 => len_bound (c := c) (ss := ss) (n := qn) h1 h2 h3 h4 h5)
  have HLEN := Lib.hid (fun (u : World) (h : IsPg u po pn ss) h2 h3 => length_sc c po pn pc qo qn qc ss u h h2 h3)
  have HB0 := Lib.hid ((Below.refl w.heap.size w).alloc (Nat.le_refl _) (.cells (scA c po pn pc qo qn qc) 42))
  have HNB := Lib.hid (block_new w (.cells (scA c po pn pc qo qn qc) 42))
  have HCK := Lib.hid (cfgCheck_any c (w.alloc (.cells (scA c po pn pc qo qn qc) 42)) hct)
  rw [HLN.out, HQN.out] at HSC
  have HSM := Lib.hid (show IsPg w po pn ss from hp)
  generalize hE : cfgE c = E at *
  have HE := Lib.hid hE
  generalize scE c ss ps = P at *
  obtain ⟨L, hL⟩ : ∃ L, L = lenSc c ss qn := ⟨_, rfl⟩
  rw [← hL] at HSC HLEN HLB
  clear hL
  obtain ⟨ca, cb, cl, cd, ce, cf, cg, t⟩ := c
  replace HSC := Lib.hid (show P = if E ≠ 0 then E else if (pn : Int) ≠ cl then 2 else if progE ss ≠ 0 then progE ss else if 65535 < qn then 5 else
    if ps.all (fun q => inR q 0 cl) = true then (if 65536 < L then 5 else 0) else 2 from HSC.out)
  clear hE hp hq hpt
  have q0 := block_cell HNB.out 0
  have q1 := block_cell HNB.out 1
  have q2 := block_cell HNB.out 2
  have q3 := block_cell HNB.out 3
  have q4 := block_cell HNB.out 4
  have q5 := block_cell HNB.out 5
  have q6 := block_cell HNB.out 6
  have q7 := block_cell HNB.out 7
  unfold scA at q0 q1 q2 q3 q4 q5 q6 q7 HNB HCK HB0
  simp at q0 q1 q2 q3 q4 q5 q6 q7
  replace HLEN := Lib.hid (show ∀ (u : World), IsPg u po pn ss → (∀ s ∈ ss, ∀ x ∈ s.l, plainO x = true) → L ≤ 1000000000000 → Calls Tryd.prog 64 #[.agg #[.int .i64 ca, .int .u64 cb, .int .i64 cl, .int .i64 cd, .int .i64 ce, .int .i64 cf, .int .i64 cg, .string t, .slice po pn pc, .slice qo qn qc]] u fun e w' => e = .returned (.int .i64 (L : Nat)) ∧ Below u.heap.size u w' from HLEN.out)
  go_enter Tryd.func25, Tryd.ntmps25
  go_wp2_with fail
  refine (HCK.out).mono ?_; rintro e w2 ⟨rfl, hb2⟩
  have HO2 := Lib.hid (block_below hb2 HNB.out (by simp))
  have HB2 := Lib.hid (HB0.out.trans (hb2.mono (by have := HB0.out.size; exact this)))
  have HLT := Lib.hid (block_lt HO2.out)
  have HP2 := Lib.hid (HP.out.later HB2.out)
  have HQ2 := Lib.hid (HQ.out.later HB2.out)
  clear hb2 HCK HB0 HNB q0 q1 q2 q3 q4 q5 q6 q7 HP HQ HSM
  generalize hbo : w.heap.size = bz0 at *
  have HBO := Lib.hid hbo
  have HSZ := Lib.hid (show bz0 ≤ w2.heap.size by have := HLT.out; omega)
  clear hbo
  have q0 := block_cell HO2.out 0
  have q1 := block_cell HO2.out 1
  have q2 := block_cell HO2.out 2
  have q3 := block_cell HO2.out 3
  have q4 := block_cell HO2.out 4
  have q5 := block_cell HO2.out 5
  have q6 := block_cell HO2.out 6
  have q7 := block_cell HO2.out 7
  have q8 := block_cell HO2.out 8
  have q9 := block_cell HO2.out 9
  simp at q0 q1 q2 q3 q4 q5 q6 q7 q8 q9
  by_cases h0 : E = 0
  · have HE0 := Lib.hid (show cfgE { slots := ca, gens := cb, clients := cl, readers := cd, queue := ce, batch := cf, feed := cg, t := t } = 0 from HE.out.trans h0)
    subst h0
    by_cases h1 : (pn : Int) = cl
    · subst h1
      go_wp2_with fail
      go_loopw [26] (fun s26 wr => ∃ (i : Nat), i ≤ pn ∧ s26 = .int .i64 i ∧ progE ss = progE (ss.drop i) ∧ Below w2.heap.size w2 wr) (fun s26 _ => pn - (intOf s26).toNat)
      case atStart => exact ⟨0, Nat.zero_le _, rfl, rfl, Below.refl _ _⟩
      case round =>
        obtain ⟨i, hi, rfl, hG, hbr⟩ := hrel
        have HG := Lib.hid hG
        have HBR := Lib.hid hbr
        clear hG
        by_cases hlt : i < pn
        · as_aux_lemma =>
            have hlt' : (i : Int) < (pn : Int) := by omega
            have hi0 : (0 : Int) ≤ (i : Int) := by omega
            have HIL := Lib.hid (show i < ss.length by rw [HLN.out]; exact hlt)
            obtain ⟨bp, op, rfl, hbp, hcl⟩ := HP2.out.at hbr hlt
            have c0 := hcl HIL.out
            have HOPS := Lib.hid (HP2.out.2 (ss[i]'HIL.out) (List.getElem_mem _))
            have HPX := Lib.hid (HPT.out (ss[i]'HIL.out) (List.getElem_mem _))
            have HG2 := Lib.hid (show progE ss = if 256 < (ss[i]'HIL.out).n then 5 else if (ss[i]'HIL.out).l.all plainO = true then progE (ss.drop (i + 1)) else 2 by rw [HG.out, drop_at HIL.out]; rfl)
            generalize ss[i]'HIL.out = p at *
            obtain ⟨sa, sn, sc, sl⟩ := p
            have HOPS2 := Lib.hid (show IsR fO w2 sa sn sl from HOPS.out)
            have HPX2 := Lib.hid (show ∀ x ∈ sl, x.t.size ≤ 140737488355328 from HPX.out)
            have HSN := Lib.hid (show sl.length = sn from HOPS.out.1)
            replace HG2 := Lib.hid (show progE ss = if 256 < sn then 5 else if sl.all plainO = true then progE (ss.drop (i + 1)) else 2 from HG2.out)
            replace c0 : wr.cell? ⟨bp, op + i, none⟩ = some (.slice sa sn sc) := c0
            clear HOPS HPX hcl
            by_cases h256 : 256 < sn
            · have h256' : (256 : Int) < (sn : Int) := by omega
              have HX := Lib.hid (show P = 5 by rw [HSC.out, if_neg (fun h => h rfl), if_neg (fun h => h rfl), HG2.out, if_pos h256, if_pos (by decide)])
              clear hbr
              go_wp2_with fail
              go_ret
              exact ⟨by rw [HX.out] <;> rfl, by rw [HBO.out]; exact HB2.out.trans (HBR.out.mono HSZ.out)⟩
            · have h256' : ¬ ((256 : Int) < (sn : Int)) := by omega
              have hsn : (sn : Int) ≤ 256 := by omega
              clear hbr
              go_wp2_with fail
              clear c0
              generalize wr = w3 at *
              go_loopw [35] (fun s35 wr => ∃ (j : Nat), j ≤ sn ∧ s35 = .int .i64 j ∧ sl.all plainO = (sl.drop j).all plainO ∧ Below w2.heap.size w2 wr) (fun s35 _ => sn - (intOf s35).toNat)
              case atStart => exact ⟨0, Nat.zero_le _, rfl, rfl, HBR.out⟩
              case round =>
                obtain ⟨j, hj, rfl, hA, hbj⟩ := hrel
                have HA := Lib.hid hA
                have HBJ := Lib.hid hbj
                have hszj := hbj.size
                clear hA
                by_cases hlj : j < sn
                · as_aux_lemma =>
                    have hlj' : (j : Int) < (sn : Int) := by omega
                    have hj0 : (0 : Int) ≤ (j : Int) := by omega
                    have HJL := Lib.hid (show j < sl.length by rw [HSN.out]; exact hlj)
                    obtain ⟨bo, oo, rfl, hbo, hcl⟩ := HOPS2.out.op hbj hlj
                    have hcl := hcl HJL.out
                    have HT := Lib.hid (HPX2.out (sl[j]'HJL.out) (List.getElem_mem _))
                    have HA2 := Lib.hid (show sl.all plainO = (plainO (sl[j]'HJL.out) && (sl.drop (j + 1)).all plainO) by rw [HA.out, drop_at HJL.out]; rfl)
                    generalize sl[j]'HJL.out = x at *
                    have c0 := hcl 0 _ rfl
                    have c1 := hcl 1 _ rfl
                    have c2 := hcl 2 _ rfl
                    have c3 := hcl 3 _ rfl
                    have c4 := hcl 4 _ rfl
                    have c5 := hcl 5 _ rfl
                    have c6 := hcl 6 _ rfl
                    rw [Nat.add_zero] at c0
                    have HOB := Lib.hid (block_new wr (.cells #[.int .u8 x.k, .int .i64 x.slot, .int .i64 x.at_, .int .i64 x.n, .int .u32 x.id, .int .u8 x.g, .string x.t] 51))
                    have HBA := Lib.hid (hbj.alloc hszj (.cells #[.int .u8 x.k, .int .i64 x.slot, .int .i64 x.at_, .int .i64 x.n, .int .u32 x.id, .int .u8 x.g, .string x.t] 51))
                    have HCP := Lib.hid (plainS_any x (wr.alloc (.cells #[.int .u8 x.k, .int .i64 x.slot, .int .i64 x.at_, .int .i64 x.n, .int .u32 x.id, .int .u8 x.g, .string x.t] 51)) HT.out)
                    have d0 := block_cell HOB.out 0
                    have d1 := block_cell HOB.out 1
                    have d2 := block_cell HOB.out 2
                    have d3 := block_cell HOB.out 3
                    have d4 := block_cell HOB.out 4
                    have d5 := block_cell HOB.out 5
                    have d6 := block_cell HOB.out 6
                    simp at d0 d1 d2 d3 d4 d5 d6
                    clear hcl hbj
                    by_cases hpl : plainO x = true
                    · rw [hpl] at HCP
                      have HA3 := Lib.hid (show sl.all plainO = (sl.drop (j + 1)).all plainO by rw [HA2.out, hpl, Bool.true_and])
                      clear hpl
                      go_wp2_with fail
                      refine (HCP.out).mono ?_; rintro e w5 ⟨rfl, hb5⟩
                      have HB5 := Lib.hid (HBA.out.trans (hb5.mono (by have := HBA.out.size; exact this)))
                      clear hb5 c0 c1 c2 c3 c4 c5 c6 d0 d1 d2 d3 d4 d5 d6 HCP HBA HOB
                      go_wp2_with fail
                      go_roundw
                      case rel => exact ⟨j + 1, by omega, by go_num, HA3.out, HB5.out⟩
                      case measure => (simp [intOf] <;> omega)
                    · have hpf := Bool.eq_false_iff.2 hpl
                      rw [hpf] at HCP
                      have HX := Lib.hid (show P = 2 by
                        have e : progE ss = 2 := by rw [HG2.out, if_neg h256, HA2.out, hpf, Bool.false_and]; rfl
                        rw [HSC.out, if_neg (fun h => h rfl), if_neg (fun h => h rfl), e]; rfl)
                      clear hpl hpf
                      go_wp2_with fail
                      refine (HCP.out).mono ?_; rintro e w5 ⟨rfl, hb5⟩
                      have HB5 := Lib.hid (HBA.out.trans (hb5.mono (by have := HBA.out.size; exact this)))
                      clear hb5 c0 c1 c2 c3 c4 c5 c6 d0 d1 d2 d3 d4 d5 d6 HCP HBA HOB
                      go_wp2_with fail
                      go_ret
                      exact ⟨by rw [HX.out] <;> rfl, by rw [HBO.out]; exact HB2.out.trans (HB5.out.mono HSZ.out)⟩
                · as_aux_lemma =>
                    have hlj' : ¬ ((j : Int) < (sn : Int)) := by omega
                    have HA3 := Lib.hid (show sl.all plainO = true by rw [HA.out, List.drop_of_length_le (by rw [HSN.out]; omega)]; rfl)
                    have HG3 := Lib.hid (show progE ss = progE (ss.drop (i + 1)) by rw [HG2.out, if_neg h256, if_pos HA3.out])
                    clear hlj hbj
                    go_wp2_with fail
                    go_roundw
                    case rel => exact ⟨i + 1, by omega, by go_num, HG3.out, HBJ.out⟩
                    case measure => (simp [intOf] <;> omega)
        · as_aux_lemma =>
            have hlt' : ¬ ((i : Int) < (pn : Int)) := by omega
            have HG3 := Lib.hid (show progE ss = 0 by rw [HG.out, List.drop_of_length_le (by rw [HLN.out]; omega)]; rfl)
            replace HSC := Lib.hid (show P = if 65535 < qn then 5 else if ps.all (fun q => inR q 0 pn) = true then (if 65536 < L then 5 else 0) else 2 by
              rw [HSC.out, if_neg (fun h => h rfl), if_neg (fun h => h rfl), if_neg (fun h => h HG3.out)])
            have HOR := Lib.hid (block_below hbr HO2.out HLT.out)
            have r2 := block_cell HOR.out 2
            have r9 := block_cell HOR.out 9
            simp at r2 r9
            have hszr := hbr.size
            by_cases hq5 : 65535 < qn
            · have hq5' : (65535 : Int) < (qn : Int) := by omega
              have HX := Lib.hid (show P = 5 by rw [HSC.out, if_pos hq5])
              clear hlt hbr
              go_wp2_with fail
              go_ret
              exact ⟨by rw [HX.out] <;> rfl, by rw [HBO.out]; exact HB2.out.trans (HBR.out.mono HSZ.out)⟩
            · have hq5' : ¬ ((65535 : Int) < (qn : Int)) := by omega
              have hqn2 : (qn : Int) ≤ 65535 := by omega
              have HQ5 := Lib.hid hq5
              replace HSC := Lib.hid (show P = if ps.all (fun q => inR q 0 pn) = true then (if 65536 < L then 5 else 0) else 2 by rw [HSC.out, if_neg hq5])
              clear hlt hbr hq5
              go_wp2_with fail
              clear r2 r9
              generalize wr = w3 at *
              go_loopw [51] (fun s51 wr => ∃ (k : Nat), k ≤ qn ∧ s51 = .int .i64 k ∧ ps.all (fun q => inR q 0 pn) = (ps.drop k).all (fun q => inR q 0 pn) ∧ Below w2.heap.size w2 wr) (fun s51 _ => qn - (intOf s51).toNat)
              case atStart => exact ⟨0, Nat.zero_le _, rfl, rfl, HBR.out⟩
              case round =>
                obtain ⟨k, hk, rfl, hA, hbk⟩ := hrel
                have HA := Lib.hid hA
                have HBK := Lib.hid hbk
                have HOK := Lib.hid (block_below hbk HO2.out HLT.out)
                have hszk := hbk.size
                clear hA
                by_cases hlk : k < qn
                · as_aux_lemma =>
                    have hlk' : (k : Int) < (qn : Int) := by omega
                    have hk0 : (0 : Int) ≤ (k : Int) := by omega
                    have HKL := Lib.hid (show k < ps.length by rw [HQN.out]; exact hlk)
                    obtain ⟨bk, ok, rfl, hbk2, hcl⟩ := HQ2.out.pick hbk hlk
                    have c0 := hcl HKL.out
                    have HA2 := Lib.hid (show ps.all (fun q => inR q 0 pn) = (inR (ps[k]'HKL.out) 0 pn && (ps.drop (k + 1)).all (fun q => inR q 0 pn)) by rw [HA.out, drop_at HKL.out]; rfl)
                    generalize ps[k]'HKL.out = v at *
                    have r2 := block_cell HOK.out 2
                    simp at r2
                    clear hcl hbk
                    by_cases hv0 : v < 0
                    · have HX := Lib.hid (show P = 2 by
                        have e : inR v 0 pn = false := by unfold inR; rw [decide_eq_false (by omega)]; rfl
                        rw [HSC.out, HA2.out, e]; rfl)
                      go_wp2_with fail
                      go_ret
                      exact ⟨by rw [HX.out] <;> rfl, by rw [HBO.out]; exact HB2.out.trans (HBK.out.mono HSZ.out)⟩
                    · by_cases hv1 : (pn : Int) < v
                      · have HX := Lib.hid (show P = 2 by
                          have e : inR v 0 pn = false := by unfold inR; rw [decide_eq_false (show ¬ v ≤ (pn : Int) by omega), Bool.and_false]
                          rw [HSC.out, HA2.out, e]; rfl)
                        go_wp2_with fail
                        go_ret
                        exact ⟨by rw [HX.out] <;> rfl, by rw [HBO.out]; exact HB2.out.trans (HBK.out.mono HSZ.out)⟩
                      · have HA3 := Lib.hid (show ps.all (fun q => inR q 0 pn) = (ps.drop (k + 1)).all (fun q => inR q 0 pn) by
                          have e : inR v 0 pn = true := by unfold inR; rw [decide_eq_true (by omega), decide_eq_true (by omega)]; rfl
                          rw [HA2.out, e, Bool.true_and])
                        go_wp2_with fail
                        go_roundw
                        case rel => exact ⟨k + 1, by omega, by go_num, HA3.out, HBK.out⟩
                        case measure => (simp [intOf] <;> omega)
                · as_aux_lemma =>
                    have hlk' : ¬ ((k : Int) < (qn : Int)) := by omega
                    have HA3 := Lib.hid (show ps.all (fun q => inR q 0 pn) = true by rw [HA.out, List.drop_of_length_le (by rw [HQN.out]; omega)]; rfl)
                    replace HSC := Lib.hid (show P = if 65536 < L then 5 else 0 by rw [HSC.out, if_pos HA3.out])
                    have hL : L ≤ 1000000000000 := HLB.out trivial (by rw [HLN.out]) HG3.out (fun s hs => (HP2.out.2 s hs).1) (by have := HQ5.out; omega)
                    have HCL := Lib.hid (HLEN.out wr (HP2.out.later hbk) (fun s hs x hx => List.all_eq_true.1 (progE_zero HG3.out s hs).2 x hx) hL)
                    have r0 := block_cell HOK.out 0
                    have r1 := block_cell HOK.out 1
                    have r2 := block_cell HOK.out 2
                    have r3 := block_cell HOK.out 3
                    have r4 := block_cell HOK.out 4
                    have r5 := block_cell HOK.out 5
                    have r6 := block_cell HOK.out 6
                    have r7 := block_cell HOK.out 7
                    have r8 := block_cell HOK.out 8
                    have r9 := block_cell HOK.out 9
                    simp at r0 r1 r2 r3 r4 r5 r6 r7 r8 r9
                    clear hbk
                    by_cases h6 : 65536 < L
                    · have h6' : (65536 : Int) < (L : Int) := by omega
                      have HX := Lib.hid (show P = 5 by rw [HSC.out, if_pos h6])
                      go_wp2_with fail
                      refine (HCL.out).mono ?_; rintro e w6 ⟨rfl, hb6⟩
                      have HB6 := Lib.hid (HBK.out.trans (hb6.mono HBK.out.size))
                      clear hb6
                      go_wp2_with fail
                      go_ret
                      exact ⟨by rw [HX.out] <;> rfl, by rw [HBO.out]; exact HB2.out.trans (HB6.out.mono HSZ.out)⟩
                    · have h6' : ¬ ((65536 : Int) < (L : Int)) := by omega
                      have HX := Lib.hid (show P = 0 by rw [HSC.out, if_neg h6])
                      go_wp2_with fail
                      refine (HCL.out).mono ?_; rintro e w6 ⟨rfl, hb6⟩
                      have HB6 := Lib.hid (HBK.out.trans (hb6.mono HBK.out.size))
                      clear hb6
                      go_wp2_with fail
                      go_ret
                      exact ⟨by rw [HX.out] <;> rfl, by rw [HBO.out]; exact HB2.out.trans (HB6.out.mono HSZ.out)⟩
    · as_aux_lemma =>
      have HX := Lib.hid (show P = 2 by rw [HSC.out, if_neg (fun h => h rfl), if_pos h1])
      go_wp2_with fail
      go_ret
      exact ⟨by rw [HX.out] <;> rfl, by rw [HBO.out]; exact HB2.out⟩
  · as_aux_lemma =>
    have HX := Lib.hid (show P = E by rw [HSC.out, if_pos h0])
    go_wp2_with fail
    go_ret
    exact ⟨by rw [HX.out] <;> rfl, by rw [HBO.out]; exact HB2.out⟩
end Go.Proofs.YtdfkbahlngijcaaDoor

