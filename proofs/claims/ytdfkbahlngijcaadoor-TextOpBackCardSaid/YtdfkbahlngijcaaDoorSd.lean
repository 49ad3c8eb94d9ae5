/- Text: store.within and store.Check: their walks. -/
import Derived.Test.YtdfkbahlngijcaaDoorSc
import Derived.Test.YtdfkbahlngijcaaDoorHi
namespace Go.Proofs.YtdfkbahlngijcaaDoor
open Go.RowKit
set_option linter.unusedVariables false

/-- a configuration -/
structure Cf where
  slots : Int
  gens : Int
  clients : Int
  readers : Int
  queue : Int
  batch : Int
  feed : Int
  t : ByteArray
def fC (x : Cf) : List Value := [.int .i64 x.slots, .int .u64 x.gens, .int .i64 x.clients, .int .i64 x.readers, .int .i64 x.queue, .int .i64 x.batch, .int .i64 x.feed, .string x.t]
def cC (x : Cf) : Array Value := #[.int .i64 x.slots, .int .u64 x.gens, .int .i64 x.clients, .int .i64 x.readers, .int .i64 x.queue, .int .i64 x.batch, .int .i64 x.feed, .string x.t]
def inR (n lo hi : Int) : Bool := decide (lo ≤ n) && decide (n ≤ hi)
def cfgOk (x : Cf) : Bool := inR x.slots 1 16384 && (inR x.gens 1 4294967295 && (inR x.clients 0 8 && (inR x.readers 0 8 && (inR x.queue 1 64 && (inR x.batch 1 16 && inR x.feed 1 64)))))
noncomputable def cfgE (x : Cf) : Int := if cfgOk x = true then (if 65536 < x.t.size then 5 else if validB x.t.data.toList = true then 0 else 11) else 2
set_option maxRecDepth 100000 in
set_option maxHeartbeats 2000000 in
theorem within_any (n lo hi : Int) (w : World) : Calls Tryd.prog 86 #[.int .i64 n, .int .i64 lo, .int .i64 hi] w fun e w' => e = .returned (.bool (inR n lo hi)) ∧ w = w' := by
  by_cases h1 : lo ≤ n
  · by_cases h2 : n ≤ hi
    · have HE := Lib.hid (show inR n lo hi = true by unfold inR; rw [decide_eq_true h1, decide_eq_true h2]; rfl)
      go_enter Tryd.func86, Tryd.ntmps86
      go_wp2_with fail
      go_ret
      exact ⟨by rw [HE.out] <;> rfl, rfl⟩
    · have HE := Lib.hid (show inR n lo hi = false by unfold inR; rw [decide_eq_false h2, Bool.and_false])
      have hd := decide_eq_false h2
      go_enter Tryd.func86, Tryd.ntmps86
      go_wp2_with fail
      go_ret
      exact ⟨by rw [HE.out] <;> rfl, rfl⟩
  · have HE := Lib.hid (show inR n lo hi = false by unfold inR; rw [decide_eq_false h1]; rfl)
    have hd := decide_eq_false h1
    go_enter Tryd.func86, Tryd.ntmps86
    go_wp2_with fail
    go_ret
    exact ⟨by rw [HE.out] <;> rfl, rfl⟩
set_option maxRecDepth 100000 in
set_option maxHeartbeats 16000000 in
theorem cfgCheck_any (x : Cf) (w : World) (ht : x.t.size ≤ 140737488355328) :
    Calls Tryd.prog 62 #[.agg #[.int .i64 x.slots, .int .u64 x.gens, .int .i64 x.clients, .int .i64 x.readers, .int .i64 x.queue, .int .i64 x.batch, .int .i64 x.feed, .string x.t]] w fun e w' => e = .returned (.int .i64 (cfgE x)) ∧ Below w.heap.size w w' := by
  have HPE := Lib.hid (show cfgE x = if cfgOk x = true then (if 65536 < x.t.size then 5 else if validB x.t.data.toList = true then 0 else 11) else 2 from rfl)
  have HPO := Lib.hid (show cfgOk x = (inR x.slots 1 16384 && (inR x.gens 1 4294967295 && (inR x.clients 0 8 && (inR x.readers 0 8 && (inR x.queue 1 64 && (inR x.batch 1 16 && inR x.feed 1 64)))))) from rfl)
  generalize cfgE x = P at *
  generalize cfgOk x = C at *
  obtain ⟨a, b, c, d, e', f, g, t⟩ := x
  replace ht : t.size ≤ 140737488355328 := ht
  replace HPE := Lib.hid (show P = if C = true then (if 65536 < t.size then 5 else if validB t.data.toList = true then 0 else 11) else 2 from HPE.out)
  replace HPO := Lib.hid (show C = (inR a 1 16384 && (inR b 1 4294967295 && (inR c 0 8 && (inR d 0 8 && (inR e' 1 64 && (inR f 1 16 && inR g 1 64)))))) from HPO.out)
  have hnb := block_new w (.cells #[.int .i64 a, .int .u64 b, .int .i64 c, .int .i64 d, .int .i64 e', .int .i64 f, .int .i64 g, .string t] 38)
  have HB2 := Lib.hid ((Below.refl w.heap.size w).alloc (Nat.le_refl _) (.cells #[.int .i64 a, .int .u64 b, .int .i64 c, .int .i64 d, .int .i64 e', .int .i64 f, .int .i64 g, .string t] 38))
  have HW := Lib.hid (fun (n lo hi : Int) => within_any n lo hi (w.alloc (.cells #[.int .i64 a, .int .u64 b, .int .i64 c, .int .i64 d, .int .i64 e', .int .i64 f, .int .i64 g, .string t] 38)))
  have HV := Lib.hid (fun (h : t.size ≤ 1048576) => valid_str t (w.alloc (.cells #[.int .i64 a, .int .u64 b, .int .i64 c, .int .i64 d, .int .i64 e', .int .i64 f, .int .i64 g, .string t] 38)) h)
  have HNB := Lib.hid hnb
  clear hnb
  go_enter Tryd.func62, Tryd.ntmps62
  go_upto_region 1 with (fail)
  try simp only [List.append_eq, List.cons_append, List.nil_append]
  generalize w.alloc (.cells #[.int .i64 a, .int .u64 b, .int .i64 c, .int .i64 d, .int .i64 e', .int .i64 f, .int .i64 g, .string t] 38) = w2 at *
  generalize hbo : w.heap.size = bo at *
  have HBO := Lib.hid hbo
  clear hbo
  have q0 := block_cell HNB.out 0
  have q1 := block_cell HNB.out 1
  have q2 := block_cell HNB.out 2
  have q3 := block_cell HNB.out 3
  have q4 := block_cell HNB.out 4
  have q5 := block_cell HNB.out 5
  have q6 := block_cell HNB.out 6
  have q7 := block_cell HNB.out 7
  simp at q0 q1 q2 q3 q4 q5 q6 q7
  clear HNB
  have HK0 := Lib.hid (HW.out a 1 16384)
  by_cases h0 : inR a 1 16384 = true
  · rw [h0] at HK0
    go_wp2_with fail
    refine (HK0.out).mono ?_; rintro e w3 ⟨rfl, rfl⟩
    by_cases g1 : b < 1
    · as_aux_lemma =>
      have h1 : inR b 1 4294967295 = false := by unfold inR; rw [decide_eq_false (by omega)]; rfl
      have HE := Lib.hid (show P = 2 by rw [HPE.out, HPO.out, h0, h1]; rfl)
      go_wp2_with fail
      go_ret
      exact ⟨by rw [HE.out] <;> rfl, by rw [HBO.out]; exact HB2.out⟩
    · have g1' : decide (b < 1) = false := decide_eq_false g1
      by_cases g2 : 4294967295 < b
      · as_aux_lemma =>
        have h1 : inR b 1 4294967295 = false := by unfold inR; rw [decide_eq_false (show ¬ (b ≤ 4294967295) by omega), Bool.and_false]
        have HE := Lib.hid (show P = 2 by rw [HPE.out, HPO.out, h0, h1]; rfl)
        go_wp2_with fail
        go_ret
        exact ⟨by rw [HE.out] <;> rfl, by rw [HBO.out]; exact HB2.out⟩
      · have g2' : decide (4294967295 < b) = false := decide_eq_false g2
        have h1 : inR b 1 4294967295 = true := by unfold inR; rw [decide_eq_true (show (1 : Int) ≤ b by omega), decide_eq_true (show b ≤ 4294967295 by omega)]; rfl
        have HK2 := Lib.hid (HW.out c 0 8)
        by_cases h2 : inR c 0 8 = true
        · rw [h2] at HK2
          go_wp2_with fail
          refine (HK2.out).mono ?_; rintro e w3 ⟨rfl, rfl⟩
          have HK3 := Lib.hid (HW.out d 0 8)
          by_cases h3 : inR d 0 8 = true
          · rw [h3] at HK3
            go_wp2_with fail
            refine (HK3.out).mono ?_; rintro e w3 ⟨rfl, rfl⟩
            have HK4 := Lib.hid (HW.out e' 1 64)
            by_cases h4 : inR e' 1 64 = true
            · rw [h4] at HK4
              go_wp2_with fail
              refine (HK4.out).mono ?_; rintro e w3 ⟨rfl, rfl⟩
              have HK5 := Lib.hid (HW.out f 1 16)
              by_cases h5 : inR f 1 16 = true
              · rw [h5] at HK5
                go_wp2_with fail
                refine (HK5.out).mono ?_; rintro e w3 ⟨rfl, rfl⟩
                have HK6 := Lib.hid (HW.out g 1 64)
                by_cases h6 : inR g 1 64 = true
                · rw [h6] at HK6
                  go_wp2_with fail
                  refine (HK6.out).mono ?_; rintro e w3 ⟨rfl, rfl⟩
                  have HC := Lib.hid (show C = true by rw [HPO.out, h0, h1, h2, h3, h4, h5, h6]; rfl)
                  clear h0 h1 h2 h3 h4 h5 h6
                  by_cases u : 65536 < t.size
                  · as_aux_lemma =>
                    have u' : (65536 : Int) < (t.size : Int) := by omega
                    have HE := Lib.hid (show P = 5 by rw [HPE.out, HC.out, if_pos rfl, if_pos u])
                    clear u
                    go_wp2_with fail
                    go_ret
                    exact ⟨by rw [HE.out] <;> rfl, by rw [HBO.out]; exact HB2.out⟩
                  · have u' : ¬ ((65536 : Int) < (t.size : Int)) := by omega
                    by_cases hv : validB t.data.toList = true
                    · as_aux_lemma =>
                      have HE := Lib.hid (show P = 0 by rw [HPE.out, HC.out, if_pos rfl, if_neg u, if_pos hv])
                      have HK := Lib.hid (HV.out (by omega))
                      rw [hv] at HK
                      clear u hv
                      go_wp2_with fail
                      refine (HK.out).mono ?_; rintro e w3 ⟨rfl, rfl⟩
                      go_wp2_with fail
                      go_ret
                      exact ⟨by rw [HE.out] <;> rfl, by rw [HBO.out]; exact HB2.out⟩
                    · as_aux_lemma =>
                      have HE := Lib.hid (show P = 11 by rw [HPE.out, HC.out, if_pos rfl, if_neg u, if_neg hv])
                      have HK := Lib.hid (HV.out (by omega))
                      rw [Bool.eq_false_iff.2 hv] at HK
                      clear u hv
                      go_wp2_with fail
                      refine (HK.out).mono ?_; rintro e w3 ⟨rfl, rfl⟩
                      go_wp2_with fail
                      go_ret
                      exact ⟨by rw [HE.out] <;> rfl, by rw [HBO.out]; exact HB2.out⟩
                · as_aux_lemma =>
                  replace h6 := Bool.eq_false_iff.2 h6
                  have HE := Lib.hid (show P = 2 by rw [HPE.out, HPO.out, h0, h1, h2, h3, h4, h5, h6]; rfl)
                  rw [h6] at HK6
                  go_wp2_with fail
                  refine (HK6.out).mono ?_; rintro e w3 ⟨rfl, rfl⟩
                  go_wp2_with fail
                  go_ret
                  exact ⟨by rw [HE.out] <;> rfl, by rw [HBO.out]; exact HB2.out⟩
              · as_aux_lemma =>
                replace h5 := Bool.eq_false_iff.2 h5
                have HE := Lib.hid (show P = 2 by rw [HPE.out, HPO.out, h0, h1, h2, h3, h4, h5]; rfl)
                rw [h5] at HK5
                go_wp2_with fail
                refine (HK5.out).mono ?_; rintro e w3 ⟨rfl, rfl⟩
                go_wp2_with fail
                go_ret
                exact ⟨by rw [HE.out] <;> rfl, by rw [HBO.out]; exact HB2.out⟩
            · as_aux_lemma =>
              replace h4 := Bool.eq_false_iff.2 h4
              have HE := Lib.hid (show P = 2 by rw [HPE.out, HPO.out, h0, h1, h2, h3, h4]; rfl)
              rw [h4] at HK4
              go_wp2_with fail
              refine (HK4.out).mono ?_; rintro e w3 ⟨rfl, rfl⟩
              go_wp2_with fail
              go_ret
              exact ⟨by rw [HE.out] <;> rfl, by rw [HBO.out]; exact HB2.out⟩
          · as_aux_lemma =>
            replace h3 := Bool.eq_false_iff.2 h3
            have HE := Lib.hid (show P = 2 by rw [HPE.out, HPO.out, h0, h1, h2, h3]; rfl)
            rw [h3] at HK3
            go_wp2_with fail
            refine (HK3.out).mono ?_; rintro e w3 ⟨rfl, rfl⟩
            go_wp2_with fail
            go_ret
            exact ⟨by rw [HE.out] <;> rfl, by rw [HBO.out]; exact HB2.out⟩
        · as_aux_lemma =>
          replace h2 := Bool.eq_false_iff.2 h2
          have HE := Lib.hid (show P = 2 by rw [HPE.out, HPO.out, h0, h1, h2]; rfl)
          rw [h2] at HK2
          go_wp2_with fail
          refine (HK2.out).mono ?_; rintro e w3 ⟨rfl, rfl⟩
          go_wp2_with fail
          go_ret
          exact ⟨by rw [HE.out] <;> rfl, by rw [HBO.out]; exact HB2.out⟩
  · as_aux_lemma =>
    replace h0 := Bool.eq_false_iff.2 h0
    have HE := Lib.hid (show P = 2 by rw [HPE.out, HPO.out, h0]; rfl)
    rw [h0] at HK0
    go_wp2_with fail
    refine (HK0.out).mono ?_; rintro e w3 ⟨rfl, rfl⟩
    go_wp2_with fail
    go_ret
    exact ⟨by rw [HE.out] <;> rfl, by rw [HBO.out]; exact HB2.out⟩
end Go.Proofs.YtdfkbahlngijcaaDoor
