/- Text: the law Parses: its walk (printed by gen/geny_a.py). (printed by slim.py.) -/
import Derived.Test.YtdfkbahlngijcaaDoorQWz
import Derived.Test.YtdfkbahlngijcaaDoorQWr
namespace Go.Proofs.YtdfkbahlngijcaaDoor
open Go.RowKit
set_option linter.unusedVariables false

theorem own_leq {w : World} {B s n cap : Nat} {ao : Option Addr} {t : TypeId} {xs : List Value} (h : w.ownsRow B t s (.slice ao n cap) n xs) : n ≤ cap := by
  obtain ⟨-, h⟩ := h
  rcases h with ⟨e, h0⟩ | ⟨g', cap', cur, e, -, -, hc, -⟩
  · omega
  · injection e with _ _ e3
    subst e3
    exact hc
/-- what either Parse gives, laid open -/
theorem prs_open {F : FuncId} {S : ByteArray} {x : Rd} {k : Nat} {er : Int} (h : prsR S.data.toList = (x, k, er)) {m n : Nat} (hm : x.ss.length = m) (hn : x.ps.length = n) (u : World) (hc : Calls Tryd.prog F #[.string S] u (ParsePost S u)) :
    Calls Tryd.prog F #[.string S] u fun e w' => Below u.heap.size u w' ∧ ∃ po pc qo qc ss1, IsPg w' po m ss1 ∧ IsR fI w' qo n x.ps ∧ ss1.map (·.l) = x.ss ∧ (∀ p ∈ ss1, p.l.length = p.n) ∧ n ≤ qc ∧ e = .returned (.tuple #[.agg (scrC x.c (.slice po m pc) (.slice qo n qc)), .int .i64 k, .int .i64 er]) := by
  refine hc.mono ?_
  rintro e w' ⟨hb, B, vP, vQ, ss1, hV, hss, rfl⟩
  rw [h] at hV hss ⊢
  subst hn
  obtain ⟨po, pc, rfl, hp, -, -⟩ := IsR.owned fPg_len rfl hV.ownP
  obtain ⟨qo, qc, rfl, hq, -, -⟩ := IsR.owned (f := fI) (s := 1) (fun _ => rfl) rfl hV.ownQ
  have hl : ss1.length = m := by rw [← hm, ← hss, List.length_map]
  rw [hl] at hp ⊢
  refine ⟨hb, po, pc, qo, qc, ss1, ⟨hp, fun s hs => ?_⟩, hq, hss, fun p hp => (hV.rows p hp).2, own_leq hV.ownQ, rfl⟩
  obtain ⟨ao, ac, e, h5, -, -⟩ := IsR.owned fO_len (hV.rows s hs).2 (hV.rows s hs).1
  injection e with e1 e2 e3
  rw [← e1] at h5
  exact h5
theorem prs_few {s : List UInt8} {x : Rd} {k : Nat} {er : Int} (h : prsR s = (x, k, er)) : x.ss.length ≤ 8 ∧ (∀ l ∈ x.ss, l.length ≤ 256) ∧ x.ps.length ≤ 65535 := by
  by_cases h0 : er = 0
  · subst h0
    obtain ⟨-, -, h3, -, -⟩ := prs_ok h
    have hz := scE_zero h3
    have hc := cfgZq_of hz.cfg
    have h4 := hz.num
    rw [List.length_map] at h4
    refine ⟨by have := hc.clients; omega, fun l hl => ?_, hz.pn⟩
    exact (progE_zero hz.prog (pgOf l) (List.mem_map_of_mem hl)).1
  · have hx : x = zeroRd := by
      unfold prsR at h
      split at h
      · injection h with h _; exact h.symm
      · split at h
        · injection h with h _; exact h.symm
        · split at h
          · split at h
            · injection h with _ h
              injection h with _ h
              exact absurd h.symm h0
            · injection h with h _; exact h.symm
          · injection h with h _; exact h.symm
    subst hx
    exact ⟨by decide, fun l hl => (by cases hl), by decide⟩
set_option maxRecDepth 100000 in
set_option maxHeartbeats 16000000 in
theorem parses_law (S : ByteArray) (w : World) :
    Calls Tryd.prog 6 #[.string S] w fun e w' => e = .returned (.bool true) ∧ Below w.heap.size w w' := by
  have HB0 := Lib.hid (Below.refl w.heap.size w)
  by_cases hg : (5000 < S.size ∧ S.size ≤ 65536) ∨ 65546 < S.size
  · by_cases h1 : 5000 < S.size
    · have d1 : decide ((5000 : Int) < (S.size : Int)) = true := decide_eq_true (by omega)
      have e1 : (5000 : Int) < (S.size : Int) := by omega
      by_cases h2 : S.size ≤ 65536
      · have d2 : decide ((S.size : Int) ≤ 65536) = true := decide_eq_true (by omega)
        have e2 : (S.size : Int) ≤ 65536 := by omega
        clear hg h1 h2
        go_enter Tryd.func6, Tryd.ntmps6
        go_wp2_with fail
        go_ret
        exact ⟨rfl, HB0.out⟩
      · have d2 : decide ((S.size : Int) ≤ 65536) = false := decide_eq_false (by omega)
        have e2 : ¬ ((S.size : Int) ≤ 65536) := by omega
        have d3 : decide ((65546 : Int) < (S.size : Int)) = true := decide_eq_true (by omega)
        have e3 : (65546 : Int) < (S.size : Int) := by omega
        clear hg h1 h2
        go_enter Tryd.func6, Tryd.ntmps6
        go_wp2_with fail
        go_ret
        exact ⟨rfl, HB0.out⟩
    · omega
  · have d3 : decide ((65546 : Int) < (S.size : Int)) = false := decide_eq_false (by omega)
    have hg1 : ((decide ((5000 : Int) < (S.size : Int))) && (decide ((S.size : Int) ≤ 65536))) = false := by
      rw [Bool.and_eq_false_iff]
      by_cases h1 : 5000 < S.size
      · exact .inr (decide_eq_false (by omega))
      · exact .inl (decide_eq_false (by omega))
    obtain ⟨⟨⟨da, db, dl, dd, de, df, dg, dt⟩, xss, xps, xla⟩, kk, er, hpr⟩ : ∃ xx kk er, prsR S.data.toList = (xx, kk, er) := ⟨_, _, _, rfl⟩
    obtain ⟨hf1, hf2, hf3⟩ := prs_few hpr
    obtain ⟨m, hm⟩ : ∃ m, xss.length = m := ⟨_, rfl⟩
    obtain ⟨n, hn⟩ : ∃ n, xps.length = n := ⟨_, rfl⟩
    have hm8 : m ≤ 8 := by rw [← hm]; exact hf1
    have hn8 : n ≤ 65535 := by rw [← hn]; exact hf3
    have HF2 := Lib.hid hf2
    have HA := Lib.hid (show ∀ u : World, Calls Tryd.prog 18 #[.string S] u (fun e w' => Below u.heap.size u w' ∧ ∃ po1 pc1 qo1 qc1 ss1, IsPg w' po1 m ss1 ∧ IsR fI w' qo1 n xps ∧ ss1.map (·.l) = xss ∧ (∀ p ∈ ss1, p.l.length = p.n) ∧ n ≤ qc1 ∧ e = .returned (.tuple #[.agg #[.int .i64 da, .int .u64 db, .int .i64 dl, .int .i64 dd, .int .i64 de, .int .i64 df, .int .i64 dg, .string dt, .slice po1 m pc1, .slice qo1 n qc1], .int .i64 kk, .int .i64 er])) from fun u => prs_open hpr hm hn u (parse_any S u))
    have HR := Lib.hid (show ∀ u : World, Calls Tryd.prog 19 #[.string S] u (fun e w' => Below u.heap.size u w' ∧ ∃ po1 pc1 qo1 qc1 ss1, IsPg w' po1 m ss1 ∧ IsR fI w' qo1 n xps ∧ ss1.map (·.l) = xss ∧ (∀ p ∈ ss1, p.l.length = p.n) ∧ n ≤ qc1 ∧ e = .returned (.tuple #[.agg #[.int .i64 da, .int .u64 db, .int .i64 dl, .int .i64 dd, .int .i64 de, .int .i64 df, .int .i64 dg, .string dt, .slice po1 m pc1, .slice qo1 n qc1], .int .i64 kk, .int .i64 er])) from fun u => prs_open hpr hm hn u (refParse_all S u))
    clear hpr hm hn hf1 hf2 hf3
    by_cases h1 : 5000 < S.size
    · have d1 : decide ((5000 : Int) < (S.size : Int)) = true := decide_eq_true (by omega)
      have e1 : (5000 : Int) < (S.size : Int) := by omega
      have d2 : decide ((S.size : Int) ≤ 65536) = false := decide_eq_false (by omega)
      have e2 : ¬ ((S.size : Int) ≤ 65536) := by omega
      clear hg1
      clear hg h1
      go_enter Tryd.func6, Tryd.ntmps6
      go_wp2_with fail
      refine (HA.out _).mono ?_; rintro e v1 ⟨hb1, po1, pc1, qo1, qc1, ss1, hp1, hq1, hs1, hl1, hc1, rfl⟩
      have HX1 := Lib.hid (block_new v1 (.cells #[.int .i64 da, .int .u64 db, .int .i64 dl, .int .i64 dd, .int .i64 de, .int .i64 df, .int .i64 dg, .string dt, .slice po1 m pc1, .slice qo1 n qc1] 42))
      have HB2 := Lib.hid ((Below.refl v1.heap.size v1).alloc (Nat.le_refl _) (.cells #[.int .i64 da, .int .u64 db, .int .i64 dl, .int .i64 dd, .int .i64 de, .int .i64 df, .int .i64 dg, .string dt, .slice po1 m pc1, .slice qo1 n qc1] 42))
      have HC1 := Lib.hid hb1
      have HP1 := Lib.hid hp1
      have HQ1 := Lib.hid hq1
      have HS1 := Lib.hid hs1
      have HL1 := Lib.hid hl1
      clear hb1 hp1 hq1 hs1 hl1 hc1
      go_wp2_with fail
      refine (HR.out _).mono ?_; rintro e v3 ⟨hb3, po2, pc2, qo2, qc2, ss2, hp2, hq2, hs2, hl2, hc2, rfl⟩
      have HX3 := Lib.hid (block_below hb3 HX1.out (by simp))
      have HX4 := Lib.hid (block_new v3 (.cells #[.int .i64 da, .int .u64 db, .int .i64 dl, .int .i64 dd, .int .i64 de, .int .i64 df, .int .i64 dg, .string dt, .slice po2 m pc2, .slice qo2 n qc2] 42))
      have HB4 := Lib.hid ((Below.refl v3.heap.size v3).alloc (Nat.le_refl _) (.cells #[.int .i64 da, .int .u64 db, .int .i64 dl, .int .i64 dd, .int .i64 de, .int .i64 df, .int .i64 dg, .string dt, .slice po2 m pc2, .slice qo2 n qc2] 42))
      have HX5 := Lib.hid (block_alloc HX3.out (.cells #[.int .i64 da, .int .u64 db, .int .i64 dl, .int .i64 dd, .int .i64 de, .int .i64 df, .int .i64 dg, .string dt, .slice po2 m pc2, .slice qo2 n qc2] 42))
      have HBB := Lib.hid (below_two HB2.out (below_two hb3 HB4.out))
      have HEQ := Lib.hid (eqScript_true ⟨da, db, dl, dd, de, df, dg, dt⟩ po1 po2 m pc1 pc2 qo1 qo2 n qc1 qc2 ss1 ss2 xps _ (HP1.out.later HBB.out) (hp2.later HB4.out) (by rw [HS1.out, hs2]) (HQ1.out.later HBB.out) (hq2.later HB4.out) (by omega) (fun s hs => by have := HF2.out s.l (by rw [← HS1.out]; exact List.mem_map_of_mem hs); omega) (by omega))
      have HBT := Lib.hid (below_two HC1.out HBB.out)
      have hz3 : v1.heap.size < v3.heap.size := block_lt HX3.out
      clear hb3 hp2 hq2 hs2 hl2 hc2
      have q0 := block_cell HX5.out 0
      have q1 := block_cell HX5.out 1
      have q2 := block_cell HX5.out 2
      have q3 := block_cell HX5.out 3
      have q4 := block_cell HX5.out 4
      have q5 := block_cell HX5.out 5
      have q6 := block_cell HX5.out 6
      have q7 := block_cell HX5.out 7
      have q8 := block_cell HX5.out 8
      have q9 := block_cell HX5.out 9
      simp at q0 q1 q2 q3 q4 q5 q6 q7 q8 q9
      go_wp2_with fail
      refine (HEQ.out).mono ?_; rintro e v5 ⟨rfl, hb5⟩
      have HB5 := Lib.hid (below_two HBT.out hb5)
      clear hb5
      go_wp2_with fail
      go_ret
      exact ⟨rfl, HB5.out⟩
    · have d1 : decide ((5000 : Int) < (S.size : Int)) = false := decide_eq_false (by omega)
      have e1 : ¬ ((5000 : Int) < (S.size : Int)) := by omega
      clear hg1
      clear hg h1
      go_enter Tryd.func6, Tryd.ntmps6
      go_wp2_with fail
      refine (HA.out _).mono ?_; rintro e v1 ⟨hb1, po1, pc1, qo1, qc1, ss1, hp1, hq1, hs1, hl1, hc1, rfl⟩
      have HX1 := Lib.hid (block_new v1 (.cells #[.int .i64 da, .int .u64 db, .int .i64 dl, .int .i64 dd, .int .i64 de, .int .i64 df, .int .i64 dg, .string dt, .slice po1 m pc1, .slice qo1 n qc1] 42))
      have HB2 := Lib.hid ((Below.refl v1.heap.size v1).alloc (Nat.le_refl _) (.cells #[.int .i64 da, .int .u64 db, .int .i64 dl, .int .i64 dd, .int .i64 de, .int .i64 df, .int .i64 dg, .string dt, .slice po1 m pc1, .slice qo1 n qc1] 42))
      have HC1 := Lib.hid hb1
      have HP1 := Lib.hid hp1
      have HQ1 := Lib.hid hq1
      have HS1 := Lib.hid hs1
      have HL1 := Lib.hid hl1
      clear hb1 hp1 hq1 hs1 hl1 hc1
      go_wp2_with fail
      refine (HR.out _).mono ?_; rintro e v3 ⟨hb3, po2, pc2, qo2, qc2, ss2, hp2, hq2, hs2, hl2, hc2, rfl⟩
      have HX3 := Lib.hid (block_below hb3 HX1.out (by simp))
      have HX4 := Lib.hid (block_new v3 (.cells #[.int .i64 da, .int .u64 db, .int .i64 dl, .int .i64 dd, .int .i64 de, .int .i64 df, .int .i64 dg, .string dt, .slice po2 m pc2, .slice qo2 n qc2] 42))
      have HB4 := Lib.hid ((Below.refl v3.heap.size v3).alloc (Nat.le_refl _) (.cells #[.int .i64 da, .int .u64 db, .int .i64 dl, .int .i64 dd, .int .i64 de, .int .i64 df, .int .i64 dg, .string dt, .slice po2 m pc2, .slice qo2 n qc2] 42))
      have HX5 := Lib.hid (block_alloc HX3.out (.cells #[.int .i64 da, .int .u64 db, .int .i64 dl, .int .i64 dd, .int .i64 de, .int .i64 df, .int .i64 dg, .string dt, .slice po2 m pc2, .slice qo2 n qc2] 42))
      have HBB := Lib.hid (below_two HB2.out (below_two hb3 HB4.out))
      have HEQ := Lib.hid (eqScript_true ⟨da, db, dl, dd, de, df, dg, dt⟩ po1 po2 m pc1 pc2 qo1 qo2 n qc1 qc2 ss1 ss2 xps _ (HP1.out.later HBB.out) (hp2.later HB4.out) (by rw [HS1.out, hs2]) (HQ1.out.later HBB.out) (hq2.later HB4.out) (by omega) (fun s hs => by have := HF2.out s.l (by rw [← HS1.out]; exact List.mem_map_of_mem hs); omega) (by omega))
      have HBT := Lib.hid (below_two HC1.out HBB.out)
      have hz3 : v1.heap.size < v3.heap.size := block_lt HX3.out
      clear hb3 hp2 hq2 hs2 hl2 hc2
      have q0 := block_cell HX5.out 0
      have q1 := block_cell HX5.out 1
      have q2 := block_cell HX5.out 2
      have q3 := block_cell HX5.out 3
      have q4 := block_cell HX5.out 4
      have q5 := block_cell HX5.out 5
      have q6 := block_cell HX5.out 6
      have q7 := block_cell HX5.out 7
      have q8 := block_cell HX5.out 8
      have q9 := block_cell HX5.out 9
      simp at q0 q1 q2 q3 q4 q5 q6 q7 q8 q9
      go_wp2_with fail
      refine (HEQ.out).mono ?_; rintro e v5 ⟨rfl, hb5⟩
      have HB5 := Lib.hid (below_two HBT.out hb5)
      clear hb5
      go_wp2_with fail
      go_ret
      exact ⟨rfl, HB5.out⟩
end Go.Proofs.YtdfkbahlngijcaaDoor

