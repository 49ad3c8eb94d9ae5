/- Text: EqualScript where both scripts read alike. (printed by slim.py.) -/
import Derived.Test.YtdfkbahlngijcaaDoorQWc
import Derived.BigQuiet
namespace Go.Proofs.YtdfkbahlngijcaaDoor
open Go.RowKit
set_option linter.unusedVariables false

theorem drewn2 (w : World) (m n : Nat) : ∃ k, (w.drewN m).drewN n = w.drewN k := ⟨m + n, by simp only [World.drewN, Nat.add_assoc]⟩
theorem IsR.num {w w' : World} {ao : Option Addr} {m : Nat} {l : List Int} (h : IsR fI w ao m l) (hb : Below w.heap.size w w') {j : Nat} (hj : j < m) :
    ∃ b off, ao = some ⟨b, off, none⟩ ∧ ∀ (hjl : j < l.length), w'.cell? ⟨b, off + j, none⟩ = some (.int .i64 l[j]) := by
  obtain ⟨b, off, e, hlt, h3⟩ := h.2 (by omega)
  refine ⟨b, off, e, fun hjl => ?_⟩
  have hf : ∀ x : Int, (fI x).length = 1 := fun _ => rfl
  have := h3 (j * 1 + 0) (.int .i64 l[j]) (by rw [flatR_at hf l j 0 hjl (by decide)]; rfl)
  rw [Nat.mul_one, Nat.add_zero] at this
  exact (hb.cell (p := ⟨b, off + j, none⟩) hlt).trans this
set_option maxRecDepth 100000 in
set_option maxHeartbeats 4000000 in
theorem eqInts_true (ao bo : Option Addr) (n c d : Nat) (l : List Int) (w : World) (h : IsR fI w ao n l) (k : IsR fI w bo n l) (hn : n ≤ 1000000) :
    Calls Tryd.prog 50 #[.slice ao n c, .slice bo n d] w fun e w' => e = .returned (.bool true) ∧ ∃ m, w' = w.drewN m := by
  have hl := h.1
  have HA := Lib.hid h
  have HK := Lib.hid k
  clear h k
  go_enter Tryd.func50, Tryd.ntmps50
  go_wp2_with fail
  go_loopw [5] (fun s wr => ∃ (j : Nat), j ≤ n ∧ s = .int .i64 j ∧ ∃ m, wr = w.drewN m) (fun s _ => n - (intOf s).toNat)
  case atStart => exact ⟨0, Nat.zero_le _, rfl, 0, rfl⟩
  case round =>
    obtain ⟨j, hj, rfl, m, rfl⟩ := hrel
    by_cases hlt : j < n
    · have hbr : Below w.heap.size w w := Below.refl _ _
      have hjl : j < l.length := by omega
      have hj1 : (j : Int) < (n : Int) := by omega
      have hj0 : (0 : Int) ≤ (j : Int) := by omega
      obtain ⟨b1, o1, rfl, hc1⟩ := HA.out.num hbr hlt
      obtain ⟨b2, o2, rfl, hc2⟩ := HK.out.num hbr hlt
      have q1 := hc1 hjl
      have q2 := hc2 hjl
      generalize l[j] = q at *
      clear hc1 hc2 hbr
      go_wp2_with fail
      go_quiet (fail)
      go_wp2_with fail
      go_roundw
      case rel => exact ⟨j + 1, by omega, by go_num, _, rfl⟩
      case measure => simp [intOf]; omega
    · obtain rfl : j = n := by omega
      go_wp2_with fail
      go_ret
      exact ⟨rfl, _, rfl⟩
set_option maxRecDepth 100000 in
set_option maxHeartbeats 4000000 in
theorem eqOps_true (ao bo : Option Addr) (n c d : Nat) (l : List Ov) (w : World) (h : IsR fO w ao n l) (k : IsR fO w bo n l) (hn : n ≤ 1000000) :
    Calls Tryd.prog 51 #[.slice ao n c, .slice bo n d] w fun e w' => e = .returned (.bool true) ∧ ∃ m, w' = w.drewN m := by
  have hl := h.1
  have HA := Lib.hid h
  have HK := Lib.hid k
  clear h k
  go_enter Tryd.func51, Tryd.ntmps51
  go_wp2_with fail
  go_loopw [5] (fun s wr => ∃ (j : Nat), j ≤ n ∧ s = .int .i64 j ∧ ∃ m, wr = w.drewN m) (fun s _ => n - (intOf s).toNat)
  case atStart => exact ⟨0, Nat.zero_le _, rfl, 0, rfl⟩
  case round =>
    obtain ⟨j, hj, rfl, m, rfl⟩ := hrel
    by_cases hlt : j < n
    · have hbr : Below w.heap.size w w := Below.refl _ _
      have hjl : j < l.length := by omega
      have hj1 : (j : Int) < (n : Int) := by omega
      have hj0 : (0 : Int) ≤ (j : Int) := by omega
      obtain ⟨b1, o1, rfl, -, hc1⟩ := HA.out.op hbr hlt
      obtain ⟨b2, o2, rfl, -, hc2⟩ := HK.out.op hbr hlt
      have q1 := hc1 hjl
      have q2 := hc2 hjl
      generalize l[j] = q at *
      obtain ⟨qk, qs, qa, qn, qi, qg, qt⟩ := q
      have p0 := q1 0 (.int .u8 qk) rfl
      have p1 := q1 1 (.int .i64 qs) rfl
      have p2 := q1 2 (.int .i64 qa) rfl
      have p3 := q1 3 (.int .i64 qn) rfl
      have p4 := q1 4 (.int .u32 qi) rfl
      have p5 := q1 5 (.int .u8 qg) rfl
      have p6 := q1 6 (.string qt) rfl
      have r0 := q2 0 (.int .u8 qk) rfl
      have r1 := q2 1 (.int .i64 qs) rfl
      have r2 := q2 2 (.int .i64 qa) rfl
      have r3 := q2 3 (.int .i64 qn) rfl
      have r4 := q2 4 (.int .u32 qi) rfl
      have r5 := q2 5 (.int .u8 qg) rfl
      have r6 := q2 6 (.string qt) rfl
      simp only [Nat.add_zero] at p0 r0
      clear hc1 hc2 hbr q1 q2
      go_wp2_with fail
      go_quiet (fail)
      go_wp2_with fail
      go_roundw
      case rel => exact ⟨j + 1, by omega, by go_num, _, rfl⟩
      case measure => simp [intOf]; omega
    · obtain rfl : j = n := by omega
      go_wp2_with fail
      go_ret
      exact ⟨rfl, _, rfl⟩
set_option maxRecDepth 100000 in
set_option maxHeartbeats 8000000 in
theorem eqScript_true (c : Cf) (po po' : Option Addr) (pn pc pc' : Nat) (qo qo' : Option Addr) (qn qc qc' : Nat) (ss ss' : List Pg) (ps : List Int) (w : World) (hp : IsPg w po pn ss) (hp' : IsPg w po' pn ss') (hs : ss.map (·.l) = ss'.map (·.l)) (hq : IsR fI w qo qn ps) (hq' : IsR fI w qo' qn ps) (hpn : pn ≤ 1000000) (hpl : ∀ s ∈ ss, s.l.length ≤ 1000000) (hqn : qn ≤ 1000000) :
    Calls Tryd.prog 20 #[.agg #[.int .i64 c.slots, .int .u64 c.gens, .int .i64 c.clients, .int .i64 c.readers, .int .i64 c.queue, .int .i64 c.batch, .int .i64 c.feed, .string c.t, .slice po pn pc, .slice qo qn qc], .agg #[.int .i64 c.slots, .int .u64 c.gens, .int .i64 c.clients, .int .i64 c.readers, .int .i64 c.queue, .int .i64 c.batch, .int .i64 c.feed, .string c.t, .slice po' pn pc', .slice qo' qn qc']] w fun e w' => e = .returned (.bool true) ∧ Below w.heap.size w w' := by
  have HB1 := Lib.hid ((Below.refl w.heap.size w).alloc (Nat.le_refl _) (.cells (scA c po pn pc qo qn qc) 42))
  have HN1 := Lib.hid (block_new w (.cells (scA c po pn pc qo qn qc) 42))
  generalize hW1 : w.alloc (.cells (scA c po pn pc qo qn qc) 42) = W1 at *
  have HB2 := Lib.hid (HB1.out.alloc HB1.out.size (.cells (scA c po' pn pc' qo' qn qc') 42))
  have HN2 := Lib.hid (block_new W1 (.cells (scA c po' pn pc' qo' qn qc') 42))
  have HM2 := Lib.hid (block_alloc HN1.out (.cells (scA c po' pn pc' qo' qn qc') 42))
  have hz1 : W1.heap.size = w.heap.size + 1 := by rw [← hW1]; simp
  subst hW1
  obtain ⟨ca, cb, cl, cd, ce, cf, cg, t⟩ := c
  unfold scA at HN1 HN2 HM2 HB2 HB1
  simp only at HN1 HN2 HM2 HB2 HB1 ⊢
  have HP := Lib.hid hp
  have HP' := Lib.hid hp'
  have HS := Lib.hid hs
  have HPL := Lib.hid hpl
  have hpl1 : ss.length = pn := hp.1.1
  have hpl2 : ss'.length = pn := hp'.1.1
  have HQ := Lib.hid hq
  have HQ' := Lib.hid hq'
  have HI := Lib.hid (eqInts_true qo qo' qn qc qc' ps _ (hq.later HB2.out) (hq'.later HB2.out) hqn)
  clear hp hp' hs hq hq' hz1 HB1 HN1 hpl
  go_enter Tryd.func20, Tryd.ntmps20
  go_wp2_with fail
  refine (HI.out).mono ?_; rintro e1 w1 ⟨rfl, m1, hw1⟩
  have HW1 := Lib.hid hw1
  have HB1 := Lib.hid (show Below w.heap.size w w1 by rw [HW1.out]; exact below_drewN HB2.out m1)
  have HX1 := Lib.hid (show w1.heap[w.heap.size]? = some (.cells #[.int .i64 ca, .int .u64 cb, .int .i64 cl, .int .i64 cd, .int .i64 ce, .int .i64 cf, .int .i64 cg, .string t, .slice po pn pc, .slice qo qn qc] 42 (0, 0)) by rw [HW1.out]; exact HM2.out)
  have HX2 := Lib.hid (show w1.heap[w.heap.size + 1]? = some (.cells #[.int .i64 ca, .int .u64 cb, .int .i64 cl, .int .i64 cd, .int .i64 ce, .int .i64 cf, .int .i64 cg, .string t, .slice po' pn pc', .slice qo' qn qc'] 42 (0, 0)) by
    have h9 := HN2.out
    rw [World.size_alloc] at h9
    rw [HW1.out]; exact h9)
  have c8 : w1.cell? ⟨w.heap.size, 8, none⟩ = some (.slice po pn pc) := block_cell HX1.out 8
  have d8 : w1.cell? ⟨w.heap.size + 1, 8, none⟩ = some (.slice po' pn pc') := block_cell HX2.out 8
  clear hw1 HI
  go_wp2_with fail
  go_loopw [5] (fun s wr => ∃ (j : Nat), j ≤ pn ∧ s = .int .i64 j ∧ ∃ m, wr = w1.drewN m) (fun s _ => pn - (intOf s).toNat)
  case atStart => exact ⟨0, Nat.zero_le _, rfl, 0, rfl⟩
  case round =>
    obtain ⟨j, hj, rfl, m, hwi⟩ := hrel
    have HWI := Lib.hid hwi
    have hbr : Below w.heap.size w wr := by rw [hwi]; exact below_drewN HB1.out m
    have p8 : wr.cell? ⟨w.heap.size, 8, none⟩ = some (.slice po pn pc) := by rw [hwi]; exact c8
    have r8 : wr.cell? ⟨w.heap.size + 1, 8, none⟩ = some (.slice po' pn pc') := by rw [hwi]; exact d8
    clear hwi c8 d8
    by_cases hlt : j < pn
    · have hj1 : (j : Int) < (pn : Int) := by omega
      have hj0 : (0 : Int) ≤ (j : Int) := by omega
      have hjl : j < ss.length := by omega
      have hjl' : j < ss'.length := by omega
      obtain ⟨b1, o1, rfl, -, hc1⟩ := HP.out.at hbr hlt
      obtain ⟨b2, o2, rfl, -, hc2⟩ := HP'.out.at hbr hlt
      have q1 := hc1 hjl
      have q2 := hc2 hjl'
      have hll : ss[j].l = ss'[j].l := by
        have h5 := congrArg (fun x => x[j]?) HS.out
        simp only [List.getElem?_map, List.getElem?_eq_getElem hjl, List.getElem?_eq_getElem hjl', Option.map_some, Option.some.injEq] at h5
        exact h5
      have hR1 := HP.out.2 ss[j] (List.getElem_mem hjl)
      have hR2 := HP'.out.2 ss'[j] (List.getElem_mem hjl')
      have hln := HPL.out ss[j] (List.getElem_mem hjl)
      have hnn : ss'[j].n = ss[j].n := by rw [← hR1.1, ← hR2.1, hll]
      rw [← hll] at hR2
      rw [hnn] at hR2 q2
      generalize ss[j] = p at *
      generalize ss'[j] = r at *
      have HE := Lib.hid (fun k => eqOps_true p.a r.a p.n p.c r.c p.l (wr.drewN k) (hR1.later (below_drewN hbr k)) (hR2.later (below_drewN hbr k)) (by rw [← hR1.1]; exact hln))
      clear hc1 hc2 hbr hll hR1 hR2 hln hnn
      go_wp2_with fail
      go_quiet ((go_at_call 51; exact Calls.quiet_of (HE.out _)))
      go_wp2_with fail
      go_roundw
      case rel => exact ⟨j + 1, by omega, by go_num, by rw [HWI.out]; exact drewn2 _ _ _⟩
      case measure => simp [intOf]; omega
    · obtain rfl : j = pn := by omega
      go_wp2_with fail
      go_ret
      exact ⟨rfl, by have := HWI.out; rw [this]; exact below_drewN HB1.out m⟩
end Go.Proofs.YtdfkbahlngijcaaDoor

