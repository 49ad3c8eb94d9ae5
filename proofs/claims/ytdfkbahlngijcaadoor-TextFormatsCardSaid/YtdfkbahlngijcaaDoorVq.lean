/- Text: the law Formats: its walk. -/
import Derived.Test.YtdfkbahlngijcaaDoorVo
import Derived.Test.YtdfkbahlngijcaaDoorVp
namespace Go.Proofs.YtdfkbahlngijcaaDoor
open Go.RowKit
set_option linter.unusedVariables false

set_option maxRecDepth 100000 in
set_option maxHeartbeats 8000000 in
theorem formats_law (c : Cf) (po : Option Addr) (pn pc : Nat) (qo : Option Addr) (qn qc : Nat) (ss : List Pg) (ps : List Int) (w : World) (hp : IsPg w po pn ss) (hq : IsR fI w qo qn ps) (hqc : qn ≤ qc) (hov : ∀ s ∈ ss, ∀ x ∈ s.l, OvOk x) (htab : Tab w) :
    Calls Tryd.prog 5 #[.agg #[.int .i64 c.slots, .int .u64 c.gens, .int .i64 c.clients, .int .i64 c.readers, .int .i64 c.queue, .int .i64 c.batch, .int .i64 c.feed, .string c.t, .slice po pn pc, .slice qo qn qc]] w fun e w' => e = .returned (.bool true) ∧ Below w.heap.size w w' := by
  have HB0 := Lib.hid ((Below.refl w.heap.size w).alloc (Nat.le_refl _) (.cells (scA c po pn pc qo qn qc) 42))
  have HNB := Lib.hid (block_new w (.cells (scA c po pn pc qo qn qc) 42))
  have HP1 := Lib.hid (hp.later HB0.out)
  have HS := Lib.hid (small_any c po pn pc qo qn qc ss _ HP1.out)
  have HF := Lib.hid (fun (u : World) (hu : Below w.heap.size w u) (h : SmallZ c pn qn ss) => formatT_any c po pn pc qo qn qc ss ps u (hp.later hu) (hq.later hu) (by have := h.t; omega) (fun s hs x hx => by have := h.op s hs x hx; omega) (by have := h.pn; omega) (by have := h.qn; omega) hov (Tab.below htab hu) hqc)
  have HG := Lib.hid (fun (u : World) (hu : Below w.heap.size w u) (h : SmallZ c pn qn ss) => refFormat_any c po pn pc qo qn qc ss ps u (hp.later hu) (hq.later hu) (by have := h.t; omega) (fun s hs x hx => by have := h.op s hs x hx; omega) (by have := h.pn; omega) (by have := h.qn; omega) hov)
  have HZ := Lib.hid (fun (h : smallS c pn qn ss = true) => small_of h)
  generalize (fmtR c ss ps).1 = l1 at *
  generalize (fmtR c ss ps).2 = e1 at *
  generalize SmallZ c pn qn ss = SZ at *
  generalize hS : smallS c pn qn ss = S at *
  obtain ⟨ca, cb, cl, cd, ce, cf, cg, t⟩ := c
  unfold scA at HNB HB0 HP1 HS
  simp only at HNB HB0 HP1 HS HF HG ⊢
  have q0 := block_cell HNB.out 0
  have q1 := block_cell HNB.out 1
  have q2 := block_cell HNB.out 2
  have q3 := block_cell HNB.out 3
  have q4 := block_cell HNB.out 4
  have q5 := block_cell HNB.out 5
  have q6 := block_cell HNB.out 6
  have q7 := block_cell HNB.out 7
  have q8 := block_cell HNB.out 8
  have q9 := block_cell HNB.out 9
  simp at q0 q1 q2 q3 q4 q5 q6 q7 q8 q9
  clear hp hq htab hov hS
  go_enter Tryd.func5, Tryd.ntmps5
  go_wp2_with fail
  refine (HS.out).mono ?_; rintro e w2 ⟨rfl, hb2⟩
  have HB2 := Lib.hid (below_two HB0.out hb2)
  have HO2 := Lib.hid (block_below hb2 HNB.out (by simp))
  clear hb2 q0 q1 q2 q3 q4 q5 q6 q7 q8 q9 HS HP1
  rcases S with _ | _
  · go_wp2_with fail
    go_ret
    exact ⟨rfl, HB2.out⟩
  · have HZZ := Lib.hid (HZ.out rfl)
    have q0 := block_cell HO2.out 0
    have q1 := block_cell HO2.out 1
    have q2 := block_cell HO2.out 2
    have q3 := block_cell HO2.out 3
    have q4 := block_cell HO2.out 4
    have q5 := block_cell HO2.out 5
    have q6 := block_cell HO2.out 6
    have q7 := block_cell HO2.out 7
    have q8 := block_cell HO2.out 8
    have q9 := block_cell HO2.out 9
    simp at q0 q1 q2 q3 q4 q5 q6 q7 q8 q9
    go_wp2_with fail
    refine (HF.out _ HB2.out HZZ.out).mono ?_; rintro e w3 ⟨rfl, hb3⟩
    have HB3 := Lib.hid (below_two HB2.out hb3)
    have HO3 := Lib.hid (block_below hb3 HO2.out (block_lt HO2.out))
    clear hb3 q0 q1 q2 q3 q4 q5 q6 q7 q8 q9
    have q0 := block_cell HO3.out 0
    have q1 := block_cell HO3.out 1
    have q2 := block_cell HO3.out 2
    have q3 := block_cell HO3.out 3
    have q4 := block_cell HO3.out 4
    have q5 := block_cell HO3.out 5
    have q6 := block_cell HO3.out 6
    have q7 := block_cell HO3.out 7
    have q8 := block_cell HO3.out 8
    have q9 := block_cell HO3.out 9
    simp at q0 q1 q2 q3 q4 q5 q6 q7 q8 q9
    go_wp2_with fail
    refine (HG.out _ HB3.out HZZ.out).mono ?_; rintro e w4 ⟨rfl, hb4⟩
    have HB4 := Lib.hid (below_two HB3.out hb4)
    clear hb4 q0 q1 q2 q3 q4 q5 q6 q7 q8 q9
    go_wp2_with fail
    go_ret
    exact ⟨rfl, HB4.out⟩
end Go.Proofs.YtdfkbahlngijcaaDoor

