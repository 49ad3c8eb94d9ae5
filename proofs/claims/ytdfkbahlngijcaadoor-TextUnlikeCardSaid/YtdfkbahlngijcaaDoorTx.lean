/- Text: the law Results: its walk. -/
import Derived.Test.YtdfkbahlngijcaaDoorTw
namespace Go.Proofs.YtdfkbahlngijcaaDoor
open Go.RowKit
set_option linter.unusedVariables false

set_option maxRecDepth 100000 in
set_option maxHeartbeats 8000000 in
theorem results_law (r : Rs) (ao : Option Addr) (n c : Nat) (w : World) (ht : Tab w) (h : IsR fP w ao n r.d) (hn : n ≤ 9223372036854775807) (hg : 0 ≤ r.gr ∧ r.gr < 256) (hk : 0 ≤ r.ik ∧ r.ik < 256) :
    Calls Tryd.prog 3 #[.agg (rsV r ao n c)] w fun e w' => e = .returned (.bool true) ∧ Below w.heap.size w w' := by
  have hl := h.1
  have HR := Lib.hid h
  have HT := Lib.hid ht
  have HG := Lib.hid hg
  have HK := Lib.hid hk
  have HB := Lib.hid ((Below.refl w.heap.size w).alloc (Nat.le_refl _) (.cells (rsV r ao n c) 29))
  have HBX := Lib.hid (block_new w (.cells (rsV r ao n c) 29))
  obtain ⟨R, S, X, hR⟩ : ∃ R S X, R = r ∧ resR r = (S, X) := ⟨_, _, _, rfl, rfl⟩
  have HRS := Lib.hid hR
  clear h ht hg hk hR
  have HC1 := Lib.hid (fun (u : World) (hu : Below w.heap.size w u) (hs : r.t.size ≤ 1000) => by
    have := textResult_any r ao n c u (HR.out.later hu) hn (HT.out.below hu) (by omega) HG.out HK.out
    rw [HRS.out.2] at this
    exact this)
  have HC2 := Lib.hid (fun (u : World) (hu : Below w.heap.size w u) (hs : r.t.size ≤ 1000) => by
    have := refResult_any r ao n c u (HR.out.later hu) hn (by omega) HG.out HK.out
    rw [HRS.out.2] at this
    exact this)
  clear HRS HG HK
  obtain ⟨e, rev, sl, a, gr, t, mb, mr, ml, ik, fr, tu, d⟩ := r
  simp only at hl
  simp only [rsV] at HB HBX HC1 HC2 ⊢
  have HR := Lib.hid (show IsR fP w ao n d from HR.out)
  by_cases h1 : 1000 < t.size
  · have h1' : (1000 : Int) < (t.size : Int) := by omega
    clear h1
    go_enter Tryd.func3, Tryd.ntmps3
    go_wp2_with fail
    go_ret
    exact ⟨rfl, HB.out⟩
  · have h1' : ¬ ((1000 : Int) < (t.size : Int)) := by omega
    by_cases h2 : 50 < n
    · have h2' : (50 : Int) < (n : Int) := by omega
      clear h1 h2
      go_enter Tryd.func3, Tryd.ntmps3
      go_wp2_with fail
      go_ret
      exact ⟨rfl, HB.out⟩
    · have h2' : ¬ ((50 : Int) < (n : Int)) := by omega
      go_enter Tryd.func3, Tryd.ntmps3
      go_wp2_with fail
      go_loopw [3] (fun s wr => ∃ (j : Nat), j ≤ n ∧ s = .int .i64 j ∧ wr.heap[w.heap.size]? = some (.cells #[.int .i64 e, .int .i64 rev, .int .i64 sl, .int .i64 a, .int .u8 gr, .string t, .int .i64 mb, .int .i64 mr, .int .i64 ml, .int .u8 ik, .int .i64 fr, .int .i64 tu, .slice ao n c] 29 (0, 0)) ∧ Below w.heap.size w wr) (fun s _ => n - (intOf s).toNat)
      case atStart => exact ⟨0, Nat.zero_le _, rfl, HBX.out, HB.out⟩
      case round =>
        obtain ⟨j, hj, rfl, hbx, hbr⟩ := hrel
        have HBR := Lib.hid hbr
        have q12 := block_cell hbx 12
        simp at q12
        have hj0 : (0 : Int) ≤ (j : Int) := by omega
        by_cases hlt : j < n
        · have hjl : j < d.length := by omega
          have hj1 : (j : Int) < (n : Int) := by omega
          obtain ⟨bb, off, rfl, hbb, hcl⟩ := HR.out.pc hbr hlt
          obtain ⟨c0, c1, c2⟩ := hcl hjl
          have HBXR := Lib.hid hbx
          clear hcl hbr hbx c0 c1
          generalize d[j] = p at *
          by_cases h3 : 1000 < p.t.size
          · have h3' : (1000 : Int) < (p.t.size : Int) := by omega
            clear h3
            go_wp2_with fail
            go_ret
            exact ⟨rfl, HBR.out⟩
          · have h3' : ¬ ((1000 : Int) < (p.t.size : Int)) := by omega
            clear h3
            go_wp2_with fail
            go_roundw
            case rel => exact ⟨j + 1, by omega, by go_num, HBXR.out, HBR.out⟩
            case measure => simp [intOf]; omega
        · obtain rfl : j = n := by omega
          have hlt1 : ¬ ((j : Int) < (j : Int)) := by omega
          have HC3 := Lib.hid (HC1.out wr hbr (by omega))
          have q0 := block_cell hbx 0
          have q1 := block_cell hbx 1
          have q2 := block_cell hbx 2
          have q3 := block_cell hbx 3
          have q4 := block_cell hbx 4
          have q5 := block_cell hbx 5
          have q6 := block_cell hbx 6
          have q7 := block_cell hbx 7
          have q8 := block_cell hbx 8
          have q9 := block_cell hbx 9
          have q10 := block_cell hbx 10
          have q11 := block_cell hbx 11
          simp at q0 q1 q2 q3 q4 q5 q6 q7 q8 q9 q10 q11
          have HBXR := Lib.hid hbx
          clear hbr hbx
          go_wp2_with fail
          refine (HC3.out).mono ?_; rintro e1 w1 ⟨rfl, hb1⟩
          have HB1 := Lib.hid (below_two HBR.out hb1)
          have hbx := block_below hb1 HBXR.out (block_lt HBXR.out)
          clear q0 q1 q2 q3 q4 q5 q6 q7 q8 q9 q10 q11 q12 hb1
          have HC4 := Lib.hid (HC2.out w1 HB1.out (by omega))
          have q0 := block_cell hbx 0
          have q1 := block_cell hbx 1
          have q2 := block_cell hbx 2
          have q3 := block_cell hbx 3
          have q4 := block_cell hbx 4
          have q5 := block_cell hbx 5
          have q6 := block_cell hbx 6
          have q7 := block_cell hbx 7
          have q8 := block_cell hbx 8
          have q9 := block_cell hbx 9
          have q10 := block_cell hbx 10
          have q11 := block_cell hbx 11
          have q12 := block_cell hbx 12
          simp at q0 q1 q2 q3 q4 q5 q6 q7 q8 q9 q10 q11 q12
          clear hbx
          go_wp2_with fail
          refine (HC4.out).mono ?_; rintro e2 w2 ⟨rfl, hb2⟩
          have HB2 := Lib.hid (below_two HB1.out hb2)
          clear q0 q1 q2 q3 q4 q5 q6 q7 q8 q9 q10 q11 q12 hb2
          go_wp2_with fail
          go_ret
          exact ⟨rfl, HB2.out⟩

end Go.Proofs.YtdfkbahlngijcaaDoor
