/- Text: the law Unlike: its walk. -/
import Derived.Test.YtdfkbahlngijcaaDoorTy
namespace Go.Proofs.YtdfkbahlngijcaaDoor
open Go.RowKit
set_option linter.unusedVariables false

theorem res_either (r : Rs) : (resR r).2 = 0 ∨ resR r = ([], 2) := by
  unfold resR
  by_cases h0 : r.e ≠ 0
  · rw [if_pos h0]
    by_cases h1 : r.e < 0 ∨ zeroR r = false ∨ 9999999999 < r.e
    · rw [if_pos h1]; exact .inr rfl
    · rw [if_neg h1]; exact .inl rfl
  · rw [if_neg h0]
    by_cases h1 : allOK (nums1 r) = true ∧ allOK (nums2 r) = true ∧ checkP r.d = 0
    · rw [if_pos h1]; exact .inl rfl
    · rw [if_neg h1]; exact .inr rfl
theorem str_ne {t u : ByteArray} (h : t ≠ u) : (t == u) = false := by
  show (t.data == u.data) = false
  rw [beq_eq_false_iff_ne]
  exact fun e => h (ByteArray.ext e)
theorem str_ne' {t u : ByteArray} (h : t ≠ u) : (t.toList == u.toList) = false := by
  rw [beq_eq_false_iff_ne, ByteArray.toList_eq, ByteArray.toList_eq]
  exact fun e => h (ByteArray.ext (Array.toList_inj.1 e))

set_option maxRecDepth 100000 in
set_option maxHeartbeats 8000000 in
theorem unlike_law (r s : Rs) (ao bo : Option Addr) (n c m x : Nat) (w : World) (ht : Tab w) (h : IsR fP w ao n r.d) (k : IsR fP w bo m s.d) (hn : n ≤ 9223372036854775807) (hm : m ≤ 9223372036854775807) (hg1 : 0 ≤ r.gr ∧ r.gr < 256) (hk1 : 0 ≤ r.ik ∧ r.ik < 256) (hg2 : 0 ≤ s.gr ∧ s.gr < 256) (hk2 : 0 ≤ s.ik ∧ s.ik < 256) :
    Calls Tryd.prog 4 #[.agg (rsV r ao n c), .agg (rsV s bo m x)] w fun e w' => e = .returned (.bool true) ∧ Below w.heap.size w w' := by
  have hl1 := h.1
  have hl2 := k.1
  have HR1 := Lib.hid h
  have HR2 := Lib.hid k
  have HT := Lib.hid ht
  have HG := Lib.hid (And.intro hg1 (And.intro hk1 (And.intro hg2 hk2)))
  have HB := Lib.hid (((Below.refl w.heap.size w).alloc (Nat.le_refl _) (.cells (rsV r ao n c) 29)).alloc (by simp) (.cells (rsV s bo m x) 29))
  have HBX1 := Lib.hid (block_alloc (block_new w (.cells (rsV r ao n c) 29)) (.cells (rsV s bo m x) 29))
  have HBX2 := Lib.hid (block_new' (w.alloc (.cells (rsV r ao n c) 29)) (.cells (rsV s bo m x) 29) (w.heap.size + 1) (by simp))
  obtain ⟨SA, hA⟩ : ∃ S : ByteArray, S = ⟨(resR r).1.toArray⟩ := ⟨_, rfl⟩
  obtain ⟨SB, hB⟩ : ∃ S : ByteArray, S = ⟨(resR s).1.toArray⟩ := ⟨_, rfl⟩
  obtain ⟨xa, hxa⟩ : ∃ x, x = (resR r).2 := ⟨_, rfl⟩
  obtain ⟨xb, hxb⟩ : ∃ x, x = (resR s).2 := ⟨_, rfl⟩
  have HC1 := Lib.hid (fun (u : World) (hu : Below w.heap.size w u) (hs : r.t.size ≤ 1000) => by
    have := textResult_any r ao n c u (HR1.out.later hu) hn (HT.out.below hu) (by omega) HG.out.1 HG.out.2.1
    rw [← hA, ← hxa] at this
    exact this)
  have HC2 := Lib.hid (fun (u : World) (hu : Below w.heap.size w u) (hs : s.t.size ≤ 1000) => by
    have := textResult_any s bo m x u (HR2.out.later hu) hm (HT.out.below hu) (by omega) HG.out.2.2.1 HG.out.2.2.2
    rw [← hB, ← hxb] at this
    exact this)
  have HC3 := Lib.hid (fun (u : World) (hu : Below w.heap.size w u) => kitResult_any r s ao bo n c m x u (HR1.out.later hu) (HR2.out.later hu) hn)
  have HEA := Lib.hid (show (xa = 0) ∨ (xa = 2 ∧ SA = ⟨#[]⟩) by
    rcases res_either r with h | h
    · exact .inl (hxa.trans h)
    · exact .inr ⟨by rw [hxa, h], by rw [hA, h]⟩)
  have HEB := Lib.hid (show (xb = 0) ∨ (xb = 2 ∧ SB = ⟨#[]⟩) by
    rcases res_either s with h | h
    · exact .inl (hxb.trans h)
    · exact .inr ⟨by rw [hxb, h], by rw [hB, h]⟩)
  have HEQ := Lib.hid (show xa = 0 → xb = 0 → SA.size ≠ 0 ∧ ((SA = SB ∧ resEq r s = true) ∨ (SA ≠ SB ∧ resEq r s = false)) by
    intro e1 e2
    have k1 : resR r = ((resR r).1, 0) := by rw [← e1, hxa]
    have k2 : resR s = ((resR s).1, 0) := by rw [← e2, hxb]
    refine ⟨?_, ?_⟩
    · rw [bytes_len hA]
      exact fun e => res_ne k1 (List.eq_nil_of_length_eq_zero e)
    · by_cases e : SA = SB
      · have e3 : (resR r).1 = (resR s).1 := by
          rw [hA, hB] at e
          have := congrArg (fun b : ByteArray => b.data.toList) e
          exact this
        rw [← e3] at k2
        exact .inl ⟨e, (resEq_iff r s).2 (res_inj k1 k2)⟩
      · refine .inr ⟨e, ?_⟩
        rcases hq : resEq r s with _ | _
        · rfl
        · exact absurd (by rw [hA, hB, (resEq_iff r s).1 hq]) e)
  generalize resEq r s = z at *
  clear h k ht hg1 hk1 hg2 hk2 hA hB hxa hxb HG
  obtain ⟨e1, rev1, sl1, a1, gr1, t1, mb1, mr1, ml1, ik1, fr1, tu1, d1⟩ := r
  obtain ⟨e2, rev2, sl2, a2, gr2, t2, mb2, mr2, ml2, ik2, fr2, tu2, d2⟩ := s
  simp only at hl1 hl2
  simp only [rsV] at HB HBX1 HBX2 HC1 HC2 HC3 ⊢
  have HR1 := Lib.hid (show IsR fP w ao n d1 from HR1.out)
  have HR2 := Lib.hid (show IsR fP w bo m d2 from HR2.out)
  by_cases g0 : 1000 < t1.size
  · have g0' : (1000 : Int) < (t1.size : Int) := by omega
    clear g0
    go_enter Tryd.func4, Tryd.ntmps4
    go_wp2_with fail
    go_ret
    exact ⟨rfl, HB.out⟩
  have g0' : ¬ ((1000 : Int) < (t1.size : Int)) := by omega
  by_cases g1 : 1000 < t2.size
  · have g1' : (1000 : Int) < (t2.size : Int) := by omega
    clear g0 g1
    go_enter Tryd.func4, Tryd.ntmps4
    go_wp2_with fail
    go_ret
    exact ⟨rfl, HB.out⟩
  have g1' : ¬ ((1000 : Int) < (t2.size : Int)) := by omega
  by_cases g2 : 50 < n
  · have g2' : (50 : Int) < (n : Int) := by omega
    clear g0 g1 g2
    go_enter Tryd.func4, Tryd.ntmps4
    go_wp2_with fail
    go_ret
    exact ⟨rfl, HB.out⟩
  have g2' : ¬ ((50 : Int) < (n : Int)) := by omega
  by_cases g3 : 50 < m
  · have g3' : (50 : Int) < (m : Int) := by omega
    clear g0 g1 g2 g3
    go_enter Tryd.func4, Tryd.ntmps4
    go_wp2_with fail
    go_ret
    exact ⟨rfl, HB.out⟩
  have g3' : ¬ ((50 : Int) < (m : Int)) := by omega
  go_enter Tryd.func4, Tryd.ntmps4
  go_wp2_with fail
  go_loopw [5] (fun s wr => ∃ (j : Nat), j ≤ n ∧ s = .int .i64 j ∧ wr.heap[w.heap.size]? = some (.cells #[.int .i64 e1, .int .i64 rev1, .int .i64 sl1, .int .i64 a1, .int .u8 gr1, .string t1, .int .i64 mb1, .int .i64 mr1, .int .i64 ml1, .int .u8 ik1, .int .i64 fr1, .int .i64 tu1, .slice ao n c] 29 (0, 0)) ∧ wr.heap[w.heap.size + 1]? = some (.cells #[.int .i64 e2, .int .i64 rev2, .int .i64 sl2, .int .i64 a2, .int .u8 gr2, .string t2, .int .i64 mb2, .int .i64 mr2, .int .i64 ml2, .int .u8 ik2, .int .i64 fr2, .int .i64 tu2, .slice bo m x] 29 (0, 0)) ∧ Below w.heap.size w wr) (fun s _ => n - (intOf s).toNat)
  case atStart => exact ⟨0, Nat.zero_le _, rfl, HBX1.out, HBX2.out, HB.out⟩
  case round =>
    obtain ⟨j, hj, rfl, hbx1, hbx2, hbr⟩ := hrel
    have HBR := Lib.hid hbr
    have HX1 := Lib.hid hbx1
    have HX2 := Lib.hid hbx2
    have q12 := block_cell hbx1 12
    simp at q12
    have hj0 : (0 : Int) ≤ (j : Int) := by omega
    by_cases hlt : j < n
    · have hjl : j < d1.length := by omega
      have hj1 : (j : Int) < (n : Int) := by omega
      obtain ⟨bb, off, rfl, hbb, hcl⟩ := HR1.out.pc hbr hlt
      obtain ⟨c0, c1, c2⟩ := hcl hjl
      clear hcl hbr hbx1 hbx2 c0 c1
      generalize d1[j] = p at *
      by_cases h3 : 100 < p.t.size
      · have h3' : (100 : Int) < (p.t.size : Int) := by omega
        clear h3
        go_wp2_with fail
        go_ret
        exact ⟨rfl, HBR.out⟩
      · have h3' : ¬ ((100 : Int) < (p.t.size : Int)) := by omega
        clear h3
        go_wp2_with fail
        go_roundw
        case rel => exact ⟨j + 1, by omega, by go_num, HX1.out, HX2.out, HBR.out⟩
        case measure => simp [intOf]; omega
    · have hlt1 : ¬ ((j : Int) < (n : Int)) := by omega
      generalize wr = wa at *
      clear hbr hbx1 hbx2
      have HXa1 := HX1
      have HXa2 := HX2
      have HBa := HBR
      clear HX1 HX2 HBR
      go_wp2_with fail
      clear q12 hlt1 hj0
      go_loopw [6] (fun s wr => ∃ (j : Nat), j ≤ m ∧ s = .int .i64 j ∧ wr.heap[w.heap.size]? = some (.cells #[.int .i64 e1, .int .i64 rev1, .int .i64 sl1, .int .i64 a1, .int .u8 gr1, .string t1, .int .i64 mb1, .int .i64 mr1, .int .i64 ml1, .int .u8 ik1, .int .i64 fr1, .int .i64 tu1, .slice ao n c] 29 (0, 0)) ∧ wr.heap[w.heap.size + 1]? = some (.cells #[.int .i64 e2, .int .i64 rev2, .int .i64 sl2, .int .i64 a2, .int .u8 gr2, .string t2, .int .i64 mb2, .int .i64 mr2, .int .i64 ml2, .int .u8 ik2, .int .i64 fr2, .int .i64 tu2, .slice bo m x] 29 (0, 0)) ∧ Below w.heap.size w wr) (fun s _ => m - (intOf s).toNat)
      case atStart => exact ⟨0, Nat.zero_le _, rfl, HXa1.out, HXa2.out, HBa.out⟩
      case round =>
        obtain ⟨j, hj, rfl, hbx1, hbx2, hbr⟩ := hrel
        have HBR := Lib.hid hbr
        have HX1 := Lib.hid hbx1
        have HX2 := Lib.hid hbx2
        have q12 := block_cell hbx2 12
        simp at q12
        have hj0 : (0 : Int) ≤ (j : Int) := by omega
        by_cases hlt : j < m
        · have hjl : j < d2.length := by omega
          have hj1 : (j : Int) < (m : Int) := by omega
          obtain ⟨bb, off, rfl, hbb, hcl⟩ := HR2.out.pc hbr hlt
          obtain ⟨c0, c1, c2⟩ := hcl hjl
          clear hcl hbr hbx1 hbx2 c0 c1
          generalize d2[j] = p at *
          by_cases h3 : 100 < p.t.size
          · have h3' : (100 : Int) < (p.t.size : Int) := by omega
            clear h3
            go_wp2_with fail
            go_ret
            exact ⟨rfl, HBR.out⟩
          · have h3' : ¬ ((100 : Int) < (p.t.size : Int)) := by omega
            clear h3
            go_wp2_with fail
            go_roundw
            case rel => exact ⟨j + 1, by omega, by go_num, HX1.out, HX2.out, HBR.out⟩
            case measure => simp [intOf]; omega
        · have hlt1 : ¬ ((j : Int) < (m : Int)) := by omega
          have v12 := q12
          clear hbr hbx1 hbx2 q12
          have HC4 := Lib.hid (HC1.out wr HBR.out (by show t1.size ≤ 1000; omega))
          have hz1 := HX1.out
          have q0 := block_cell hz1 0
          have q1 := block_cell hz1 1
          have q2 := block_cell hz1 2
          have q3 := block_cell hz1 3
          have q4 := block_cell hz1 4
          have q5 := block_cell hz1 5
          have q6 := block_cell hz1 6
          have q7 := block_cell hz1 7
          have q8 := block_cell hz1 8
          have q9 := block_cell hz1 9
          have q10 := block_cell hz1 10
          have q11 := block_cell hz1 11
          have q12 := block_cell hz1 12
          simp at q0 q1 q2 q3 q4 q5 q6 q7 q8 q9 q10 q11 q12
          clear hz1
          go_wp2_with fail
          refine (HC4.out).mono ?_; rintro e3 w3 ⟨rfl, hb3⟩
          have HB3 := Lib.hid (below_two HBR.out hb3)
          have HX13 := Lib.hid (block_below hb3 HX1.out (block_lt HX1.out))
          have HX23 := Lib.hid (block_below hb3 HX2.out (block_lt HX2.out))
          clear q0 q1 q2 q3 q4 q5 q6 q7 q8 q9 q10 q11 q12 hb3 HC4 HX1 HX2 hlt1 v12
          have HC5 := Lib.hid (HC2.out w3 HB3.out (by show t2.size ≤ 1000; omega))
          have hz2 := HX23.out
          have q0 := block_cell hz2 0
          have q1 := block_cell hz2 1
          have q2 := block_cell hz2 2
          have q3 := block_cell hz2 3
          have q4 := block_cell hz2 4
          have q5 := block_cell hz2 5
          have q6 := block_cell hz2 6
          have q7 := block_cell hz2 7
          have q8 := block_cell hz2 8
          have q9 := block_cell hz2 9
          have q10 := block_cell hz2 10
          have q11 := block_cell hz2 11
          have q12 := block_cell hz2 12
          simp at q0 q1 q2 q3 q4 q5 q6 q7 q8 q9 q10 q11 q12
          clear hz2
          go_wp2_with fail
          refine (HC5.out).mono ?_; rintro e4 w4 ⟨rfl, hb4⟩
          have HB4 := Lib.hid (below_two HB3.out hb4)
          have HX14 := Lib.hid (block_below hb4 HX13.out (block_lt HX13.out))
          have HX24 := Lib.hid (block_below hb4 HX23.out (block_lt HX23.out))
          clear q0 q1 q2 q3 q4 q5 q6 q7 q8 q9 q10 q11 q12 hb4 HC5 HX13 HX23
          rcases HEA.out with ea | ⟨ea, eS⟩
          · rcases HEB.out with eb | ⟨eb, eT⟩
            · obtain ⟨hne, heq⟩ := HEQ.out ea eb
              subst ea
              subst eb
              have hne2 := str_some hne
              have HC6 := Lib.hid (HC3.out w4 HB4.out)
              have hz1 := HX14.out
              have hz2 := HX24.out
              have q0 := block_cell hz1 0
              have q1 := block_cell hz1 1
              have q2 := block_cell hz1 2
              have q3 := block_cell hz1 3
              have q4 := block_cell hz1 4
              have q5 := block_cell hz1 5
              have q6 := block_cell hz1 6
              have q7 := block_cell hz1 7
              have q8 := block_cell hz1 8
              have q9 := block_cell hz1 9
              have q10 := block_cell hz1 10
              have q11 := block_cell hz1 11
              have q12 := block_cell hz1 12
              simp at q0 q1 q2 q3 q4 q5 q6 q7 q8 q9 q10 q11 q12
              have u0 := block_cell hz2 0
              have u1 := block_cell hz2 1
              have u2 := block_cell hz2 2
              have u3 := block_cell hz2 3
              have u4 := block_cell hz2 4
              have u5 := block_cell hz2 5
              have u6 := block_cell hz2 6
              have u7 := block_cell hz2 7
              have u8 := block_cell hz2 8
              have u9 := block_cell hz2 9
              have u10 := block_cell hz2 10
              have u11 := block_cell hz2 11
              have u12 := block_cell hz2 12
              simp at u0 u1 u2 u3 u4 u5 u6 u7 u8 u9 u10 u11 u12
              clear hz1 hz2 hne HEA HEB HEQ
              rcases heq with ⟨eq, ez⟩ | ⟨eq, ez⟩
              · subst eq
                subst ez
                go_wp2_with fail
                refine (HC6.out).mono ?_; rintro e5 w5 ⟨rfl, hb5⟩
                have HB5 := Lib.hid (below_two HB4.out hb5)
                clear hb5
                go_wp2_with fail
                go_ret
                exact ⟨rfl, HB5.out⟩
              · have s1 := str_ne eq
                have s2 := str_ne' eq
                subst ez
                clear eq
                go_wp2_with fail
                refine (HC6.out).mono ?_; rintro e5 w5 ⟨rfl, hb5⟩
                have HB5 := Lib.hid (below_two HB4.out hb5)
                clear hb5
                go_wp2_with fail
                go_ret
                exact ⟨rfl, HB5.out⟩
            · subst ea
              subst eb
              subst eT
              clear HEA HEB HEQ
              go_wp2_with fail
              go_ret
              exact ⟨rfl, HB4.out⟩
          · rcases HEB.out with eb | ⟨eb, eT⟩
            · subst ea
              subst eb
              subst eS
              clear HEA HEB HEQ
              go_wp2_with fail
              go_ret
              exact ⟨rfl, HB4.out⟩
            · subst ea
              subst eb
              subst eS
              subst eT
              clear HEA HEB HEQ
              go_wp2_with fail
              go_ret
              exact ⟨rfl, HB4.out⟩

end Go.Proofs.YtdfkbahlngijcaaDoor
