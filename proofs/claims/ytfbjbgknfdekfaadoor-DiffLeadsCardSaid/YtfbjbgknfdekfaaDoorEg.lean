/- Diff: Cost of the program and of the reference: their walks. -/
import Derived.Test.YtfbjbgknfdekfaaDoorEf
namespace Go.Proofs.YtfbjbgknfdekfaaDoor
open Go.RowKit
set_option linter.unusedVariables false

set_option maxRecDepth 100000 in
set_option maxHeartbeats 4000000 in
theorem cost_any (ao : Option Addr) (n c : Nat) (l : List Pc) (w : World) (h : IsR fP w ao n l) (hn : n ≤ 9223372036854775807) :
    Calls Tryd.prog 24 #[.slice ao n c] w fun e w' => e = .returned (.tuple #[.int .i64 (costP l : Nat), .int .i64 (checkP l)]) ∧ Below w.heap.size w w' := by
  have hl := h.1
  have HR := Lib.hid h
  have HC := Lib.hid (check_any ao n c l w h hn)
  clear h
  go_enter Tryd.func24, Tryd.ntmps24
  go_wp2_with fail
  refine (HC.out).mono ?_; rintro e w1 ⟨rfl, hb1⟩
  have HB1 := Lib.hid hb1
  clear hb1 HC
  by_cases hc : checkP l = 0
  · have HE := Lib.hid (show costP l = costL l from if_pos hc)
    have HOK := Lib.hid (check_inv hc).2.1
    have HMOST := Lib.hid (cost_most hc)
    have hn4 := (check_inv hc).1
    have HCZ := Lib.hid hc
    rw [hc]
    clear hc
    go_wp2_with fail
    go_loopw [5, 15] (fun ss si wr => ∃ (j : Nat), j ≤ n ∧ si = .int .i64 j ∧ ss = .int .i64 (costL (l.take j) : Nat) ∧ Below w.heap.size w wr) (fun ss si _ => n - (intOf si).toNat)
    case atStart => exact ⟨0, Nat.zero_le _, rfl, rfl, HB1.out⟩
    case round =>
      obtain ⟨j, hj, rfl, rfl, hbr⟩ := hrel
      have HBR := Lib.hid hbr
      have hsz := hbr.size
      have hj0 : (0 : Int) ≤ (j : Int) := by omega
      by_cases hlt : j < n
      · have hjl : j < l.length := by omega
        have hj1 : (j : Int) < (n : Int) := by omega
        obtain ⟨bb, off, rfl, hbb, hcl⟩ := HR.out.pc hbr hlt
        obtain ⟨c0, c1, c2⟩ := hcl hjl
        have HPK := Lib.hid (okP_cases (HOK.out l[j] (List.getElem_mem hjl)))
        have HCT := Lib.hid (cost_take hjl)
        have hm1 := HMOST.out (j + 1)
        have hm0 := HMOST.out j
        rw [HCT.out] at hm1
        clear hcl hbr
        generalize l[j] = p at *
        obtain ⟨pk, pn, pt⟩ := p
        simp only at HPK c0 c1 c2
        obtain ⟨S, hS⟩ : ∃ S, S = costL (l.take j) := ⟨_, rfl⟩
        rw [← hS] at hm0 hm1 HCT ⊢
        clear hS
        have hwr : IntKind.i64.wrap ((j : Int) + 1) = (j : Int) + 1 := by rw [IntKind.wrap_i64]; omega
        have HBA := Lib.hid (HBR.out.alloc hsz (.cells #[.int .u8 pk, .int .i64 pn, .string pt] 45))
        rcases HPK.out with ⟨h1, h2, h3⟩ | ⟨h1, h2, h3⟩ | ⟨h1, h2, h3⟩
        · obtain rfl := str_empty h3
          subst h1
          have HCS := Lib.hid (show costL (l.take (j + 1)) = S by rw [HCT.out]; rfl)
          have hw0 : IntKind.i64.wrap (S : Int) = (S : Int) := by rw [IntKind.wrap_i64]; omega
          clear h3 HPK
          go_wp2_with fail
          go_roundw
          case rel => exact ⟨j + 1, by omega, by go_num, by rw [HCS.out] <;> go_num, HBA.out⟩
          case measure => simp [intOf]; omega
        · obtain rfl := str_empty h3
          obtain ⟨m, rfl⟩ : ∃ m : Nat, pn = m := ⟨pn.toNat, by omega⟩
          subst h1
          have HCS := Lib.hid (show costL (l.take (j + 1)) = S + m by rw [HCT.out]; show S + (m + 0) = S + m; rfl)
          have hm2 : S + m ≤ 2097152 := by
            have : cstP ⟨3, (m : Int), ⟨#[]⟩⟩ = m := rfl
            omega
          have hw0 : IntKind.i64.wrap (S : Int) = (S : Int) := by rw [IntKind.wrap_i64]; omega
          have hw1 : IntKind.i64.wrap ((S : Int) + (m : Int)) = (S : Int) + (m : Int) := by rw [IntKind.wrap_i64]; omega
          clear h3 HPK
          go_wp2_with fail
          go_roundw
          case rel => exact ⟨j + 1, by omega, by go_num, by rw [HCS.out] <;> go_num, HBA.out⟩
          case measure => simp [intOf]; omega
        · subst h1
          subst h2
          have HCS := Lib.hid (show costL (l.take (j + 1)) = S + pt.size by rw [HCT.out]; show S + (0 + pt.size) = S + pt.size; rw [Nat.zero_add])
          have hm2 : S + pt.size ≤ 2097152 := by
            have : cstP ⟨2, 0, pt⟩ = 0 + pt.size := rfl
            omega
          have hw1 : IntKind.i64.wrap ((S : Int) + (pt.size : Int)) = (S : Int) + (pt.size : Int) := by rw [IntKind.wrap_i64]; omega
          clear h3 HPK
          go_wp2_with fail
          go_roundw
          case rel => exact ⟨j + 1, by omega, by go_num, by rw [HCS.out] <;> go_num, HBA.out⟩
          case measure => simp [intOf]; omega
      · obtain rfl : j = n := by omega
        have HE2 := Lib.hid (show costP l = costL (l.take j) by rw [HE.out, List.take_of_length_le (by omega)])
        have hlt1 : ¬ ((j : Int) < (j : Int)) := by omega
        clear hbr
        go_wp2_with fail
        go_ret2
        exact ⟨by rw [HE2.out, HCZ.out] <;> rfl, HBR.out⟩
  · have HE := Lib.hid (show costP l = 0 from if_neg hc)
    have hc2 : (checkP l == 0) = false := by rw [beq_eq_false_iff_ne]; exact hc
    clear hc
    go_wp2_with fail
    go_ret2
    exact ⟨by rw [HE.out] <;> rfl, HB1.out⟩

set_option maxRecDepth 100000 in
set_option maxHeartbeats 4000000 in
theorem refCost_any (ao : Option Addr) (n c : Nat) (l : List Pc) (w : World) (h : IsR fP w ao n l) (hn : n ≤ 9223372036854775807) :
    Calls Tryd.prog 22 #[.slice ao n c] w fun e w' => e = .returned (.tuple #[.int .i64 (costP l : Nat), .int .i64 (checkP l)]) ∧ Below w.heap.size w w' := by
  have hl := h.1
  have HR := Lib.hid h
  have HC := Lib.hid (refCheck_pc ao n c l w h hn)
  clear h
  go_enter Tryd.func22, Tryd.ntmps22
  go_wp2_with fail
  refine (HC.out).mono ?_; rintro e w1 ⟨rfl, hb1⟩
  have HB1 := Lib.hid hb1
  clear hb1 HC
  by_cases hc : checkP l = 0
  · have HE := Lib.hid (show costP l = costL l from if_pos hc)
    have HOK := Lib.hid (check_inv hc).2.1
    have HMOST := Lib.hid (cost_most hc)
    have hn4 := (check_inv hc).1
    have HCZ := Lib.hid hc
    rw [hc]
    clear hc
    go_wp2_with fail
    go_loopw [5, 6] (fun ss si wr => ∃ (j : Nat), j ≤ n ∧ si = .int .i64 j ∧ ss = .int .i64 (costL (l.take j) : Nat) ∧ Below w.heap.size w wr) (fun ss si _ => n - (intOf si).toNat)
    case atStart => exact ⟨0, Nat.zero_le _, rfl, rfl, HB1.out⟩
    case round =>
      obtain ⟨j, hj, rfl, rfl, hbr⟩ := hrel
      have HBR := Lib.hid hbr
      have hsz := hbr.size
      have hj0 : (0 : Int) ≤ (j : Int) := by omega
      by_cases hlt : j < n
      · have hjl : j < l.length := by omega
        have hj1 : (j : Int) < (n : Int) := by omega
        obtain ⟨bb, off, rfl, hbb, hcl⟩ := HR.out.pc hbr hlt
        obtain ⟨c0, c1, c2⟩ := hcl hjl
        have HPK := Lib.hid (okP_cases (HOK.out l[j] (List.getElem_mem hjl)))
        have HCT := Lib.hid (cost_take hjl)
        have hm1 := HMOST.out (j + 1)
        have hm0 := HMOST.out j
        rw [HCT.out] at hm1
        clear hcl hbr
        generalize l[j] = p at *
        obtain ⟨pk, pn, pt⟩ := p
        simp only at HPK c0 c1 c2
        obtain ⟨S, hS⟩ : ∃ S, S = costL (l.take j) := ⟨_, rfl⟩
        rw [← hS] at hm0 hm1 HCT ⊢
        clear hS
        have hwr : IntKind.i64.wrap ((j : Int) + 1) = (j : Int) + 1 := by rw [IntKind.wrap_i64]; omega
        have HBA := HBR
        rcases HPK.out with ⟨h1, h2, h3⟩ | ⟨h1, h2, h3⟩ | ⟨h1, h2, h3⟩
        · obtain rfl := str_empty h3
          subst h1
          have HCS := Lib.hid (show costL (l.take (j + 1)) = S by rw [HCT.out]; rfl)
          have hw0 : IntKind.i64.wrap (S : Int) = (S : Int) := by rw [IntKind.wrap_i64]; omega
          clear h3 HPK
          go_wp2_with fail
          go_roundw
          case rel => exact ⟨j + 1, by omega, by go_num, by rw [HCS.out] <;> go_num, HBA.out⟩
          case measure => simp [intOf]; omega
        · obtain rfl := str_empty h3
          obtain ⟨m, rfl⟩ : ∃ m : Nat, pn = m := ⟨pn.toNat, by omega⟩
          subst h1
          have HCS := Lib.hid (show costL (l.take (j + 1)) = S + m by rw [HCT.out]; show S + (m + 0) = S + m; rfl)
          have hm2 : S + m ≤ 2097152 := by
            have : cstP ⟨3, (m : Int), ⟨#[]⟩⟩ = m := rfl
            omega
          have hw0 : IntKind.i64.wrap (S : Int) = (S : Int) := by rw [IntKind.wrap_i64]; omega
          have hw1 : IntKind.i64.wrap ((S : Int) + (m : Int)) = (S : Int) + (m : Int) := by rw [IntKind.wrap_i64]; omega
          clear h3 HPK
          go_wp2_with fail
          go_roundw
          case rel => exact ⟨j + 1, by omega, by go_num, by rw [HCS.out] <;> go_num, HBA.out⟩
          case measure => simp [intOf]; omega
        · subst h1
          subst h2
          have HCS := Lib.hid (show costL (l.take (j + 1)) = S + pt.size by rw [HCT.out]; show S + (0 + pt.size) = S + pt.size; rw [Nat.zero_add])
          have hm2 : S + pt.size ≤ 2097152 := by
            have : cstP ⟨2, 0, pt⟩ = 0 + pt.size := rfl
            omega
          have hw1 : IntKind.i64.wrap ((S : Int) + (pt.size : Int)) = (S : Int) + (pt.size : Int) := by rw [IntKind.wrap_i64]; omega
          clear h3 HPK
          go_wp2_with fail
          go_roundw
          case rel => exact ⟨j + 1, by omega, by go_num, by rw [HCS.out] <;> go_num, HBA.out⟩
          case measure => simp [intOf]; omega
      · obtain rfl : j = n := by omega
        have HE2 := Lib.hid (show costP l = costL (l.take j) by rw [HE.out, List.take_of_length_le (by omega)])
        have hlt1 : ¬ ((j : Int) < (j : Int)) := by omega
        clear hbr
        go_wp2_with fail
        go_ret2
        exact ⟨by rw [HE2.out, HCZ.out] <;> rfl, HBR.out⟩
  · have HE := Lib.hid (show costP l = 0 from if_neg hc)
    have hc2 : (checkP l == 0) = false := by rw [beq_eq_false_iff_ne]; exact hc
    clear hc
    go_wp2_with fail
    go_ret2
    exact ⟨by rw [HE.out] <;> rfl, HB1.out⟩

end Go.Proofs.YtfbjbgknfdekfaaDoor
