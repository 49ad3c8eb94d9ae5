/- Deltas: the text form of the program: delta.Text. -/
import Derived.Test.YtdfkbahlngijcaaDoorDd
namespace Go.Proofs.YtdfkbahlngijcaaDoor
open Go.RowKit
set_option linter.unusedVariables false

set_option maxRecDepth 100000 in
set_option maxHeartbeats 8000000 in
theorem text_any (ao : Option Addr) (n c : Nat) (l : List Pc) (w : World) (h : IsR fP w ao n l) (hn63 : n ≤ 9223372036854775807) (ht : Tab w) :
    Calls Tryd.prog 30 #[.slice ao n c] w fun e w' => e = .returned (.tuple #[.string ⟨(txtP l).toArray⟩, .int .i64 (checkP l)]) ∧ Below w.heap.size w w' := by
  have hl := h.1
  have HC := Lib.hid (check_any ao n c l w h hn63)
  have HR := Lib.hid h
  have HT := Lib.hid ht
  clear h ht
  go_enter Tryd.func30, Tryd.ntmps30
  go_wp2_with fail
  refine (HC.out).mono ?_; rintro e w1 ⟨rfl, hb1⟩
  have HB1 := Lib.hid hb1
  have hs1 := hb1.size
  clear hb1 HC
  by_cases hc : checkP l = 0
  · have HE := Lib.hid (show txtP l = textL l by unfold txtP; rw [if_pos hc])
    have HCK := Lib.hid hc
    rw [hc]
    clear hc
    have HI0 := Lib.hid (Lib.IsBuilderF.of (Lib.fresh_isBuilder 75 5 w1))
    have HB2 := Lib.hid (HB1.out.alloc hs1 (.cells #[.pointer none, .slice none 0 0] 75))
    go_wp2_with fail
    go_loopw [16] (fun s wr => ∃ (j : Nat), j ≤ n ∧ s = .int .i64 j ∧ Lib.IsBuilderF 75 5 w1.heap.size w1.heap.size (Lib.byteCells (textL (l.take j))) wr ∧ Below w.heap.size w wr ∧ w1.heap.size < wr.heap.size) (fun s _ => n - (intOf s).toNat)
    case atStart => exact ⟨0, Nat.zero_le _, rfl, HI0.out, HB2.out, by simp⟩
    case round =>
      obtain ⟨j, hj, rfl, hI, hbr, hbs⟩ := hrel
      have HI := Lib.hid hI
      have HBR := Lib.hid hbr
      clear hI hbr HI0 HB2
      by_cases hlt : j < n
      · have hjl : j < l.length := by omega
        have hj1 : (j : Int) < (n : Int) := by omega
        obtain ⟨bb, off, rfl, hbb, hcl⟩ := HR.out.pc HBR.out hlt
        obtain ⟨c0, c1, c2⟩ := hcl hjl
        have hok : okP l[j] = true := (check_inv HCK.out).2.1 l[j] (List.getElem_mem hjl)
        have hn20 : l[j].n ≤ 1048576 := by
          have := inn_le (check_inv HCK.out).2.1 (List.getElem_mem hjl)
          have := (check_inv HCK.out).2.2.1
          omega
        have HSH := Lib.hid (text_short HCK.out j)
        have HSB := Lib.hid (before_len HCK.out j)
        have HS1 := Lib.hid (text_short HCK.out (j + 1))
        have HBP := Lib.hid (before_pc hjl)
        have HOK := Lib.hid (okP_cases hok)
        have HN := Lib.hid hn20
        have hj0 : (0 : Int) ≤ (j : Int) := by omega
        clear hok hn20 hcl
        generalize l[j] = p at *
        have HP := Lib.hid (block_new wr (.cells #[.int .u8 p.k, .int .i64 p.n, .string p.t] 31))
        have HIA := Lib.hid (HI.out.alloc (.cells #[.int .u8 p.k, .int .i64 p.n, .string p.t] 31))
        have HBA := Lib.hid (HBR.out.alloc HBR.out.size (.cells #[.int .u8 p.k, .int .i64 p.n, .string p.t] 31))
        have hsA : w1.heap.size ≤ (wr.alloc (.cells #[.int .u8 p.k, .int .i64 p.n, .string p.t] 31)).heap.size := by simp; omega
        go_upto_if 22 with (fail)
        go_cut [16] from 16 to 62 (fun s16 wq => s16 = .int .i64 j ∧ Lib.IsBuilderF 75 5 w1.heap.size w1.heap.size (Lib.byteCells (before l j)) wq ∧ wq.heap[wr.heap.size]? = some (.cells #[.int .u8 p.k, .int .i64 p.n, .string p.t] 31 (0, 0)) ∧ Below w.heap.size w wq ∧ w1.heap.size < wr.heap.size)
        case first =>
          by_cases h0 : j = 0
          · subst h0
            have HE0 := Lib.hid (show before l 0 = textL (l.take 0) from rfl)
            go_wp2_with fail
            go_meet
            case rel => exact ⟨rfl, by rw [HE0.out]; exact HIA.out, HP.out, HBA.out, hbs⟩
          · have hj2 : (0 : Int) < (j : Int) := by omega
            have HE0 := Lib.hid (show before l j = textL (l.take j) ++ [32] by unfold before; rw [if_neg h0])
            clear h0
            go_wp2_with fail
            refine (Tryd.Builder_WriteByte_k w1.heap.size w1.heap.size _ 32 _ HIA.out (by rw [Lib.byteCells_length]; have := HSH.out; omega) hsA).mono ?_; rintro e w2 ⟨rfl, hi2, hb2, ho2⟩
            have HI2 := Lib.hid hi2
            have HB2 := Lib.hid hb2
            have HO2 := Lib.hid ho2
            clear hi2 hb2 ho2
            go_wp2_with fail
            go_meet
            case rel => exact ⟨rfl, by rw [HE0.out, ← byteCells_app]; exact Or.inr HI2.out, others_cells HO2.out HP.out (by omega) (by decide), HBA.out.trans (HB2.out.mono hs1), hbs⟩
        case rest =>
          obtain ⟨rfl, hi, hp, hb, -⟩ := hcut
          clear HIA HBA HP HI HBR hsA
          generalize wr.heap.size = pb at *
          have HI3 := Lib.hid hi
          have HP3 := Lib.hid hp
          have HB3 := Lib.hid hb
          have hs3 : w1.heap.size ≤ wc.heap.size := by have := block_lt hp; omega
          clear hi hb
          (have q0 := block_cell hp 0; have q1 := block_cell hp 1; have q2 := block_cell hp 2; have f0 := block_free hp 0; have f1 := block_free hp 1; have f2 := block_free hp 2; have hz := block_lt hp; simp at q0 q1 q2)
          clear hp
          rcases HOK.out with ⟨h1, h2, h3⟩ | ⟨h1, h2, h3⟩ | ⟨h1, h2, h3⟩
          · obtain ⟨m, hm⟩ : ∃ m : Nat, p.n = m := ⟨p.n.toNat, by omega⟩
            have hm20 : m ≤ 1048576 := by have := HN.out; omega
            have HE1 := Lib.hid (show pcT p = [61] ++ Lib.decDigits m by
              unfold pcT
              rw [h1, hm]
              rfl)
            rw [h1] at q0
            rw [hm] at q1
            have hdl := decDigits_len 7 m (by decide) (by omega)
            have hcat : ¬ (9223372036854775807 < (⟨#[61]⟩ : ByteArray).size + (⟨(Lib.decDigits m).toArray⟩ : ByteArray).size) := by
              show ¬ (9223372036854775807 < 1 + (Lib.decDigits m).length)
              omega
            have HDL := Lib.hid hdl
            have HIT := Lib.hid (itoa_nat m (by omega) wc (HT.out.below HB3.out))
            clear h1 h2 h3 hm hdl
            go_wp2_with fail
            refine (HIT.out).mono ?_; rintro e w4 ⟨rfl, hb4⟩
            have HI4 := Lib.hid (builder_below HI3.out hb4)
            have HB4 := Lib.hid (HB3.out.trans (hb4.mono (by have := HB3.out.size; omega)))
            have hs4 : w1.heap.size ≤ w4.heap.size := Nat.le_trans hs3 hb4.size
            clear hb4 HIT HI3 HB3 q0 q1 q2 f0 f1 f2 hz
            go_wp2_with fail
            refine (Tryd.Builder_WriteString_k w1.heap.size w1.heap.size _ _ _ HI4.out (by rw [Lib.byteCells_length, ByteArray.size_append]; have := HSB.out; have := HDL.out; show _ + (1 + (Lib.decDigits m).length) ≤ _; omega) hs4).mono ?_; rintro e w5 ⟨rfl, hi5, hb5, ho5⟩
            have HI5 := Lib.hid (show Lib.IsBuilderF 75 5 w1.heap.size w1.heap.size (Lib.byteCells (textL (l.take (j + 1)))) w5 by
              rw [pc_step HBP.out HE1.out, ← strCells_app]
              exact Or.inr hi5)
            have HB5 := Lib.hid (HB4.out.trans (hb5.mono hs1))
            have hs5 : w1.heap.size < w5.heap.size := by have := hb5.size; have := hs4; have := BuilderF_lt HI4.out; omega
            clear hi5 hb5 ho5
            go_wp2_with fail
            go_roundw
            case rel => exact ⟨j + 1, by omega, by go_num, HI5.out, HB5.out, hs5⟩
            case measure => simp [intOf]; omega
          · obtain ⟨m, hm⟩ : ∃ m : Nat, p.n = m := ⟨p.n.toNat, by omega⟩
            have hm20 : m ≤ 1048576 := by have := HN.out; omega
            have HE1 := Lib.hid (show pcT p = [45] ++ Lib.decDigits m by
              unfold pcT
              rw [h1, hm]
              rfl)
            rw [h1] at q0
            rw [hm] at q1
            have hdl := decDigits_len 7 m (by decide) (by omega)
            have hcat : ¬ (9223372036854775807 < (⟨#[45]⟩ : ByteArray).size + (⟨(Lib.decDigits m).toArray⟩ : ByteArray).size) := by
              show ¬ (9223372036854775807 < 1 + (Lib.decDigits m).length)
              omega
            have HDL := Lib.hid hdl
            have HIT := Lib.hid (itoa_nat m (by omega) wc (HT.out.below HB3.out))
            clear h1 h2 h3 hm hdl
            go_wp2_with fail
            refine (HIT.out).mono ?_; rintro e w4 ⟨rfl, hb4⟩
            have HI4 := Lib.hid (builder_below HI3.out hb4)
            have HB4 := Lib.hid (HB3.out.trans (hb4.mono (by have := HB3.out.size; omega)))
            have hs4 : w1.heap.size ≤ w4.heap.size := Nat.le_trans hs3 hb4.size
            clear hb4 HIT HI3 HB3 q0 q1 q2 f0 f1 f2 hz
            go_wp2_with fail
            refine (Tryd.Builder_WriteString_k w1.heap.size w1.heap.size _ _ _ HI4.out (by rw [Lib.byteCells_length, ByteArray.size_append]; have := HSB.out; have := HDL.out; show _ + (1 + (Lib.decDigits m).length) ≤ _; omega) hs4).mono ?_; rintro e w5 ⟨rfl, hi5, hb5, ho5⟩
            have HI5 := Lib.hid (show Lib.IsBuilderF 75 5 w1.heap.size w1.heap.size (Lib.byteCells (textL (l.take (j + 1)))) w5 by
              rw [pc_step HBP.out HE1.out, ← strCells_app]
              exact Or.inr hi5)
            have HB5 := Lib.hid (HB4.out.trans (hb5.mono hs1))
            have hs5 : w1.heap.size < w5.heap.size := by have := hb5.size; have := hs4; have := BuilderF_lt HI4.out; omega
            clear hi5 hb5 ho5
            go_wp2_with fail
            go_roundw
            case rel => exact ⟨j + 1, by omega, by go_num, HI5.out, HB5.out, hs5⟩
            case measure => simp [intOf]; omega
          · have HE1 := Lib.hid (show pcT p = [43] ++ hexL p.t.data.toList by
              unfold pcT
              rw [h1]
              rfl)
            have HLT := Lib.hid (show p.t.size ≤ 3000000 by
              have := HS1.out
              rw [← HBP.out, HE1.out, List.length_append, List.length_append, hexL_len] at this
              have e : p.t.data.toList.length = p.t.size := Array.length_toList ..
              omega)
            rw [h1] at q0
            clear h1 h2 h3
            go_wp2_with fail
            refine (Tryd.Builder_WriteByte_k w1.heap.size w1.heap.size _ 43 _ HI3.out (by rw [Lib.byteCells_length]; have := HSB.out; omega) hs3).mono ?_; rintro e w4 ⟨rfl, hi4, hb4, ho4⟩
            have hi4' : Lib.IsBuilderF 75 5 w1.heap.size w1.heap.size (Lib.byteCells (before l j ++ [43] ++ hexL (p.t.data.toList.take 0))) w4 := by
              rw [show before l j ++ [43] ++ hexL (p.t.data.toList.take 0) = before l j ++ [43] from List.append_nil _, ← byteCells_app]
              exact Or.inr hi4
            have HI4 := Lib.hid hi4'
            have HB4 := Lib.hid (HB3.out.trans (hb4.mono hs1))
            have hp4 := others_cells ho4 HP3.out (by omega) (by decide)
            have HP4 := Lib.hid hp4
            clear hi4 hi4' hb4 ho4 HI3 HB3 HP3 q0 q1 q2 f0 f1 f2 hz
            (have q0 := block_cell hp4 0; have q1 := block_cell hp4 1; have q2 := block_cell hp4 2; have f0 := block_free hp4 0; have f1 := block_free hp4 1; have f2 := block_free hp4 2; have hz := block_lt hp4; simp at q0 q1 q2)
            clear hp4
            go_wp2_with fail
            go_loopw [37] (fun s wr2 => ∃ (i : Nat), i ≤ p.t.size ∧ s = .int .i64 i ∧ Lib.IsBuilderF 75 5 w1.heap.size w1.heap.size (Lib.byteCells (before l j ++ [43] ++ hexL (p.t.data.toList.take i))) wr2 ∧ Below w.heap.size w wr2 ∧ wr2.heap[pb]? = some (.cells #[.int .u8 p.k, .int .i64 p.n, .string p.t] 31 (0, 0))) (fun s _ => p.t.size - (intOf s).toNat)
            case atStart => exact ⟨0, Nat.zero_le _, rfl, HI4.out, HB4.out, HP4.out⟩
            case round =>
              obtain ⟨i, hi, rfl, hI, hbr2, hp⟩ := hrel
              have HI := Lib.hid hI
              have HBR2 := Lib.hid hbr2
              have HP := Lib.hid hp
              have hs6 : w1.heap.size ≤ wr.heap.size := by have := block_lt hp; omega
              clear hI hbr2 HI4 HB4 HP4
              have HL := Lib.hid (show (before l j ++ [43] ++ hexL (p.t.data.toList.take i)).length ≤ 9000010 by
                have := HSB.out
                have := HLT.out
                have h5 : (p.t.data.toList.take i).length ≤ i := List.length_take_le _ _
                rw [List.length_append, List.length_append, hexL_len]
                show _ + 1 + _ ≤ _
                omega)
              (have q0 := block_cell hp 0; have q1 := block_cell hp 1; have q2 := block_cell hp 2; have f0 := block_free hp 0; have f1 := block_free hp 1; have f2 := block_free hp 2; have hz := block_lt hp; simp at q0 q1 q2)
              clear hp
              by_cases hlt2 : i < p.t.size
              · have hi1 : (i : Int) < (p.t.size : Int) := by omega
                have hi0 : (0 : Int) ≤ (i : Int) := by omega
                have hlt3 := HLT.out
                have hb := u8lt p.t[i]
                have hA := and15 _ hb
                have h1 : (0 : Int) ≤ (p.t[i].toNat : Int) / 16 := by omega
                have h2 : (p.t[i].toNat : Int) / 16 < 16 := by omega
                have h3 : (0 : Int) ≤ ((p.t[i].toNat % 16 : Nat) : Int) := by omega
                have h4 : ((p.t[i].toNat % 16 : Nat) : Int) < 16 := by omega
                have HBY := Lib.hid hb
                have HXT := Lib.hid (hexL_take p.t hlt2)
                go_wp2_with fail
                refine (Tryd.Builder_WriteByte_k w1.heap.size w1.heap.size _ _ _ HI.out (by rw [Lib.byteCells_length]; have := HL.out; omega) hs6).mono ?_; rintro e w7 ⟨rfl, hi7, hb7, ho7⟩
                have hi7' : Lib.IsBuilderF 75 5 w1.heap.size w1.heap.size (Lib.byteCells (before l j ++ [43] ++ hexL (p.t.data.toList.take i) ++ [hexD (p.t[i].toNat / 16)])) w7 := by
                  have k1 := hexC (p.t[i].toNat / 16) (by omega)
                  simp only [k1] at hi7
                  rw [← byteCells_app]
                  exact Or.inr hi7
                have HI7 := Lib.hid hi7'
                have HB7 := Lib.hid (HBR2.out.trans (hb7.mono hs1))
                have hp7 := others_cells ho7 HP.out (by omega) (by decide)
                have HP7 := Lib.hid hp7
                have hs7 : w1.heap.size ≤ w7.heap.size := by have := block_lt hp7; omega
                clear hi7 hi7' hb7 ho7 HI HBR2 HP q0 q1 q2 f0 f1 f2 hz
                (have q0 := block_cell hp7 0; have q1 := block_cell hp7 1; have q2 := block_cell hp7 2; have f0 := block_free hp7 0; have f1 := block_free hp7 1; have f2 := block_free hp7 2; have hz := block_lt hp7; simp at q0 q1 q2)
                clear hp7
                go_wp2_with fail
                refine (Tryd.Builder_WriteByte_k w1.heap.size w1.heap.size _ _ _ HI7.out (by rw [Lib.byteCells_length, List.length_append]; have := HL.out; show _ + 1 + 1 ≤ _; omega) hs7).mono ?_; rintro e w8 ⟨rfl, hi8, hb8, ho8⟩
                have hi8' : Lib.IsBuilderF 75 5 w1.heap.size w1.heap.size (Lib.byteCells (before l j ++ [43] ++ hexL (p.t.data.toList.take (i + 1)))) w8 := by
                  have k2 := hexC (p.t[i].toNat % 16) (by omega)
                  simp only [k2] at hi8
                  rw [HXT.out, show before l j ++ [43] ++ (hexL (p.t.data.toList.take i) ++ hexB p.t[i]) = before l j ++ [43] ++ hexL (p.t.data.toList.take i) ++ [hexD (p.t[i].toNat / 16)] ++ [hexD (p.t[i].toNat % 16)] by simp [hexB], ← byteCells_app]
                  exact Or.inr hi8
                have HI8 := Lib.hid hi8'
                have HB8 := Lib.hid (HB7.out.trans (hb8.mono hs1))
                have HP8 := Lib.hid (others_cells ho8 HP7.out (by omega) (by decide))
                clear hi8 hi8' hb8 ho8 HI7 HB7 HP7 q0 q1 q2 f0 f1 f2 hz HXT
                go_wp2_with fail
                go_roundw
                case rel => exact ⟨i + 1, by omega, by go_num, HI8.out, HB8.out, HP8.out⟩
                case measure => simp [intOf]; omega
              · obtain rfl : i = p.t.size := by omega
                have HI5 := Lib.hid (show Lib.IsBuilderF 75 5 w1.heap.size w1.heap.size (Lib.byteCells (textL (l.take (j + 1)))) wr by
                  have := HI.out
                  rwa [show p.t.data.toList.take p.t.size = p.t.data.toList from List.take_of_length_le (Nat.le_of_eq (Array.length_toList ..)), List.append_assoc, ← HE1.out, HBP.out] at this)
                go_wp2_with fail
                go_roundw
                case rel => exact ⟨j + 1, by omega, by go_num, HI5.out, HBR2.out, by omega⟩
                case measure => simp [intOf]; omega
      · obtain rfl: j = n := by omega
        have HI2 := Lib.hid (show Lib.IsBuilderF 75 5 w1.heap.size w1.heap.size (Lib.byteCells (textL l)) wr by
          have := HI.out
          rwa [List.take_of_length_le (by omega)] at this)
        clear HI
        go_wp2_with fail
        refine (Tryd.Builder_String_any_k w1.heap.size w1.heap.size _ _ HI2.out (by omega)).mono ?_; rintro e w2 ⟨rfl, hi2, hb2, ho2⟩
        have HB2 := Lib.hid (HBR.out.trans (hb2.mono hs1))
        clear hi2 hb2 ho2
        go_wp2_with fail
        go_ret2
        exact ⟨by rw [HE.out, HCK.out] <;> rfl, HB2.out⟩
  · have HE := Lib.hid (show txtP l = [] by unfold txtP; rw [if_neg hc])
    have hc2 : (checkP l == 0) = false := by rw [beq_eq_false_iff_ne]; exact hc
    clear hc
    go_wp2_with fail
    go_ret2
    exact ⟨by rw [HE.out] <;> rfl, HB1.out⟩
end Go.Proofs.YtdfkbahlngijcaaDoor
