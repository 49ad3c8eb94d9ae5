/- Text: ParseOp of the program: its walk. (printed by slim.py.) -/
import Derived.Test.YtdfkbahlngijcaaDoorQUi
import Derived.Test.YtdfkbahlngijcaaDoorQKa
namespace Go.Proofs.YtdfkbahlngijcaaDoor
open Go.RowKit
set_option linter.unusedVariables false

/-- a result of seven cells in memory, and one beside it -/
theorem res7_tmp {P : Program} {fn : Func} {p u : Tmp} {ty : TypeId} (hr : fn.results = #[.cell p ty, .tmp u]) {tmps : Array Value} {W : World} {b : Nat} {x0 x1 x2 x3 x4 x5 x6 : Value} {e : TypeId} {fr : Nat × Nat}
    (hg : (isAgg ty).run P W = .ok true W) (hs : (sizeOf ty).run P W = .ok 7 W) (ht : tmps.getD p undef = .pointer (some ⟨b, 0, none⟩))
    (hb : W.heap[b]? = some (.cells #[x0, x1, x2, x3, x4, x5, x6] e fr)) : (results fn tmps).run P W = .ok (.tuple #[.agg #[x0, x1, x2, x3, x4, x5, x6], tmps.getD u undef]) W := by
  have h0 : W.cell? ⟨b, 0, none⟩ = some x0 := block_cell hb 0
  have h1 : W.cell? ⟨b, 1, none⟩ = some x1 := block_cell hb 1
  have h2 : W.cell? ⟨b, 2, none⟩ = some x2 := block_cell hb 2
  have h3 : W.cell? ⟨b, 3, none⟩ = some x3 := block_cell hb 3
  have h4 : W.cell? ⟨b, 4, none⟩ = some x4 := block_cell hb 4
  have h5 : W.cell? ⟨b, 5, none⟩ = some x5 := block_cell hb 5
  have h6 : W.cell? ⟨b, 6, none⟩ = some x6 := block_cell hb 6
  have ht' : tmps[p]?.getD undef = .pointer (some ⟨b, 0, none⟩) := by simpa using ht
  simp only [results, hr]
  simp [ht', hg, hs, h0, h1, h2, h3, h4, h5, h6, go_sem]
def zC : Array Value := #[.int .u8 0, .int .i64 0, .int .i64 0, .int .i64 0, .int .u32 0, .int .u8 0, .string ⟨#[]⟩]
theorem set7 {w : World} {b : Nat} {c0 c1 c2 c3 c4 c5 c6 : Value} {T : TypeId} {fr : Nat × Nat} (h : w.heap[b]? = some (.cells #[c0, c1, c2, c3, c4, c5, c6] T fr)) (v0 v1 v2 v3 v4 v5 v6 : Value) :
    (((((((w.setCell ⟨b, 0, none⟩ v0).setCell ⟨b, 1, none⟩ v1).setCell ⟨b, 2, none⟩ v2).setCell ⟨b, 3, none⟩ v3).setCell ⟨b, 4, none⟩ v4).setCell ⟨b, 5, none⟩ v5).setCell ⟨b, 6, none⟩ v6).heap[b]? = some (.cells #[v0, v1, v2, v3, v4, v5, v6] T fr) := by
  have h0 : (w.setCell ⟨b, 0, none⟩ v0).heap[b]? = some (.cells #[v0, c1, c2, c3, c4, c5, c6] T fr) := block_setCell h 0 v0
  have h1 : ((w.setCell ⟨b, 0, none⟩ v0).setCell ⟨b, 1, none⟩ v1).heap[b]? = some (.cells #[v0, v1, c2, c3, c4, c5, c6] T fr) := block_setCell h0 1 v1
  have h2 : (((w.setCell ⟨b, 0, none⟩ v0).setCell ⟨b, 1, none⟩ v1).setCell ⟨b, 2, none⟩ v2).heap[b]? = some (.cells #[v0, v1, v2, c3, c4, c5, c6] T fr) := block_setCell h1 2 v2
  generalize ((w.setCell ⟨b, 0, none⟩ v0).setCell ⟨b, 1, none⟩ v1).setCell ⟨b, 2, none⟩ v2 = w3 at *
  have h3 : (w3.setCell ⟨b, 3, none⟩ v3).heap[b]? = some (.cells #[v0, v1, v2, v3, c4, c5, c6] T fr) := block_setCell h2 3 v3
  have h4 : ((w3.setCell ⟨b, 3, none⟩ v3).setCell ⟨b, 4, none⟩ v4).heap[b]? = some (.cells #[v0, v1, v2, v3, v4, c5, c6] T fr) := block_setCell h3 4 v4
  generalize (w3.setCell ⟨b, 3, none⟩ v3).setCell ⟨b, 4, none⟩ v4 = w5 at *
  have h5 : (w5.setCell ⟨b, 5, none⟩ v5).heap[b]? = some (.cells #[v0, v1, v2, v3, v4, v5, c6] T fr) := block_setCell h4 5 v5
  exact block_setCell h5 6 v6
theorem set7_below {B : Nat} {w0 w : World} {b : Nat} (h : Below B w0 w) (hB : B ≤ b) (v0 v1 v2 v3 v4 v5 v6 : Value) :
    Below B w0 (((((((w.setCell ⟨b, 0, none⟩ v0).setCell ⟨b, 1, none⟩ v1).setCell ⟨b, 2, none⟩ v2).setCell ⟨b, 3, none⟩ v3).setCell ⟨b, 4, none⟩ v4).setCell ⟨b, 5, none⟩ v5).setCell ⟨b, 6, none⟩ v6) :=
  ((((((h.setCell (p := ⟨b, 0, none⟩) hB v0).setCell (p := ⟨b, 1, none⟩) hB v1).setCell (p := ⟨b, 2, none⟩) hB v2).setCell (p := ⟨b, 3, none⟩) hB v3).setCell (p := ⟨b, 4, none⟩) hB v4).setCell (p := ⟨b, 5, none⟩) hB v5).setCell (p := ⟨b, 6, none⟩) hB v6
theorem FillInv.text {k : Nat} {ws : List (List UInt8)} {x : Ov} {N : Nat} (hk : k < 17) (h : FillInv k ws (letL k).length x) (hl : ws.length = (letL k).length) (hw : ∀ j (h : j < ws.length), ws[j].length ≤ N) : x.t.size ≤ N := by
  by_cases hm : (116 : UInt8) ∈ letL k
  · obtain ⟨j, hj, e⟩ := List.getElem_of_mem hm
    have h1 := h.done j hj (by omega) hj
    rw [e] at h1
    have h2 := hw j (by omega)
    rw [← h1, letW_t, quote_len] at h2
    omega
  · have := h.rest 116 (.inr (.inr (.inr (.inr (.inr rfl))))) (by rwa [List.take_length])
    have h0 : x.t.size = 0 := this
    omega

theorem splitW_word : ∀ (l : List UInt8), ∀ wd ∈ splitW l, wd.length ≤ l.length
  | [], wd, h => by simp [splitW] at h; rw [h]; exact Nat.le_refl _
  | c :: l, wd, h => by
    have ih := splitW_word l
    rw [splitW_cons] at h
    by_cases hc : c = 32
    · rw [if_pos hc] at h
      rcases List.mem_cons.1 h with rfl | h
      · exact Nat.zero_le _
      · have := ih wd h; simp; omega
    · rw [if_neg hc] at h
      rcases hh : splitW l with _ | ⟨v, vs⟩
      · rw [hh] at h; simp at h; rw [h]; simp
      · rw [hh] at h ih
        rcases List.mem_cons.1 h with rfl | h
        · have := ih v (List.mem_cons_self ..); simp; omega
        · have := ih wd (List.mem_cons_of_mem _ h); simp; omega

set_option maxRecDepth 100000 in
set_option maxHeartbeats 16000000 in
theorem parseOp_any (s : ByteArray) (w : World) (hs : s.size ≤ 1000000) :
    Calls Tryd.prog 23 #[.string s] w fun e w' => e = .returned (.tuple #[.agg (oC (parR s.data.toList).1), .int .i64 (parR s.data.toList).2]) ∧ Below w.heap.size w w' := by
  have HB0 := Lib.hid ((Below.refl w.heap.size w).alloc (Nat.le_refl _) (.cells zC 51))
  have HZ0 := Lib.hid (block_new w (.cells zC 51))
  have HSP := Lib.hid (split_any s (w.alloc (.cells zC 51)) (by omega))
  have hlen := splitW_len s.data.toList
  have hcl : s.data.toList.count 32 ≤ s.data.toList.length := List.count_le_length
  have hsl : s.data.toList.length = s.size := Array.length_toList ..
  have HWL := Lib.hid (show ∀ wd ∈ splitW s.data.toList, wd.length ≤ 1000000 from fun wd hw => by
    have := splitW_word _ wd hw
    omega)
  have HLN := Lib.hid (show (splitW s.data.toList).length ≤ 1000001 by omega)
  rcases hws : splitW s.data.toList with _ | ⟨w0, wt⟩
  · exact absurd hws (splitW_ne _)
  rw [hws] at HSP HWL HLN
  have HWS := Lib.hid hws
  clear hws hlen hcl
  unfold zC at HB0 HZ0 HSP
  go_enter Tryd.func23, Tryd.ntmps23
  go_wp2_with fail
  refine (HSP.out).mono ?_; rintro e w1 ⟨rfl, hwd1, hb1⟩
  have HWD1 := Lib.hid hwd1
  have HZ1 := Lib.hid (block_below hb1 HZ0.out (by simp))
  have HB1 := Lib.hid (below_two HB0.out hb1)
  have hlw1 := hwd1.lt
  clear hwd1 hb1 HSP
  have hs1 : (w.alloc (.cells #[.int .u8 0, .int .i64 0, .int .i64 0, .int .i64 0, .int .u32 0, .int .u8 0, .string ⟨#[]⟩] 51)).heap.size = w.heap.size + 1 := World.size_alloc _ _
  rw [hs1] at HWD1 hlw1
  rw [hs1]
  obtain ⟨n, hn⟩ : ∃ n, n = (w0 :: wt).length := ⟨_, rfl⟩
  rw [← hn]
  have HN := Lib.hid hn
  have hn0 : 0 < n := by rw [hn]; simp
  have hnl : n ≤ 1000001 := by rw [hn]; exact HLN.out
  clear hn hs1
  go_wp2_with fail
  go_loopw [5] (fun s5 wr => ∃ (k : Nat), 1 ≤ k ∧ k ≤ 17 ∧ s5 = .int .u8 k ∧ (∀ j, 1 ≤ j → j < k → nameL j ≠ w0) ∧ Below w1.heap.size w1 wr) (fun s5 _ => 17 - (intOf s5).toNat)
  case atStart => exact ⟨1, Nat.le_refl _, by omega, rfl, fun j h1 h2 => by omega, Below.refl _ _⟩
  case round =>
    obtain ⟨k, hk1, hk17, rfl, hno, hbr⟩ := hrel
    have HNO := Lib.hid hno
    have HBR := Lib.hid hbr
    have HWDR := Lib.hid (HWD1.out.below hbr hlw1)
    have HZR := Lib.hid (block_below hbr HZ1.out (block_lt HZ1.out))
    clear hno
    by_cases hk : k ≤ 16
    · have hki : (k : Int) ≤ 16 := by omega
      have HW := Lib.hid (fun u => words_any k hk1 hk u)
      have HCUT := Lib.hid (cutK_any k hk1 hk wr)
      have hll := letL_len k
      have hwk : IntKind.u8.wrap ((k : Int) + 1) = (k : Int) + 1 := wrap8 _ (by omega) (by omega)
      clear hbr
      go_wp2_with fail
      refine (HW.out wr).mono ?_; rintro e w3 ⟨rfl, rfl⟩
      go_wp2_with fail
      refine (HCUT.out).mono ?_; rintro e w3 ⟨rfl, n3, hw3⟩
      have HB3 := Lib.hid (show Below w1.heap.size w1 w3 by rw [hw3]; exact below_drewN HBR.out n3)
      have HWD3 := Lib.hid (show WdAt w3 (w.heap.size + 1) (w0 :: wt) by rw [hw3]; exact HWDR.out)
      have HZ3 := Lib.hid (show w3.heap[w.heap.size]? = some (.cells #[.int .u8 0, .int .i64 0, .int .i64 0, .int .i64 0, .int .u32 0, .int .u8 0, .string ⟨#[]⟩] 51 (0, 0)) by rw [hw3]; exact HZR.out)
      have c0 : w3.cell? ⟨w.heap.size + 1, 0, none⟩ = some (.string ⟨w0.toArray⟩) := HWD3.out.at (j := 0) (by simp)
      clear hw3 HW HCUT
      by_cases he : w0 = nameL k
      · have HWS2 := Lib.hid (show splitW s.data.toList = nameL k :: wt by rw [HWS.out, he])
        have hself : ((⟨(nameL k).toArray⟩ : ByteArray) == ⟨(nameL k).toArray⟩) = true := (MapKept.bytes_beq _ _).2 rfl
        rw [he] at c0
        clear he
        by_cases hc : wt.length = (letL k).length
        · have HNE := Lib.hid hc
          have hneq : ((n : Int) == ((letL k).length : Int) + 1) = true := by
            rw [beq_iff_eq]
            have := HN.out
            simp at this
            omega
          have hne2 : ((n : Int) != ((letL k).length : Int) + 1) = false := by rw [bne, hneq]; rfl
          clear hc
          have HWT := Lib.hid (show ∀ j (h : j < wt.length), w3.cell? ⟨w.heap.size + 1, j + 1, none⟩ = some (.string ⟨(wt[j]).toArray⟩) from fun j h => HWD3.out.at (j := j + 1) (by simpa using h))
          have HLT := Lib.hid (show ∀ j (h : j < wt.length), wt[j].length ≤ 1000000 from fun j h => HWL.out _ (List.mem_cons_of_mem _ (List.getElem_mem h)))
          have HSX := Lib.hid (letL_six k (by omega))
          have HK17 := Lib.hid (show k < 17 by omega)
          obtain ⟨lt, hlt⟩ : ∃ lt, lt = letL k := ⟨_, rfl⟩
          have HLTK := Lib.hid hlt
          rw [← hlt] at HSX HNE hll hneq hne2 ⊢
          clear hlt
          have HBX := Lib.hid (block_new w3 (.cells #[.int .u8 k, .int .i64 0, .int .i64 0, .int .i64 0, .int .u32 0, .int .u8 0, .string ⟨#[]⟩] 51))
          have HBA := Lib.hid ((Below.refl w3.heap.size w3).alloc (Nat.le_refl _) (.cells #[.int .u8 k, .int .i64 0, .int .i64 0, .int .i64 0, .int .u32 0, .int .u8 0, .string ⟨#[]⟩] 51))
          have HST := Lib.hid (FillInv.start HK17.out wt)
          go_upto_region 10 with (fail)
          generalize hw4 : World.alloc w3 _ = w4 at *
          clear hw4 c0 hself
          go_wp2_with fail
          generalize hwq : wr = wr0 at *
          clear hwq
          go_loopw [40] (fun s40 wq => ∃ (i : Nat) (x : Ov), i ≤ lt.length ∧ s40 = .int .i64 i ∧ FillInv k wt i x ∧ wq.heap[w3.heap.size]? = some (.cells (oC x) 51 (0, 0)) ∧ Below w3.heap.size w3 wq) (fun s40 _ => lt.length - (intOf s40).toNat)
          case atStart => exact ⟨0, kindO k, Nat.zero_le _, rfl, HST.out, HBX.out, HBA.out⟩
          case round =>
            obtain ⟨i, x, hi, rfl, hfi, hbx, hbq⟩ := hrel
            have HFI := Lib.hid hfi
            have HBXQ := Lib.hid hbx
            have HBQ := Lib.hid hbq
            have hszq := hbq.size
            have hlbx := block_lt hbx
            by_cases hil : i < lt.length
            · have hiw : i < wt.length := by rw [HNE.out]; exact hil
              have hil1 : (i : Int) < (lt.length : Int) := by omega
              have hi0 : (0 : Int) ≤ (i : Int) := by omega
              obtain ⟨i2, hi2⟩ : ∃ i2, i2 = i + 1 := ⟨_, rfl⟩
              have HI2 := Lib.hid (show (i : Int) + 1 = (i2 : Int) by omega)
              have hi2n : (i2 : Int) < (n : Int) := by
                have := HN.out
                simp at this
                omega
              have hi20 : (0 : Int) ≤ (i2 : Int) := by omega
              have hsl2 : i < (⟨lt.toArray⟩ : ByteArray).size := by show i < lt.toArray.size; simpa using hil
              have hget : (⟨lt.toArray⟩ : ByteArray)[i]'hsl2 = lt[i] := rfl
              have cq : wr.cell? ⟨w.heap.size + 1, i2, none⟩ = some (.string ⟨(wt[i]).toArray⟩) := by
                rw [hi2]
                exact (hbq.cell (p := ⟨w.heap.size + 1, i + 1, none⟩) HWD3.out.lt).trans (HWT.out i hiw)
              have HCQ := Lib.hid cq
              obtain ⟨c, hc⟩ : ∃ c, c = lt[i]'hil := ⟨_, rfl⟩
              obtain ⟨wd, hwd⟩ : ∃ wd, wd = wt[i]'hiw := ⟨_, rfl⟩
              have hwdl : wd.length ≤ 1000000 := by rw [hwd]; exact HLT.out i hiw
              have HCG := Lib.hid (show (⟨lt.toArray⟩ : ByteArray)[i]'hsl2 = c by rw [hc]; exact hget)
              rw [← hwd] at HCQ
              have HFL := Lib.hid (fun u (hu : u.heap[w3.heap.size]? = some (.cells (oC x) 51 (0, 0))) => fill_any x w3.heap.size c (by rw [hc]; exact (HSX.out _ (List.getElem_mem hil)).2) ⟨wd.toArray⟩ u hu (by show wd.toArray.size ≤ _; rw [List.size_toArray]; omega))
              have HSTEP := Lib.hid (show fillB c wd = true → FillInv k wt (i + 1) (fillO x c wd) from fun h => by
                have hil3 : i < (letL k).length := by rw [← HLTK.out]; exact hil
                have ec : (letL k)[i]'hil3 = c := by
                  rw [hc]
                  exact (getElem_congr_coll HLTK.out).symm
                have := FillInv.step HK17.out HFI.out hil3 hiw (by rw [ec, ← hwd]; exact h)
                rw [ec, ← hwd] at this
                exact this)
              have HNF := Lib.hid (show fillB c wd = false → ∀ y, ¬ HasLine s.data.toList y from fun h => by
                have hil3 : i < (letL k).length := by rw [← HLTK.out]; exact hil
                have ec : (letL k)[i]'hil3 = c := by
                  rw [hc]
                  exact (getElem_congr_coll HLTK.out).symm
                exact no_fill hk1 hk HWS2.out hil3 hiw (by rw [ec, ← hwd]; exact h))
              have HI2E := Lib.hid hi2
              have HILT := Lib.hid hil
              have hw1 : w.heap.size + 1 < wr.heap.size := by have := HWD3.out.lt; omega
              clear hc hwd hfi hbx hget cq hi2 hiw hbq
              go_upto_region 13 with (fail)
              refine wp_region_rel (fun a b => Below wr.heap.size a b) 8 0 ((Below.refl _ _).drew) (fun _ _ _ h k => h.trans k) (by kernel_rfl) (by decide) (by decide) (by kernel_rfl) (by kernel_rfl) ?_
              simp only [List.take_succ_cons, List.take_zero, List.drop_succ_cons, List.drop_zero, fill, Act.put, List.setIfInBounds_toArray, List.set_cons_zero, List.set_cons_succ, Nat.zero_add, Nat.reduceAdd]
              apply OpsOKM.eq
              · intro vs u hb hd
                clear hd
                go_wp2_with fail
                exact ⟨rfl, _, rfl, Below.refl _ _, rfl⟩
              apply OpsOKM.eq
              · intro vs u hb hd
                clear hd
                go_wp2_with fail
                exact ⟨rfl, _, rfl, Below.refl _ _, rfl⟩
              apply OpsOKM.eq
              · intro vs u hb hd
                have e0 := hd ⟨0, .data⟩ (by simp) (by decide)
                simp at e0
                have e1 := hd ⟨1, .data⟩ (by simp) (by decide)
                simp at e1
                clear hd
                simp only [e0, e1]
                go_wp2_with fail
                exact ⟨rfl, .int .u8 c.toNat, by rw [← HCG.out] <;> rfl, Below.refl _ _, rfl⟩
              apply OpsOKM.eq
              · intro vs u hb hd
                clear hd
                go_wp2_with fail
                exact ⟨rfl, _, rfl, Below.refl _ _, rfl⟩
              apply OpsOKM.eq
              · intro vs u hb hd
                clear hd
                go_wp2_with fail
                exact ⟨rfl, _, rfl, Below.refl _ _, rfl⟩
              apply OpsOKM.eq
              · intro vs u hb hd
                have e4 := hd ⟨4, .data⟩ (by simp) (by decide)
                simp at e4
                clear hd
                simp only [e4]
                go_wp2_with fail
                rw [HI2.out]
                exact ⟨rfl, _, rfl, Below.refl _ _, rfl⟩
              apply OpsOKM.eq
              · intro vs u hb hd
                have e3 := hd ⟨3, .data⟩ (by simp) (by decide)
                simp at e3
                have e5 := hd ⟨5, .data⟩ (by simp) (by decide)
                simp at e5
                clear hd
                simp only [e3, e5]
                go_wp2_with fail
                exact ⟨rfl, _, rfl, Below.refl _ _, rfl⟩
              apply OpsOKM.eq
              · intro vs u hb hd
                have e6 := hd ⟨6, .data⟩ (by simp) (by decide)
                simp at e6
                clear hd
                simp only [e6]
                have cq : u.cell? ⟨w.heap.size + 1, i2, none⟩ = some (.string ⟨wd.toArray⟩) := (hb.cell (p := ⟨w.heap.size + 1, i2, none⟩) hw1).trans HCQ.out
                go_wp2_with fail
                exact ⟨rfl, _, rfl, Below.refl _ _, rfl⟩
              refine OpsOKM.done ?_
              intro vs u hbu hS
              have h2 := hS 2 (by decide)
              have h7 := hS 7 (by decide)
              simp at h2 h7
              simp only [h2, h7]
              clear hS h2 h7
              have HFU := Lib.hid (HFL.out u (block_below hbu HBXQ.out hlbx))
              have HBU := Lib.hid (HBQ.out.trans (hbu.mono hszq))
              clear hbu HFL HCQ
              go_wp2_with fail
              refine (HFU.out).mono ?_; rintro e w6 ⟨rfl, hbx6, hb6⟩
              have HBX6 := Lib.hid hbx6
              have HB6 := Lib.hid (HBU.out.trans hb6)
              clear hbx6 hb6 HFU HBU
              rcases hfb : fillB c wd with _ | _
              · have HR := Lib.hid (show parR s.data.toList = (zeroO, 4) from parR_none (HNF.out hfb))
                have HZ6 := Lib.hid (block_below HB6.out HZ3.out (block_lt HZ3.out))
                have HBW := Lib.hid (HB1.out.trans ((HB3.out.trans (HB6.out.mono HB3.out.size)).mono HB1.out.size))
                clear hfb
                (have q0 := block_cell HZ6.out 0; have q1 := block_cell HZ6.out 1; have q2 := block_cell HZ6.out 2; have q3 := block_cell HZ6.out 3; have q4 := block_cell HZ6.out 4; have q5 := block_cell HZ6.out 5; have q6 := block_cell HZ6.out 6; have f0 := block_free HZ6.out 0; have f1 := block_free HZ6.out 1; have f2 := block_free HZ6.out 2; have f3 := block_free HZ6.out 3; have f4 := block_free HZ6.out 4; have f5 := block_free HZ6.out 5; have f6 := block_free HZ6.out 6; have hz := block_lt HZ6.out; simp at q0 q1 q2 q3 q4 q5 q6)
                go_wp2_with fail
                exact bodyPost_ret (res7_tmp Tryd.results23 (Tryd.isAgg51 _) (Tryd.sizeOf51 _) rfl (set7 HZ6.out _ _ _ _ _ _ _)) rfl ⟨by rw [HR.out] <;> rfl, set7_below HBW.out (Nat.le_refl _) _ _ _ _ _ _ _⟩
              · have HFN := Lib.hid (HSTEP.out hfb)
                clear hfb
                go_wp2_with fail
                go_roundw
                case rel => exact ⟨i + 1, _, by have := HILT.out; omega, by go_num, HFN.out, HBX6.out, HB6.out⟩
                case measure => have := HILT.out; simp [intOf]; omega
            · have hie : i = lt.length := by omega
              have hil1 : ¬ ((i : Int) < (lt.length : Int)) := by omega
              have HFE := Lib.hid (show FillInv k wt (letL k).length x by rw [← HLTK.out, ← hie]; exact hfi)
              have HXT := Lib.hid (show x.t.size ≤ 140737488355328 from by have := HFE.out.text HK17.out (by rw [HNE.out, HLTK.out]) HLT.out; omega)
              have HBXQ := Lib.hid hbx
              have HZQ := Lib.hid (block_below hbq HZ3.out (block_lt HZ3.out))
              have HBW := Lib.hid (HB1.out.trans ((HB3.out.trans (hbq.mono HB3.out.size)).mono HB1.out.size))
              have HP := Lib.hid (plainT_any x wr HXT.out)
              have q0 := block_cell hbx 0
              have q1 := block_cell hbx 1
              have q2 := block_cell hbx 2
              have q3 := block_cell hbx 3
              have q4 := block_cell hbx 4
              have q5 := block_cell hbx 5
              have q6 := block_cell hbx 6
              simp [oC] at q0 q1 q2 q3 q4 q5 q6
              clear hfi hbx hbq hie
              go_wp2_with fail
              refine (HP.out).mono ?_; rintro e w6 ⟨rfl, hb6⟩
              have HZ6 := Lib.hid (block_below hb6 HZQ.out (block_lt HZQ.out))
              have HX6 := Lib.hid (block_below hb6 HBXQ.out (block_lt HBXQ.out))
              have HBW6 := Lib.hid (below_two HBW.out hb6)
              clear hb6 q0 q1 q2 q3 q4 q5 q6 HP
              rcases hpx : plainO x with _ | _
              · have HR := Lib.hid (show parR s.data.toList = (zeroO, 4) from parR_none (HFE.out.noLine HK17.out hk1 (by rw [HNE.out, HLTK.out]) HWS2.out (by rw [hpx]; decide)))
                clear hpx
                (have q0 := block_cell HZ6.out 0; have q1 := block_cell HZ6.out 1; have q2 := block_cell HZ6.out 2; have q3 := block_cell HZ6.out 3; have q4 := block_cell HZ6.out 4; have q5 := block_cell HZ6.out 5; have q6 := block_cell HZ6.out 6; have f0 := block_free HZ6.out 0; have f1 := block_free HZ6.out 1; have f2 := block_free HZ6.out 2; have f3 := block_free HZ6.out 3; have f4 := block_free HZ6.out 4; have f5 := block_free HZ6.out 5; have f6 := block_free HZ6.out 6; have hz := block_lt HZ6.out; simp at q0 q1 q2 q3 q4 q5 q6)
                go_wp2_with fail
                exact bodyPost_ret (res7_tmp Tryd.results23 (Tryd.isAgg51 _) (Tryd.sizeOf51 _) rfl (set7 HZ6.out _ _ _ _ _ _ _)) rfl ⟨by rw [HR.out] <;> rfl, set7_below HBW6.out (Nat.le_refl _) _ _ _ _ _ _ _⟩
              · have HR := Lib.hid (show parR s.data.toList = (x, 0) from parR_some (HFE.out.line (by rw [HNE.out, HLTK.out]) HWS2.out hpx))
                clear hpx
                have x0 := block_cell HX6.out 0
                have x1 := block_cell HX6.out 1
                have x2 := block_cell HX6.out 2
                have x3 := block_cell HX6.out 3
                have x4 := block_cell HX6.out 4
                have x5 := block_cell HX6.out 5
                have x6 := block_cell HX6.out 6
                simp [oC] at x0 x1 x2 x3 x4 x5 x6
                (have q0 := block_cell HZ6.out 0; have q1 := block_cell HZ6.out 1; have q2 := block_cell HZ6.out 2; have q3 := block_cell HZ6.out 3; have q4 := block_cell HZ6.out 4; have q5 := block_cell HZ6.out 5; have q6 := block_cell HZ6.out 6; have f0 := block_free HZ6.out 0; have f1 := block_free HZ6.out 1; have f2 := block_free HZ6.out 2; have f3 := block_free HZ6.out 3; have f4 := block_free HZ6.out 4; have f5 := block_free HZ6.out 5; have f6 := block_free HZ6.out 6; have hz := block_lt HZ6.out; simp at q0 q1 q2 q3 q4 q5 q6)
                go_wp2_with fail
                exact bodyPost_ret (res7_tmp Tryd.results23 (Tryd.isAgg51 _) (Tryd.sizeOf51 _) rfl (set7 HZ6.out _ _ _ _ _ _ _)) rfl ⟨by rw [HR.out] <;> rfl, set7_below HBW6.out (Nat.le_refl _) _ _ _ _ _ _ _⟩
        · have HR := Lib.hid (show parR s.data.toList = (zeroO, 4) from parR_none (no_count hk1 hk HWS2.out hc))
          have hneq : ((n : Int) == ((letL k).length : Int) + 1) = false := by
            rw [beq_eq_false_iff_ne]
            have := HN.out
            simp at this
            omega
          have hne2 : ((n : Int) != ((letL k).length : Int) + 1) = true := by rw [bne, hneq]; rfl
          have HBW := Lib.hid (HB1.out.trans (HB3.out.mono HB1.out.size))
          clear hc
          (have q0 := block_cell HZ3.out 0; have q1 := block_cell HZ3.out 1; have q2 := block_cell HZ3.out 2; have q3 := block_cell HZ3.out 3; have q4 := block_cell HZ3.out 4; have q5 := block_cell HZ3.out 5; have q6 := block_cell HZ3.out 6; have f0 := block_free HZ3.out 0; have f1 := block_free HZ3.out 1; have f2 := block_free HZ3.out 2; have f3 := block_free HZ3.out 3; have f4 := block_free HZ3.out 4; have f5 := block_free HZ3.out 5; have f6 := block_free HZ3.out 6; have hz := block_lt HZ3.out; simp at q0 q1 q2 q3 q4 q5 q6)
          go_wp2_with fail
          exact bodyPost_ret (res7_tmp Tryd.results23 (Tryd.isAgg51 _) (Tryd.sizeOf51 _) rfl (set7 HZ3.out _ _ _ _ _ _ _)) rfl ⟨by rw [HR.out] <;> rfl, set7_below HBW.out (Nat.le_refl _) _ _ _ _ _ _ _⟩
      · have hne : (w0 == nameL k) = false := by rw [beq_eq_false_iff_ne]; exact he
        have HNO2 := Lib.hid (show ∀ j, 1 ≤ j → j < k + 1 → nameL j ≠ w0 from fun j h1 h2 e => by
          rcases Nat.lt_or_ge j k with h | h
          · exact HNO.out j h1 h e
          · obtain rfl : j = k := by omega
            exact he e.symm)
        clear he
        go_wp2_with fail
        go_roundw
        case rel => exact ⟨k + 1, by omega, by omega, by go_num, HNO2.out, HB3.out⟩
        case measure => simp [intOf]; omega
    · have hki : ¬ ((k : Int) ≤ 16) := by omega
      have HR := Lib.hid (show parR s.data.toList = (zeroO, 4) from parR_none (no_name HWS.out fun j h1 h2 e => HNO.out j h1 (by omega) e))
      have HBW := Lib.hid (HB1.out.trans (hbr.mono HB1.out.size))
      clear hbr
      (have q0 := block_cell HZR.out 0; have q1 := block_cell HZR.out 1; have q2 := block_cell HZR.out 2; have q3 := block_cell HZR.out 3; have q4 := block_cell HZR.out 4; have q5 := block_cell HZR.out 5; have q6 := block_cell HZR.out 6; have f0 := block_free HZR.out 0; have f1 := block_free HZR.out 1; have f2 := block_free HZR.out 2; have f3 := block_free HZR.out 3; have f4 := block_free HZR.out 4; have f5 := block_free HZR.out 5; have f6 := block_free HZR.out 6; have hz := block_lt HZR.out; simp at q0 q1 q2 q3 q4 q5 q6)
      go_wp2_with fail
      exact bodyPost_ret (res7_tmp Tryd.results23 (Tryd.isAgg51 _) (Tryd.sizeOf51 _) rfl (set7 HZR.out _ _ _ _ _ _ _)) rfl ⟨by rw [HR.out] <;> rfl, set7_below HBW.out (Nat.le_refl _) _ _ _ _ _ _ _⟩
end Go.Proofs.YtdfkbahlngijcaaDoor

