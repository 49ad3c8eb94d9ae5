/- The freelist: the law FreelistPartition. -/
import Derived.Test.YtpcpjmgkdbgopaaDoorGi
namespace Go.Proofs.YtpcpjmgkdbgopaaDoor
open Go.RowKit

theorem Rs.far {w : World} {B S : Nat} {t : TypeId} {ao : Option Addr} {n c : Nat} {f : Nat → Value} (h : Rs w B t (.slice ao n c) n f) (hS : S < B) : 0 < n → ∃ q cap, ao = some ⟨q, 0, none⟩ ∧ S < q ∧ Arr w q t cap n f := by
  obtain ⟨ao', c', e, h⟩ := h
  cases e
  intro hn
  obtain ⟨q, cap, e, hB, ha⟩ := h hn
  exact ⟨q, cap, e, by omega, ha⟩
theorem mk_at (a : Nat) (ha : a < 8) (w : World) :
    (Instr.makeSlice 45 (.int .i64 (1 + (a : Int))) (.int .i64 (1 + (a : Int)))).run Tryd.prog w = .ok (.slice (some ⟨w.heap.size, 0, none⟩) (a + 1) (a + 1)) (w.alloc (.cells (sameV (a + 1) (.int .i64 0)) 3)) := by
  have := mk_int (a + 1) (by omega) w
  rwa [show ((a + 1 : Nat) : Int) = 1 + (a : Int) by omega] at this
theorem free_marks {x : FL} (hf : FInv x) (s : Nat) (hs : s < x.n) : (False ∨ ∃ i, i < x.m ∧ freeF x i = s) ↔ x.st s = 0 := by
  constructor
  · rintro (h | ⟨i, h1, h2⟩)
    · exact h.elim
    · rw [← h2]; exact (free_lt hf h1).2
  · intro h; exact .inr (free_all hf hs h)
theorem go_marks {x : FL} (A : Nat → Prop) (t s : Nat) (hs : s < x.n) : (A s ∨ ∃ i, i < goN x t ∧ goF x t i = s) ↔ (A s ∨ x.st s = t) := by
  constructor
  · rintro (h | ⟨i, h1, h2⟩)
    · exact .inl h
    · rw [← h2]; exact .inr (go_lt h1).2
  · rintro (h | h)
    · exact .inl h
    · exact .inr (go_all hs h)
theorem marks_zero (N : Nat) (g : Nat → Nat) : Marks N (fun _ => false) (fun _ => False) g 0 := by
  intro s _
  constructor
  · intro h; cases h
  · rintro (h | ⟨i, hi, _⟩)
    · exact h.elim
    · exact absurd hi (Nat.not_lt_zero _)
theorem All.only {w w' : World} {S B : Nat} {v : Value} {l : List Int} (h : All w B v l) (k : Only S w w') (hS : ∀ q, v.ownBlock = some q → q < S) : All w' B v l :=
  own_keep h fun q hq => k.2 q (own_lt h q hq).2 (by have := hS q hq; omega)

set_option maxRecDepth 100000 in
set_option maxHeartbeats 4000000 in
theorem partition_any (n g : Int) (ao : Option Addr) (len cap : Nat) (l : List Dd) (w : World) (hr : IsR ddF w ao len l) (hlen : len ≤ 9223372036854775807) :
    Calls Tryd.prog 6 #[.int .i64 n, .int .i64 g, .slice ao len cap] w fun e w' => e = .returned (.bool true) ∧ Below w.heap.size w w' := by
  obtain ⟨a, ha, hna⟩ := mod_nat n 8 (by decide)
  obtain ⟨c, hc, hgc⟩ := mod_nat g 4 (by decide)
  have HRUN := Lib.hid (run_any n g ao len cap l w a c hna hgc hr hlen)
  have hmk := mk_at a ha
  have ha1 : (a : Int) < 8 := by omega
  clear hna hgc hr
  go_enter Tryd.func6, Tryd.ntmps6
  go_wp2_with fail
  refine HRUN.out.mono ?_; rintro e w1 hh
  obtain ⟨b, x, v, hs, rfl, hso, hxn, -, hall, hin, hsl⟩ := hh
  have HQ1 := Lib.hid hso
  have HALL := Lib.hid hall
  have HIN := Lib.hid hin
  have HLT := Lib.hid hso.1.lts
  have HFI := Lib.hid hso.2.1
  have HXN := Lib.hid hxn
  have HQ2 := Lib.hid (hso.below ((Below.refl _ _).alloc (Nat.le_refl _) (.cells (sameV (a + 1) (.int .i64 0)) 3)))
  have HS2 := Lib.hid (show Arr (w1.alloc (.cells (sameV (a + 1) (.int .i64 0)) 3)) w1.heap.size 3 (a + 1) (a + 1) (seenV fun _ => false) from arr_same (block_new _ _) (fun _ _ => rfl))
  have HO2 := Lib.hid (show Below w1.heap.size w1 (w1.alloc (.cells (sameV (a + 1) (.int .i64 0)) 3)) from (Below.refl _ _).alloc (Nat.le_refl _) _)
  have HSZ2 := Lib.hid (show (w1.alloc (.cells (sameV (a + 1) (.int .i64 0)) 3)).heap.size = w1.heap.size + 1 by simp)
  clear hso hall hin HRUN hxn
  go_wp2_with fail
  clear hmk
  refine (free_solo HQ2.out).mono ?_; rintro e w3 ⟨v1, rfl, ra, ba⟩
  obtain ⟨ao1, c1, rfl, -⟩ := id ra
  have HQ3 := Lib.hid (HQ2.out.below ba)
  have HS3 := Lib.hid (HS2.out.keep (ba.block _ HS2.out.lt))
  have HO3 := Lib.hid (HO2.out.trans (ba.mono HO2.out.size))
  have R3 := Lib.hid ra
  have HSZ3 := Lib.hid ba.size
  clear ra ba
  go_wp2_with fail
  refine (withdrawn_any b x w3 HQ3.out.1 HFI.out.n2).mono ?_; rintro e w4 hh
  obtain ⟨v2, rfl, rb, bb⟩ := hh.rs
  obtain ⟨ao2, c2, rfl, -⟩ := id rb
  have HQ4 := Lib.hid (HQ3.out.below bb)
  have HS4 := Lib.hid (HS3.out.keep (bb.block _ HS3.out.lt))
  have HO4 := Lib.hid (HO3.out.trans (bb.mono HO3.out.size))
  have R3b := Lib.hid (R3.out.keep bb (Nat.le_refl _))
  have R4 := Lib.hid rb
  have HSZ4 := Lib.hid bb.size
  clear hh rb bb R3 HS3 HS2
  go_wp2_with fail
  refine (handles_any b x w4 HQ4.out.1 HFI.out).mono ?_; rintro e w5 hh
  obtain ⟨v3, rfl, rc, bc⟩ := hh.rs
  obtain ⟨ao3, c3, rfl, -⟩ := id rc
  have HQ5 := Lib.hid (HQ4.out.below bc)
  have HS5 := Lib.hid (HS4.out.keep (bc.block _ HS4.out.lt))
  have HO5 := Lib.hid (HO4.out.trans (bc.mono HO4.out.size))
  have HA5 := Lib.hid (HALL.out.below HO5.out)
  have HAB := Lib.hid (fun q (hq : v.ownBlock = some q) => (own_lt HALL.out q hq).2)
  have RA := Lib.hid ((R3b.out.keep bc (Nat.le_refl _)).far (S := w1.heap.size) (by rw [HSZ2.out]; omega))
  have RB := Lib.hid (show 0 < goN x 2 → ∃ q cap, ao2 = some ⟨q, 0, none⟩ ∧ w1.heap.size < q ∧ Arr w5 q 3 cap (goN x 2) (fun i => encI (goF x 2 i)) from (R4.out.keep bc (Nat.le_refl _)).far (by have := HSZ2.out; have := HSZ3.out; omega))
  have RC := Lib.hid (show 0 < goN x 1 → ∃ q cap, ao3 = some ⟨q, 0, none⟩ ∧ w1.heap.size < q ∧ Arr w5 q 33 cap (goN x 1) (fun i => .int .u64 (hMk (goF x 1 i) (x.gn (goF x 1 i)))) from rc.far (by have := HSZ2.out; have := HSZ3.out; have := HSZ4.out; omega))
  have g2 : goN x 1 ≤ 16384 := by have := slotsTo_len x 1 x.n; have := HFI.out.n2; unfold goN; omega
  have g3 : goN x 2 ≤ 16384 := by have := slotsTo_len x 2 x.n; have := HFI.out.n2; unfold goN; omega
  have g4 : x.m ≤ 16384 := by have := HFI.out.mn; have := HFI.out.n2; omega
  have eN1 : (slotsTo x 1 x.n).length = goN x 1 := rfl
  have eN2 : (slotsTo x 2 x.n).length = goN x 2 := rfl
  rw [eN1, eN2]
  clear eN1 eN2 hh rc bc R3b R4 HS4 HSZ2 HSZ3 HSZ4 HO2 HO3 HO4 HQ2 HQ3 HQ4 HALL
  have HWS := Lib.hid HQ1.out.2.2.2.size
  generalize w1.heap.size = S at *
  go_wp2_with fail
  go_loopw [15] (fun i wr => ∃ (k : Nat) (M : Nat → Bool), k ≤ x.m ∧ i = .int .i64 k ∧ Only S w5 wr ∧ Arr wr S 3 (a + 1) (a + 1) (seenV M) ∧ Marks (a + 1) M (fun _ => False) (freeF x) k) (fun i _ => x.m - (intOf i).toNat)
  case atStart => exact ⟨0, _, Nat.zero_le _, rfl, Only.refl _ _, HS5.out, marks_zero _ _⟩
  case round =>
    obtain ⟨k, M, hk, rfl, hon, hsa, hmk⟩ := hrel
    by_cases hlt : k < x.m
    · obtain ⟨q, cq, rfl, hq, har⟩ := RA.out (by omega)
      have q0 : wr.cell? ⟨q, k, none⟩ = some (.int .i64 (freeF x k)) := (hon.arr har hq).cell hlt
      have hfl := free_lt HFI.out hlt
      rw [HXN.out] at hfl
      have hM := hmk.new hfl.1 (fun h => h) (fun i hi e => by have := free_inj HFI.out (by omega) hlt e; omega)
      have c1 := hsa.cell hfl.1
      rw [seen_no hM] at c1
      have f1 := hsa.free (freeF x k)
      have HSN := Lib.hid (arr_mark hsa hfl.1)
      have HMN := Lib.hid hmk.step
      have HON := Lib.hid (hon.set (freeF x k) (.int .i64 1))
      have hk1 : (k : Int) < (x.m : Int) := by omega
      have hs1 : ((freeF x k : Nat) : Int) < 1 + (a : Int) := by omega
      clear hon hsa hmk har hM hfl
      generalize freeF x k = s0 at *
      go_wp2_with fail
      go_roundw
      case rel => exact ⟨k + 1, mark M s0, by omega, by go_num, HON.out, HSN.out, HMN.out⟩
      case measure => simp [intOf]; omega
    · obtain rfl : k = x.m := by omega
      have HON1 := Lib.hid hon
      have HSA1 := Lib.hid hsa
      have HMK1 := Lib.hid (hmk.start (g' := goF x 2) (A' := fun s => x.st s = 0) (fun s hs => free_marks HFI.out s (by rw [HXN.out]; exact hs)))
      clear hon hsa hmk
      go_wp2_with fail
      go_loopw [16] (fun i wr => ∃ (k : Nat) (M : Nat → Bool), k ≤ goN x 2 ∧ i = .int .i64 k ∧ Only S w5 wr ∧ Arr wr S 3 (a + 1) (a + 1) (seenV M) ∧ Marks (a + 1) M (fun s => x.st s = 0) (goF x 2) k) (fun i _ => goN x 2 - (intOf i).toNat)
      case atStart => exact ⟨0, _, Nat.zero_le _, rfl, HON1.out, HSA1.out, HMK1.out⟩
      case round =>
        obtain ⟨k, M, hk, rfl, hon, hsa, hmk⟩ := hrel
        by_cases hlt : k < goN x 2
        · obtain ⟨q, cq, rfl, hq, har⟩ := RB.out (by omega)
          have q0 : wr.cell? ⟨q, k, none⟩ = some (.int .i64 (goF x 2 k)) := (hon.arr har hq).cell hlt
          have hfl := go_lt hlt
          rw [HXN.out] at hfl
          have hM := hmk.new hfl.1 (fun h => by have := h.symm.trans hfl.2; omega) (fun i hi e => by have := go_inj (by omega) hlt e; omega)
          have c1 := hsa.cell hfl.1
          rw [seen_no hM] at c1
          have f1 := hsa.free (goF x 2 k)
          have HSN := Lib.hid (fun (n : Nat) => arr_mark (w := wr.drewN n) hsa hfl.1)
          have HMN := Lib.hid hmk.step
          have HON := Lib.hid (fun (n : Nat) => (hon.drewN n).set (goF x 2 k) (.int .i64 1))
          have HLN := Lib.hid (fun (n : Nat) => Only.isL HQ5.out.1 ((hon.drewN n).set (goF x 2 k) (.int .i64 1)) HLT.out)
          have HGN := Lib.hid (fun w hl => gen_lit b x (goF x 2 k) w hl 0 7 (genV_gone (by rw [HXN.out]; exact hfl.1) hfl.2))
          have hk1 : (k : Int) < (goN x 2 : Int) := by omega
          have hs1 : ((goF x 2 k : Nat) : Int) < 1 + (a : Int) := by omega
          by_cases hk0 : k = 0
          · subst hk0
            clear hon hsa hmk har hM hfl
            generalize goF x 2 0 = s0 at *
            have hd1 : decide ((s0 : Int) < 0) = false := decide_eq_false (by omega)
            have hd2 : decide (1 + (a : Int) ≤ (s0 : Int)) = false := decide_eq_false (by omega)
            go_wp2_with fail
            go_quiet (fail)
            go_wp2_with fail
            refine (HGN.out _ (HLN.out _)).mono ?_; rintro e w6 ⟨rfl, rfl⟩
            go_wp2_with fail
            go_roundw
            case rel => exact ⟨0 + 1, mark M s0, by omega, by go_num, HON.out _, HSN.out _, HMN.out⟩
            case measure => simp [intOf]; omega
          · obtain ⟨kk, rfl⟩ : ∃ kk, k = kk + 1 := ⟨k - 1, by omega⟩
            have q1 : wr.cell? ⟨q, kk, none⟩ = some (.int .i64 (goF x 2 kk)) := (hon.arr har hq).cell (by omega)
            have hup : ((goF x 2 kk : Nat) : Int) < (goF x 2 (kk + 1) : Nat) := by have := go_up (x := x) (s := 2) (show kk < kk + 1 by omega) hlt; omega
            clear hon hsa hmk har hM hfl hk0
            generalize goF x 2 (kk + 1) = s0 at *
            generalize goF x 2 kk = s1 at *
            have hd3 : decide ((s0 : Int) ≤ (s1 : Int)) = false := decide_eq_false (by omega)
            have hk2 : (0 : Int) < (kk : Int) + 1 := by omega
            have hk3 : (kk : Int) < (goN x 2 : Int) := by omega
            have hk4 : (kk : Int) + 1 < (goN x 2 : Int) := by omega
            have hd1 : decide ((s0 : Int) < 0) = false := decide_eq_false (by omega)
            have hd2 : decide (1 + (a : Int) ≤ (s0 : Int)) = false := decide_eq_false (by omega)
            go_wp2_with fail
            go_quiet (fail)
            go_wp2_with fail
            refine (HGN.out _ (HLN.out _)).mono ?_; rintro e w6 ⟨rfl, rfl⟩
            go_wp2_with fail
            go_roundw
            case rel => exact ⟨(kk + 1) + 1, mark M s0, by omega, by go_num, HON.out _, HSN.out _, HMN.out⟩
            case measure => simp [intOf]; omega
        · obtain rfl : k = goN x 2 := by omega
          have HON2 := Lib.hid hon
          have HSA2 := Lib.hid hsa
          have HMK2 := Lib.hid (hmk.start (g' := fun i => goF x 1 i) (A' := fun s => x.st s = 0 ∨ x.st s = 2) (fun s hs => go_marks (x := x) (fun s => x.st s = 0) 2 s (by rw [HXN.out]; exact hs)))
          clear hon hsa hmk HON1 HSA1 HMK1
          go_wp2_with fail
          go_loopw [19] (fun i wr => ∃ (k : Nat) (M : Nat → Bool), k ≤ goN x 1 ∧ i = .int .i64 k ∧ Only S w5 wr ∧ Arr wr S 3 (a + 1) (a + 1) (seenV M) ∧ Marks (a + 1) M (fun s => x.st s = 0 ∨ x.st s = 2) (goF x 1) k) (fun i _ => goN x 1 - (intOf i).toNat)
          case atStart => exact ⟨0, _, Nat.zero_le _, rfl, HON2.out, HSA2.out, HMK2.out⟩
          case round =>
            obtain ⟨k, M, hk, rfl, hon, hsa, hmk⟩ := hrel
            by_cases hlt : k < goN x 1
            · obtain ⟨q, cq, rfl, hq, har⟩ := RC.out (by omega)
              have q0 : wr.cell? ⟨q, k, none⟩ = some (.int .u64 (hMk (goF x 1 k) (x.gn (goF x 1 k)))) := (hon.arr har hq).cell hlt
              have hfl := go_lt hlt
              have hmo := mkOK_of HFI.out hfl.1
              have HLV := Lib.hid ((liveL_mk hmo).2 ⟨hfl.1, hfl.2, rfl⟩)
              have HRG := Lib.hid (hMk_le hmo)
              have HLI := Lib.hid (Only.isL HQ5.out.1 hon HLT.out)
              have HGN := Lib.hid (fun w hl => gen_lit b x (goF x 1 k) w hl _ _ (genV_in hfl.1 (by rw [hfl.2]; decide)))
              rw [HXN.out] at hfl
              have hM := hmk.new hfl.1 (fun h => by have := hfl.2; rcases h with h | h <;> omega) (fun i hi e => by have := go_inj (by omega) hlt e; omega)
              have c1 := hsa.cell hfl.1
              rw [seen_no hM] at c1
              have f1 := hsa.free (goF x 1 k)
              have HSN := Lib.hid (fun (n : Nat) => arr_mark (w := wr.drewN n) hsa hfl.1)
              have HMN := Lib.hid hmk.step
              have HON := Lib.hid (fun (n : Nat) => (hon.drewN n).set (goF x 1 k) (.int .i64 1))
              have hk1 : (k : Int) < (goN x 1 : Int) := by omega
              have hs1 : ((goF x 1 k : Nat) : Int) < 1 + (a : Int) := by omega
              have HMO := Lib.hid hmo
              have HSL := Lib.hid (fun w => hSlot_mk (goF x 1 k) (x.gn (goF x 1 k)) w hmo)
              have HGE := Lib.hid (fun w => hGen_mk (goF x 1 k) (x.gn (goF x 1 k)) w hmo)
              clear hon hsa hmk har hM hfl hmo
              generalize x.gn (goF x 1 k) = g0 at *
              generalize goF x 1 k = s0 at *
              go_wp2_with fail
              refine (HSL.out _).mono ?_; rintro e w6 ⟨rfl, rfl⟩
              go_wp2_with fail
              refine (HGE.out _).mono ?_; rintro e w6 ⟨rfl, rfl⟩
              go_wp2_with fail
              refine (live_yes b x _ wr HRG.out.1 HRG.out.2 HLI.out HLV.out).mono ?_; rintro e w6 ⟨rfl, m6, rfl⟩
              go_wp2_with fail
              refine (HGN.out _ (HLI.out.drewN m6)).mono ?_; rintro e w6 ⟨rfl, rfl⟩
              go_wp2_with fail
              go_roundw
              case rel => exact ⟨k + 1, mark M s0, by omega, by go_num, HON.out m6, HSN.out m6, HMN.out⟩
              case measure => simp [intOf]; omega
            · obtain rfl : k = goN x 1 := by omega
              have HON3 := Lib.hid hon
              have HSA3 := Lib.hid hsa
              have HALLM := Lib.hid (show ∀ s, s < a + 1 → M s = true from fun s hs => by
                refine (hmk s hs).2 ((go_marks (x := x) (fun s => x.st s = 0 ∨ x.st s = 2) 1 s (by rw [HXN.out]; exact hs)).2 ?_)
                have := HFI.out.s2 s (by rw [HXN.out]; exact hs)
                show (x.st s = 0 ∨ x.st s = 2) ∨ x.st s = 1
                omega)
              clear hon hsa hmk HON2 HSA2 HMK2
              go_wp2_with fail
              go_loop [26] (fun i => ∃ k : Nat, k ≤ a + 1 ∧ i = .int .i64 k) (fun i => a + 1 - (intOf i).toNat)
              case atStart => exact ⟨0, Nat.zero_le _, rfl⟩
              case round =>
                obtain ⟨k, hk, rfl⟩ := hrel
                by_cases hlt : k < a + 1
                · have c1 := HSA3.out.cell hlt
                  rw [seen_yes (HALLM.out k hlt)] at c1
                  have hk1 : (k : Int) < 1 + (a : Int) := by omega
                  have hk2 : (k : Int) < ((a + 1 : Nat) : Int) := by omega
                  go_wp2_with fail
                  go_round
                  case rel => exact ⟨k + 1, by omega, by go_num⟩
                  case measure => simp [intOf]; omega
                · have hk1 : ¬ ((k : Int) < 1 + (a : Int)) := by omega
                  have HAW := Lib.hid ((HA5.out.only HON3.out HAB.out))
                  obtain ⟨va, vc, rfl, hv⟩ := HA5.out.rs
                  have HV := Lib.hid hv
                  have HBD := Lib.hid (fun vb vo (e : va = some ⟨vb, vo, none⟩) => HAB.out vb (by rw [e]; rfl))
                  clear hv HSA3 HAW
                  go_wp2_with fail
                  go_loopw [27, 28] (fun m i wi => ∃ (j mm : Nat), j ≤ hs.length ∧ i = .int .i64 j ∧ m = .int .i64 mm ∧ mm = liveN x hs j ∧ mm ≤ j ∧ Only S w5 wi) (fun _ i _ => hs.length - (intOf i).toNat)
                  case atStart => exact ⟨0, 0, Nat.zero_le _, rfl, rfl, rfl, Nat.le_refl _, HON3.out⟩
                  case round =>
                    obtain ⟨j, mm, hj, rfl, rfl, hmm, hmj, hon⟩ := hrel
                    have HMM := Lib.hid hmm
                    have HON4 := Lib.hid hon
                    clear hmm
                    by_cases hlt2 : j < hs.length
                    · obtain ⟨vb, vo, rfl, hcell⟩ := HV.out (by omega)
                      have hvb := HBD.out vb vo rfl
                      have qv : wr.cell? ⟨vb, vo + j, none⟩ = some (.int .u64 (hs.getD j 0)) := (hon.1.cell (p := ⟨vb, vo + j, none⟩) hvb).trans (hcell j hlt2)
                      have hj1 : (j : Int) < (hs.length : Int) := by omega
                      have HTR := Lib.hid (live_old HFI.out HIN.out j hlt2)
                      have HLI := Lib.hid (Only.isL HQ5.out.1 hon HLT.out)
                      by_cases hlv : liveL x (hs.getD j 0)
                      · have HNX := Lib.hid (liveN_yes hlt2 hlv)
                        have HLV := Lib.hid (live_yes b x (hs.getD j 0) wr HTR.out.1 HTR.out.2 HLI.out hlv)
                        clear hlv hcell hon
                        generalize hs.getD j 0 = th at *
                        go_wp2_with fail
                        refine HLV.out.mono ?_; rintro e w6 ⟨rfl, m6, rfl⟩
                        go_wp2_with fail
                        go_roundw
                        case rel => exact ⟨j + 1, mm + 1, by omega, by go_num, by go_num, by rw [HNX.out, HMM.out], by omega, HON4.out.drewN m6⟩
                        case measure => simp [intOf]; omega
                      · have HNX := Lib.hid (liveN_no hlt2 hlv)
                        have HLV := Lib.hid (live_no b x (hs.getD j 0) wr HTR.out.1 HTR.out.2 HLI.out hlv)
                        clear hlv hcell hon
                        generalize hs.getD j 0 = th at *
                        go_wp2_with fail
                        refine HLV.out.mono ?_; rintro e w6 ⟨rfl, m6, rfl⟩
                        go_wp2_with fail
                        go_roundw
                        case rel => exact ⟨j + 1, mm, by omega, by go_num, rfl, by rw [HNX.out, HMM.out], by omega, HON4.out.drewN m6⟩
                        case measure => simp [intOf]; omega
                    · obtain rfl : j = hs.length := by omega
                      obtain rfl : mm = goN x 1 := HMM.out.trans (liveN_all HFI.out HIN.out)
                      clear hon
                      have HBB := Lib.hid (HQ1.out.2.2.2.trans ((HO5.out.trans HON4.out.1).mono HWS.out))
                      go_wp2_with fail
                      refine (awake_any _).mono ?_; rintro e w6 ⟨rfl, hb⟩
                      have HB2 := Lib.hid (below_two HBB.out hb)
                      clear hb
                      go_wp2_with fail
                      go_ret
                      exact ⟨rfl, HB2.out⟩
end Go.Proofs.YtpcpjmgkdbgopaaDoor
