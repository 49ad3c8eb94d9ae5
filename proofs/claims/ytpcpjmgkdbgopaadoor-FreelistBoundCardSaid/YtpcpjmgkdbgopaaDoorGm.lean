/- The freelist: the law FreelistBound. -/
import Derived.Test.YtpcpjmgkdbgopaaDoorGl
namespace Go.Proofs.YtpcpjmgkdbgopaaDoor
open Go.RowKit

def fI (i : Int) : List Value := [.int .i64 i]
theorem fI_len (i : Int) : (fI i).length = 1 := rfl
theorem phi_or {x : FL} {i T : Nat} (hf : FInv x) (hw : WInv x) (_ : 0 ≤ i) (hm : x.m = 0) (hg : goN x 1 ≠ 0 → False) : 2 * phi x + 2 * (i + 1) ≤ T ∨ phi x = 0 := by
  by_cases h : phi x = 0
  · exact .inr h
  · exact absurd (phi_live hf hw h hm) (fun h => hg h)
theorem live_hs (x : FL) : (slotsTo x 1 x.n).length = goN x 1 := rfl

set_option maxRecDepth 100000 in
set_option maxHeartbeats 4000000 in
theorem bound_any (n g : Int) (ao : Option Addr) (len cap : Nat) (l : List Int) (w : World) (hr : IsR fI w ao len l) (hlen : len ≤ 9223372036854775807) :
    Calls Tryd.prog 8 #[.int .i64 n, .int .i64 g, .slice ao len cap] w fun e w' => e = .returned (.bool true) ∧ Below w.heap.size w w' := by
  obtain ⟨a, ha, hna⟩ := mod_nat n 8 (by decide)
  obtain ⟨c, hc, hgc⟩ := mod_nat g 4 (by decide)
  have M8 := Lib.hid (mod_as n 8 a (by decide) (by decide) hna)
  have M4 := Lib.hid (mod_as g 4 c (by decide) (by decide) hgc)
  have NL := Lib.hid (new_at a c ha hc)
  have hmk := mk_at a ha
  have HR := Lib.hid hr
  have ha1 : (a : Int) < 8 := by omega
  have hc1 : (c : Int) < 4 := by omega
  obtain ⟨T, hTn⟩ : ∃ T : Nat, T = 4 * (a + 1) * (c + 1) := ⟨_, rfl⟩
  have hT : 4 * (1 + (a : Int)) * (1 + (c : Int)) = (T : Int) := by rw [hTn]; push_cast; rw [Int.add_comm 1 (a : Int), Int.add_comm 1 (c : Int)]
  have hTb : 4 ≤ T ∧ T ≤ 128 := by
    rw [hTn]
    have h1 : 4 * (a + 1) * (c + 1) ≤ 4 * 8 * 4 := Nat.mul_le_mul (Nat.mul_le_mul (Nat.le_refl _) ha) hc
    have h2 : 4 * 1 * 1 ≤ 4 * (a + 1) * (c + 1) := Nat.mul_le_mul (Nat.mul_le_mul (Nat.le_refl _) (by omega)) (by omega)
    omega
  have HP0 := Lib.hid (show 2 * phi (newL (a + 1) (c + 1)) = T by rw [phi_new _ _ (by omega), hTn, Nat.mul_left_comm (a + 1), ← Nat.mul_assoc 2 2, Nat.mul_assoc 4])
  clear hna hgc hr hTn
  go_enter Tryd.func8, Tryd.ntmps8
  go_wp2_with fail
  refine (M8.out _).mono ?_; rintro e w1 ⟨rfl, rfl⟩
  go_wp2_with fail
  refine (M4.out _).mono ?_; rintro e w1 ⟨rfl, rfl⟩
  go_wp2_with fail
  refine (NL.out _).mono ?_; rintro e w1 hh
  obtain ⟨b, rfl, hl, hb, hge⟩ := hh
  have HP := Lib.hid (Solo.of_new (by omega) (by omega) (by omega) (by omega) hl hb hge)
  have HNE := Lib.hid hl.new
  have HQ2 := Lib.hid (HP.out.below ((Below.refl _ _).alloc (Nat.le_refl _) (.cells (sameV (a + 1) (.int .i64 0)) 3)))
  have HS2 := Lib.hid (show Arr (w1.alloc (.cells (sameV (a + 1) (.int .i64 0)) 3)) w1.heap.size 3 (a + 1) (a + 1) (fun s => encI (cntS (newL (a + 1) (c + 1)) s)) from arr_same (block_new _ _) (fun _ _ => rfl))
  have HWS := Lib.hid HP.out.2.2.2.size
  have HLT := Lib.hid hl.lts
  clear hl hb hge M8 M4 NL
  go_wp2_with fail
  clear hmk
  generalize w1.heap.size = S at *
  go_loopw [12, 13] (fun gv iv wr => ∃ (i gg : Nat) (x : FL), i ≤ T ∧ iv = .int .i64 i ∧ gv = .int .i64 gg ∧ Solo w wr b x ∧ x.n = a + 1 ∧ x.most = c + 1 ∧ WInv x ∧ Arr wr S 3 (a + 1) (a + 1) (fun s => encI (cntS x s)) ∧ gg = goneN x ∧ gg ≤ i ∧ (2 * phi x + 2 * i ≤ T ∨ phi x = 0)) (fun _ i _ => T - (intOf i).toNat)
  case atStart => exact ⟨0, 0, _, Nat.zero_le _, rfl, rfl, HQ2.out, rfl, rfl, winv_new _ _, HS2.out, (gone_new _ _).symm, Nat.le_refl _, .inl (by rw [HP0.out]; omega)⟩
  case round =>
    obtain ⟨i, gg, x, hi, rfl, rfl, hq, hxn, hxm, hwi, hsa, hgg, hgi, hpf⟩ := hrel
    have HQ := Lib.hid hq
    have HSA := Lib.hid hsa
    have HXN := Lib.hid hxn
    have HXM := Lib.hid hxm
    have HWI := Lib.hid hwi
    have HGG := Lib.hid hgg
    have HPF := Lib.hid hpf
    clear hq hsa hxn hxm hwi hgg hpf HQ2 HS2 HP HP0
    by_cases hlt : i < T
    · have hi1 : (i : Int) < (T : Int) := by omega
      have hta := take_any b x wr HQ.out.1 HQ.out.2.1
      rcases take_two x HQ.out.2.1 with ⟨hm0, htr, hts⟩ | ⟨hm0, htr, hts, hth⟩
      · rw [htr, hts] at hta
        have HTA := Lib.hid hta
        clear hta htr hts
        go_wp2_with fail
        refine HTA.out.mono ?_; rintro e w2 ⟨rfl, t1, k1⟩
        have HQ2 := Lib.hid (HQ.out.turn HQ.out.2.1 t1 k1)
        have HS2 := Lib.hid (HSA.out.keep (k1.at HSA.out.lt HNE.out))
        clear t1 k1 HQ HSA HTA
        go_wp2_with fail
        refine (handles_any b x w2 HQ2.out.1 HQ2.out.2.1).mono ?_; rintro e w5 hh
        obtain ⟨v3, rfl, rc, bc⟩ := hh.rs
        obtain ⟨ao3, c3, rfl, -⟩ := id rc
        have HQ5 := Lib.hid (HQ2.out.below bc)
        have HS5 := Lib.hid (HS2.out.keep (bc.block _ HS2.out.lt))
        have RC := Lib.hid (show 0 < goN x 1 → ∃ q cap, ao3 = some ⟨q, 0, none⟩ ∧ S < q ∧ Arr w5 q 33 cap (goN x 1) (fun i => .int .u64 (hMk (goF x 1 i) ((x).gn (goF x 1 i)))) from rc.far HS2.out.lt)
        have hgn : goN x 1 ≤ 16384 := by have := slotsTo_len x 1 (x).n; have := HQ2.out.2.1.n2; unfold goN; omega
        have eN1 : (slotsTo x 1 (x).n).length = goN x 1 := rfl
        rw [eN1]
        clear eN1 hh rc bc
        by_cases hil : i < len
        · have hil1 : (i : Int) < (len : Int) := by omega
          obtain ⟨bb, off, rfl, hbb, hcells⟩ := HR.out.2 (by omega)
          have hkl : i < l.length := by rw [HR.out.1]; exact hil
          have hat := row_at fI_len (f := fI) (l := l) hcells i hkl 0 _ rfl
          simp only [Nat.mul_one, Nat.add_zero] at hat
          have e0 : w5.cell? ⟨bb, off + i, none⟩ = some (.int .i64 l[i]) := (HQ5.out.2.2.2.cell (p := ⟨bb, off + i, none⟩) hbb).trans hat
          generalize l[i] = kv at e0 hat
          clear hat hcells hbb
          by_cases hkv : kv < 0
          · by_cases hgz : goN x 1 = 0
            · have hl1 : ¬ ((0 : Int) < (goN x 1 : Int)) := by omega
              rw [hgz] at hl1 ⊢
              go_wp2_with fail
              go_roundw
              case rel => exact ⟨i + 1, gg, _, by omega, by go_num, rfl, HQ5.out, HXN.out, HXM.out, HWI.out, HS5.out, HGG.out, by omega, phi_or HQ5.out.2.1 HWI.out (by omega) hm0 (fun h => h hgz)⟩
              case measure => simp [intOf]; omega
            · obtain ⟨q, cq, rfl, hq, har⟩ := RC.out (by omega)
              obtain ⟨t, ht, hjt⟩ := mod_nat kv (goN x 1) (by omega)
              have HMJ := Lib.hid (mod_as kv (goN x 1) t (by omega) (by omega) hjt)
              have qt : w5.cell? ⟨q, t, none⟩ = some (.int .u64 (hMk (goF x 1 t) ((x).gn (goF x 1 t)))) := har.cell ht
              have ht1 : (t : Int) < (goN x 1 : Int) := by omega
              have hl1 : (0 : Int) < (goN x 1 : Int) := by omega
              obtain ⟨hlv, hgs, hgr⟩ := give_hs HQ5.out.2.1 ht
              have hfl := go_lt (x := x) ht
              have hra := hMk_le (mkOK_of HQ5.out.2.1 hfl.1)
              have hga := give_any b x _ w5 hra.1 hra.2 HQ5.out.1 HQ5.out.2.1
              rw [hgs, hgr] at hga
              have HFG := Lib.hid (giveL_inv HQ5.out.2.1 hfl.1 hfl.2)
              have HPH := Lib.hid (phi_give HQ5.out.2.1 hfl.1 hfl.2)
              have HGO := Lib.hid (gone_give hfl.1 hfl.2)
              have HWG := Lib.hid (winv_give HWI.out (s := goF x 1 t))
              have HCG := Lib.hid (fun s => cnt_give hfl.2 s)
              have HNG := Lib.hid (giveL_n x (goF x 1 t))
              have HGA := Lib.hid hga
              clear hga hgs hgr hlv hra hfl har hq
              generalize hMk (goF x 1 t) ((x).gn (goF x 1 t)) = th at *
              generalize goF x 1 t = s0 at *
              by_cases hgl : (x).gn s0 = (x).most
              · rw [decide_eq_true hgl] at HGA
                rw [if_pos hgl] at HGO
                clear hgl
                go_wp2_with fail
                refine (HMJ.out _).mono ?_; rintro e w6 ⟨rfl, rfl⟩
                go_wp2_with fail
                refine HGA.out.mono ?_; rintro e w7 ⟨rfl, t1, k1⟩
                have HQ7 := Lib.hid (HQ5.out.turn HFG.out t1 k1)
                have HS7 := Lib.hid ((HS5.out.keep (k1.at HS5.out.lt HNE.out)).congr fun s _ => congrArg encI (HCG.out s).symm)
                clear t1 k1
                go_wp2_with fail
                go_roundw
                case rel => exact ⟨i + 1, gg + 1, _, by omega, by go_num, by go_num, HQ7.out, HNG.out.1.trans HXN.out, HNG.out.2.trans HXM.out, HWG.out, HS7.out, by have := HGO.out; have := HGG.out; omega, by omega, by have := HPH.out; have := HPF.out; omega⟩
                case measure => simp [intOf]; omega
              · rw [decide_eq_false hgl] at HGA
                rw [if_neg hgl] at HGO
                clear hgl
                go_wp2_with fail
                refine (HMJ.out _).mono ?_; rintro e w6 ⟨rfl, rfl⟩
                go_wp2_with fail
                refine HGA.out.mono ?_; rintro e w7 ⟨rfl, t1, k1⟩
                have HQ7 := Lib.hid (HQ5.out.turn HFG.out t1 k1)
                have HS7 := Lib.hid ((HS5.out.keep (k1.at HS5.out.lt HNE.out)).congr fun s _ => congrArg encI (HCG.out s).symm)
                clear t1 k1
                go_wp2_with fail
                go_roundw
                case rel => exact ⟨i + 1, gg, _, by omega, by go_num, rfl, HQ7.out, HNG.out.1.trans HXN.out, HNG.out.2.trans HXM.out, HWG.out, HS7.out, by have := HGO.out; have := HGG.out; omega, by omega, by have := HPH.out; have := HPF.out; omega⟩
                case measure => simp [intOf]; omega
          · by_cases hgz : goN x 1 = 0
            · have hl1 : ¬ ((0 : Int) < (goN x 1 : Int)) := by omega
              rw [hgz] at hl1 ⊢
              go_wp2_with fail
              go_roundw
              case rel => exact ⟨i + 1, gg, _, by omega, by go_num, rfl, HQ5.out, HXN.out, HXM.out, HWI.out, HS5.out, HGG.out, by omega, phi_or HQ5.out.2.1 HWI.out (by omega) hm0 (fun h => h hgz)⟩
              case measure => simp [intOf]; omega
            · obtain ⟨q, cq, rfl, hq, har⟩ := RC.out (by omega)
              obtain ⟨t, ht, hjt⟩ := mod_nat kv (goN x 1) (by omega)
              have HMJ := Lib.hid (mod_as kv (goN x 1) t (by omega) (by omega) hjt)
              have qt : w5.cell? ⟨q, t, none⟩ = some (.int .u64 (hMk (goF x 1 t) ((x).gn (goF x 1 t)))) := har.cell ht
              have ht1 : (t : Int) < (goN x 1 : Int) := by omega
              have hl1 : (0 : Int) < (goN x 1 : Int) := by omega
              obtain ⟨hlv, hgs, hgr⟩ := give_hs HQ5.out.2.1 ht
              have hfl := go_lt (x := x) ht
              have hra := hMk_le (mkOK_of HQ5.out.2.1 hfl.1)
              have hga := give_any b x _ w5 hra.1 hra.2 HQ5.out.1 HQ5.out.2.1
              rw [hgs, hgr] at hga
              have HFG := Lib.hid (giveL_inv HQ5.out.2.1 hfl.1 hfl.2)
              have HPH := Lib.hid (phi_give HQ5.out.2.1 hfl.1 hfl.2)
              have HGO := Lib.hid (gone_give hfl.1 hfl.2)
              have HWG := Lib.hid (winv_give HWI.out (s := goF x 1 t))
              have HCG := Lib.hid (fun s => cnt_give hfl.2 s)
              have HNG := Lib.hid (giveL_n x (goF x 1 t))
              have HGA := Lib.hid hga
              clear hga hgs hgr hlv hra hfl har hq
              generalize hMk (goF x 1 t) ((x).gn (goF x 1 t)) = th at *
              generalize goF x 1 t = s0 at *
              by_cases hgl : (x).gn s0 = (x).most
              · rw [decide_eq_true hgl] at HGA
                rw [if_pos hgl] at HGO
                clear hgl
                go_wp2_with fail
                refine (HMJ.out _).mono ?_; rintro e w6 ⟨rfl, rfl⟩
                go_wp2_with fail
                refine HGA.out.mono ?_; rintro e w7 ⟨rfl, t1, k1⟩
                have HQ7 := Lib.hid (HQ5.out.turn HFG.out t1 k1)
                have HS7 := Lib.hid ((HS5.out.keep (k1.at HS5.out.lt HNE.out)).congr fun s _ => congrArg encI (HCG.out s).symm)
                clear t1 k1
                go_wp2_with fail
                go_roundw
                case rel => exact ⟨i + 1, gg + 1, _, by omega, by go_num, by go_num, HQ7.out, HNG.out.1.trans HXN.out, HNG.out.2.trans HXM.out, HWG.out, HS7.out, by have := HGO.out; have := HGG.out; omega, by omega, by have := HPH.out; have := HPF.out; omega⟩
                case measure => simp [intOf]; omega
              · rw [decide_eq_false hgl] at HGA
                rw [if_neg hgl] at HGO
                clear hgl
                go_wp2_with fail
                refine (HMJ.out _).mono ?_; rintro e w6 ⟨rfl, rfl⟩
                go_wp2_with fail
                refine HGA.out.mono ?_; rintro e w7 ⟨rfl, t1, k1⟩
                have HQ7 := Lib.hid (HQ5.out.turn HFG.out t1 k1)
                have HS7 := Lib.hid ((HS5.out.keep (k1.at HS5.out.lt HNE.out)).congr fun s _ => congrArg encI (HCG.out s).symm)
                clear t1 k1
                go_wp2_with fail
                go_roundw
                case rel => exact ⟨i + 1, gg, _, by omega, by go_num, rfl, HQ7.out, HNG.out.1.trans HXN.out, HNG.out.2.trans HXM.out, HWG.out, HS7.out, by have := HGO.out; have := HGG.out; omega, by omega, by have := HPH.out; have := HPF.out; omega⟩
                case measure => simp [intOf]; omega
        · have hil1 : ¬ ((i : Int) < (len : Int)) := by omega
          by_cases hgz : goN x 1 = 0
          · have hl1 : ¬ ((0 : Int) < (goN x 1 : Int)) := by omega
            rw [hgz] at hl1 ⊢
            go_wp2_with fail
            go_roundw
            case rel => exact ⟨i + 1, gg, _, by omega, by go_num, rfl, HQ5.out, HXN.out, HXM.out, HWI.out, HS5.out, HGG.out, by omega, phi_or HQ5.out.2.1 HWI.out (by omega) hm0 (fun h => h hgz)⟩
            case measure => simp [intOf]; omega
          · obtain ⟨q, cq, rfl, hq, har⟩ := RC.out (by omega)
            obtain ⟨t, ht, hjt⟩ := mod_nat (i : Int) (goN x 1) (by omega)
            have HMJ := Lib.hid (mod_as (i : Int) (goN x 1) t (by omega) (by omega) hjt)
            have qt : w5.cell? ⟨q, t, none⟩ = some (.int .u64 (hMk (goF x 1 t) ((x).gn (goF x 1 t)))) := har.cell ht
            have ht1 : (t : Int) < (goN x 1 : Int) := by omega
            have hl1 : (0 : Int) < (goN x 1 : Int) := by omega
            obtain ⟨hlv, hgs, hgr⟩ := give_hs HQ5.out.2.1 ht
            have hfl := go_lt (x := x) ht
            have hra := hMk_le (mkOK_of HQ5.out.2.1 hfl.1)
            have hga := give_any b x _ w5 hra.1 hra.2 HQ5.out.1 HQ5.out.2.1
            rw [hgs, hgr] at hga
            have HFG := Lib.hid (giveL_inv HQ5.out.2.1 hfl.1 hfl.2)
            have HPH := Lib.hid (phi_give HQ5.out.2.1 hfl.1 hfl.2)
            have HGO := Lib.hid (gone_give hfl.1 hfl.2)
            have HWG := Lib.hid (winv_give HWI.out (s := goF x 1 t))
            have HCG := Lib.hid (fun s => cnt_give hfl.2 s)
            have HNG := Lib.hid (giveL_n x (goF x 1 t))
            have HGA := Lib.hid hga
            clear hga hgs hgr hlv hra hfl har hq
            generalize hMk (goF x 1 t) ((x).gn (goF x 1 t)) = th at *
            generalize goF x 1 t = s0 at *
            by_cases hgl : (x).gn s0 = (x).most
            · rw [decide_eq_true hgl] at HGA
              rw [if_pos hgl] at HGO
              clear hgl
              go_wp2_with fail
              refine (HMJ.out _).mono ?_; rintro e w6 ⟨rfl, rfl⟩
              go_wp2_with fail
              refine HGA.out.mono ?_; rintro e w7 ⟨rfl, t1, k1⟩
              have HQ7 := Lib.hid (HQ5.out.turn HFG.out t1 k1)
              have HS7 := Lib.hid ((HS5.out.keep (k1.at HS5.out.lt HNE.out)).congr fun s _ => congrArg encI (HCG.out s).symm)
              clear t1 k1
              go_wp2_with fail
              go_roundw
              case rel => exact ⟨i + 1, gg + 1, _, by omega, by go_num, by go_num, HQ7.out, HNG.out.1.trans HXN.out, HNG.out.2.trans HXM.out, HWG.out, HS7.out, by have := HGO.out; have := HGG.out; omega, by omega, by have := HPH.out; have := HPF.out; omega⟩
              case measure => simp [intOf]; omega
            · rw [decide_eq_false hgl] at HGA
              rw [if_neg hgl] at HGO
              clear hgl
              go_wp2_with fail
              refine (HMJ.out _).mono ?_; rintro e w6 ⟨rfl, rfl⟩
              go_wp2_with fail
              refine HGA.out.mono ?_; rintro e w7 ⟨rfl, t1, k1⟩
              have HQ7 := Lib.hid (HQ5.out.turn HFG.out t1 k1)
              have HS7 := Lib.hid ((HS5.out.keep (k1.at HS5.out.lt HNE.out)).congr fun s _ => congrArg encI (HCG.out s).symm)
              clear t1 k1
              go_wp2_with fail
              go_roundw
              case rel => exact ⟨i + 1, gg, _, by omega, by go_num, rfl, HQ7.out, HNG.out.1.trans HXN.out, HNG.out.2.trans HXM.out, HWG.out, HS7.out, by have := HGO.out; have := HGG.out; omega, by omega, by have := HPH.out; have := HPF.out; omega⟩
              case measure => simp [intOf]; omega
      · have HFT := Lib.hid (takeL_inv HQ.out.2.1 (Nat.pos_of_ne_zero hm0))
        have hl1 := top_lt HQ.out.2.1 hm0
        have HPT := Lib.hid (show 2 * phi (takeL x) + 2 * (i + 1) ≤ T ∨ phi (takeL x) = 0 by have := phi_take HQ.out.2.1 hm0; have := HPF.out; omega)
        have HGT := Lib.hid (HGG.out.trans (gone_take HQ.out.2.1 hm0).symm)
        have HCT := Lib.hid (fun s => cnt_take HQ.out.2.1 hm0 s)
        have HWT := Lib.hid (winv_take HWI.out)
        have HSL := Lib.hid (fun w => hSlot_mk (topS x) (x.gn (topS x)) w hth)
        have c1 : wr.cell? ⟨S, topS x, none⟩ = some (.int .i64 (cntS x (topS x))) := HSA.out.cell (by rw [← HXN.out]; exact hl1.1)
        have f1 := HSA.out.free (topS x)
        have hcb : cntS x (topS x) ≤ 4294967295 := by
          have := HQ.out.2.1.gn _ hl1.1
          have := HQ.out.2.1.g2
          unfold cntS
          split <;> omega
        have hs1 : ((topS x : Nat) : Int) < 1 + (a : Int) := by have := hl1.1; rw [HXN.out] at this; omega
        have hs2 : topS x < a + 1 := by have := hl1.1; rw [HXN.out] at this; exact this
        rw [htr, hts] at hta
        have HTA := Lib.hid hta
        clear hta hm0 htr hts hth hl1
        unfold topS at *
        generalize hMk (x.sk (x.m - 1)) (x.gn (x.sk (x.m - 1))) = th at *
        generalize x.sk (x.m - 1) = s0 at *
        generalize hcc : cntS x s0 = cc at *
        have HCC := Lib.hid hcc
        clear hcc
        go_wp2_with fail
        refine HTA.out.mono ?_; rintro e w2 ⟨rfl, t1, k1⟩
        have HQ2 := Lib.hid (HQ.out.turn HFT.out t1 k1)
        have HS2 := Lib.hid (HSA.out.keep (k1.at HSA.out.lt HNE.out))
        have c2 : w2.cell? ⟨S, s0, none⟩ = some (.int .i64 cc) := by have := HS2.out.cell hs2; rw [this]; exact congrArg (fun z => some (encI z)) HCC.out
        have f2 := HS2.out.free s0
        clear t1 k1 c1 f1
        go_wp2_with fail
        refine (HSL.out _).mono ?_; rintro e w3 ⟨rfl, rfl⟩
        have HS3 := Lib.hid (show Arr (w2.setCell ⟨S, s0, none⟩ (.int .i64 ((cc : Int) + 1))) S 3 (a + 1) (a + 1) (fun s => encI (cntS (takeL x) s)) from (HS2.out.set hs2 (.int .i64 ((cc : Int) + 1))).congr fun s _ => by
          rw [HCT.out s]
          by_cases e : s = s0
          · rw [if_pos e, if_pos e, e, HCC.out]
            unfold encI
            congr 1
          · rw [if_neg e, if_neg e])
        have HQ3 := Lib.hid (show Solo w (w2.setCell ⟨S, s0, none⟩ (.int .i64 ((cc : Int) + 1))) b (takeL x) from ⟨Only.isL HQ2.out.1 ((Only.refl S w2).set s0 _) HLT.out, HFT.out, HQ2.out.2.2.1, HQ2.out.2.2.2.setCell HWS.out _⟩)
        clear HQ HSA HTA HQ2 HS2
        go_wp2_with fail
        generalize w2.setCell ⟨S, s0, none⟩ (.int .i64 ((cc : Int) + 1)) = w4 at *
        go_wp2_with fail
        refine (handles_any b (takeL x) w4 HQ3.out.1 HQ3.out.2.1).mono ?_; rintro e w5 hh
        obtain ⟨v3, rfl, rc, bc⟩ := hh.rs
        obtain ⟨ao3, c3, rfl, -⟩ := id rc
        have HQ5 := Lib.hid (HQ3.out.below bc)
        have HS5 := Lib.hid (HS3.out.keep (bc.block _ HS3.out.lt))
        have RC := Lib.hid (show 0 < goN (takeL x) 1 → ∃ q cap, ao3 = some ⟨q, 0, none⟩ ∧ S < q ∧ Arr w5 q 33 cap (goN (takeL x) 1) (fun i => .int .u64 (hMk (goF (takeL x) 1 i) (((takeL x)).gn (goF (takeL x) 1 i)))) from rc.far HS3.out.lt)
        have hgn : goN (takeL x) 1 ≤ 16384 := by have := slotsTo_len (takeL x) 1 ((takeL x)).n; have := HQ3.out.2.1.n2; unfold goN; omega
        have eN1 : (slotsTo (takeL x) 1 ((takeL x)).n).length = goN (takeL x) 1 := rfl
        rw [eN1]
        clear eN1 hh rc bc
        by_cases hil : i < len
        · have hil1 : (i : Int) < (len : Int) := by omega
          obtain ⟨bb, off, rfl, hbb, hcells⟩ := HR.out.2 (by omega)
          have hkl : i < l.length := by rw [HR.out.1]; exact hil
          have hat := row_at fI_len (f := fI) (l := l) hcells i hkl 0 _ rfl
          simp only [Nat.mul_one, Nat.add_zero] at hat
          have e0 : w5.cell? ⟨bb, off + i, none⟩ = some (.int .i64 l[i]) := (HQ5.out.2.2.2.cell (p := ⟨bb, off + i, none⟩) hbb).trans hat
          generalize l[i] = kv at e0 hat
          clear hat hcells hbb
          by_cases hkv : kv < 0
          · go_wp2_with fail
            go_roundw
            case rel => exact ⟨i + 1, gg, _, by omega, by go_num, rfl, HQ5.out, HXN.out, HXM.out, HWT.out, HS5.out, HGT.out, by omega, by have := HPT.out; omega⟩
            case measure => simp [intOf]; omega
          · by_cases hgz : goN (takeL x) 1 = 0
            · have hl1 : ¬ ((0 : Int) < (goN (takeL x) 1 : Int)) := by omega
              rw [hgz] at hl1 ⊢
              go_wp2_with fail
              go_roundw
              case rel => exact ⟨i + 1, gg, _, by omega, by go_num, rfl, HQ5.out, HXN.out, HXM.out, HWT.out, HS5.out, HGT.out, by omega, by have := HPT.out; omega⟩
              case measure => simp [intOf]; omega
            · obtain ⟨q, cq, rfl, hq, har⟩ := RC.out (by omega)
              obtain ⟨t, ht, hjt⟩ := mod_nat kv (goN (takeL x) 1) (by omega)
              have HMJ := Lib.hid (mod_as kv (goN (takeL x) 1) t (by omega) (by omega) hjt)
              have qt : w5.cell? ⟨q, t, none⟩ = some (.int .u64 (hMk (goF (takeL x) 1 t) (((takeL x)).gn (goF (takeL x) 1 t)))) := har.cell ht
              have ht1 : (t : Int) < (goN (takeL x) 1 : Int) := by omega
              have hl1 : (0 : Int) < (goN (takeL x) 1 : Int) := by omega
              obtain ⟨hlv, hgs, hgr⟩ := give_hs HQ5.out.2.1 ht
              have hfl := go_lt (x := (takeL x)) ht
              have hra := hMk_le (mkOK_of HQ5.out.2.1 hfl.1)
              have hga := give_any b (takeL x) _ w5 hra.1 hra.2 HQ5.out.1 HQ5.out.2.1
              rw [hgs, hgr] at hga
              have HFG := Lib.hid (giveL_inv HQ5.out.2.1 hfl.1 hfl.2)
              have HPH := Lib.hid (phi_give HQ5.out.2.1 hfl.1 hfl.2)
              have HGO := Lib.hid (gone_give hfl.1 hfl.2)
              have HWG := Lib.hid (winv_give HWT.out (s := goF (takeL x) 1 t))
              have HCG := Lib.hid (fun s => cnt_give hfl.2 s)
              have HNG := Lib.hid (giveL_n (takeL x) (goF (takeL x) 1 t))
              have HGA := Lib.hid hga
              clear hga hgs hgr hlv hra hfl har hq
              generalize hMk (goF (takeL x) 1 t) (((takeL x)).gn (goF (takeL x) 1 t)) = th at *
              generalize goF (takeL x) 1 t = s0 at *
              by_cases hgl : ((takeL x)).gn s0 = ((takeL x)).most
              · rw [decide_eq_true hgl] at HGA
                rw [if_pos hgl] at HGO
                clear hgl
                go_wp2_with fail
                refine (HMJ.out _).mono ?_; rintro e w6 ⟨rfl, rfl⟩
                go_wp2_with fail
                refine HGA.out.mono ?_; rintro e w7 ⟨rfl, t1, k1⟩
                have HQ7 := Lib.hid (HQ5.out.turn HFG.out t1 k1)
                have HS7 := Lib.hid ((HS5.out.keep (k1.at HS5.out.lt HNE.out)).congr fun s _ => congrArg encI (HCG.out s).symm)
                clear t1 k1
                go_wp2_with fail
                go_roundw
                case rel => exact ⟨i + 1, gg + 1, _, by omega, by go_num, by go_num, HQ7.out, HNG.out.1.trans HXN.out, HNG.out.2.trans HXM.out, HWG.out, HS7.out, by have := HGO.out; have := HGT.out; omega, by omega, by have := HPH.out; have := HPT.out; omega⟩
                case measure => simp [intOf]; omega
              · rw [decide_eq_false hgl] at HGA
                rw [if_neg hgl] at HGO
                clear hgl
                go_wp2_with fail
                refine (HMJ.out _).mono ?_; rintro e w6 ⟨rfl, rfl⟩
                go_wp2_with fail
                refine HGA.out.mono ?_; rintro e w7 ⟨rfl, t1, k1⟩
                have HQ7 := Lib.hid (HQ5.out.turn HFG.out t1 k1)
                have HS7 := Lib.hid ((HS5.out.keep (k1.at HS5.out.lt HNE.out)).congr fun s _ => congrArg encI (HCG.out s).symm)
                clear t1 k1
                go_wp2_with fail
                go_roundw
                case rel => exact ⟨i + 1, gg, _, by omega, by go_num, rfl, HQ7.out, HNG.out.1.trans HXN.out, HNG.out.2.trans HXM.out, HWG.out, HS7.out, by have := HGO.out; have := HGT.out; omega, by omega, by have := HPH.out; have := HPT.out; omega⟩
                case measure => simp [intOf]; omega
        · have hil1 : ¬ ((i : Int) < (len : Int)) := by omega
          by_cases hgz : goN (takeL x) 1 = 0
          · have hl1 : ¬ ((0 : Int) < (goN (takeL x) 1 : Int)) := by omega
            rw [hgz] at hl1 ⊢
            go_wp2_with fail
            go_roundw
            case rel => exact ⟨i + 1, gg, _, by omega, by go_num, rfl, HQ5.out, HXN.out, HXM.out, HWT.out, HS5.out, HGT.out, by omega, by have := HPT.out; omega⟩
            case measure => simp [intOf]; omega
          · obtain ⟨q, cq, rfl, hq, har⟩ := RC.out (by omega)
            obtain ⟨t, ht, hjt⟩ := mod_nat (i : Int) (goN (takeL x) 1) (by omega)
            have HMJ := Lib.hid (mod_as (i : Int) (goN (takeL x) 1) t (by omega) (by omega) hjt)
            have qt : w5.cell? ⟨q, t, none⟩ = some (.int .u64 (hMk (goF (takeL x) 1 t) (((takeL x)).gn (goF (takeL x) 1 t)))) := har.cell ht
            have ht1 : (t : Int) < (goN (takeL x) 1 : Int) := by omega
            have hl1 : (0 : Int) < (goN (takeL x) 1 : Int) := by omega
            obtain ⟨hlv, hgs, hgr⟩ := give_hs HQ5.out.2.1 ht
            have hfl := go_lt (x := (takeL x)) ht
            have hra := hMk_le (mkOK_of HQ5.out.2.1 hfl.1)
            have hga := give_any b (takeL x) _ w5 hra.1 hra.2 HQ5.out.1 HQ5.out.2.1
            rw [hgs, hgr] at hga
            have HFG := Lib.hid (giveL_inv HQ5.out.2.1 hfl.1 hfl.2)
            have HPH := Lib.hid (phi_give HQ5.out.2.1 hfl.1 hfl.2)
            have HGO := Lib.hid (gone_give hfl.1 hfl.2)
            have HWG := Lib.hid (winv_give HWT.out (s := goF (takeL x) 1 t))
            have HCG := Lib.hid (fun s => cnt_give hfl.2 s)
            have HNG := Lib.hid (giveL_n (takeL x) (goF (takeL x) 1 t))
            have HGA := Lib.hid hga
            clear hga hgs hgr hlv hra hfl har hq
            generalize hMk (goF (takeL x) 1 t) (((takeL x)).gn (goF (takeL x) 1 t)) = th at *
            generalize goF (takeL x) 1 t = s0 at *
            by_cases hgl : ((takeL x)).gn s0 = ((takeL x)).most
            · rw [decide_eq_true hgl] at HGA
              rw [if_pos hgl] at HGO
              clear hgl
              go_wp2_with fail
              refine (HMJ.out _).mono ?_; rintro e w6 ⟨rfl, rfl⟩
              go_wp2_with fail
              refine HGA.out.mono ?_; rintro e w7 ⟨rfl, t1, k1⟩
              have HQ7 := Lib.hid (HQ5.out.turn HFG.out t1 k1)
              have HS7 := Lib.hid ((HS5.out.keep (k1.at HS5.out.lt HNE.out)).congr fun s _ => congrArg encI (HCG.out s).symm)
              clear t1 k1
              go_wp2_with fail
              go_roundw
              case rel => exact ⟨i + 1, gg + 1, _, by omega, by go_num, by go_num, HQ7.out, HNG.out.1.trans HXN.out, HNG.out.2.trans HXM.out, HWG.out, HS7.out, by have := HGO.out; have := HGT.out; omega, by omega, by have := HPH.out; have := HPT.out; omega⟩
              case measure => simp [intOf]; omega
            · rw [decide_eq_false hgl] at HGA
              rw [if_neg hgl] at HGO
              clear hgl
              go_wp2_with fail
              refine (HMJ.out _).mono ?_; rintro e w6 ⟨rfl, rfl⟩
              go_wp2_with fail
              refine HGA.out.mono ?_; rintro e w7 ⟨rfl, t1, k1⟩
              have HQ7 := Lib.hid (HQ5.out.turn HFG.out t1 k1)
              have HS7 := Lib.hid ((HS5.out.keep (k1.at HS5.out.lt HNE.out)).congr fun s _ => congrArg encI (HCG.out s).symm)
              clear t1 k1
              go_wp2_with fail
              go_roundw
              case rel => exact ⟨i + 1, gg, _, by omega, by go_num, rfl, HQ7.out, HNG.out.1.trans HXN.out, HNG.out.2.trans HXM.out, HWG.out, HS7.out, by have := HGO.out; have := HGT.out; omega, by omega, by have := HPH.out; have := HPT.out; omega⟩
              case measure => simp [intOf]; omega
    · have hi1 : ¬ ((i : Int) < (T : Int)) := by omega
      have hph : phi x = 0 := by have := HPF.out; omega
      obtain ⟨e1, e2, e3, e4⟩ := phi_end HQ.out.2.1 hph
      have hge : ((gg : Int) == 1 + (a : Int)) = true := by have := HGG.out; have := HXN.out; simp; omega
      have hgo : ((goN x 2 : Int) == 1 + (a : Int)) = true := by have := HXN.out; simp; omega
      have HCE := Lib.hid (show ∀ k, k < a + 1 → wr.cell? ⟨S, k, none⟩ = some (.int .i64 (1 + (c : Int))) from fun k hk => by
        have h1 := e1 k (by rw [HXN.out]; exact hk)
        have h2 := HSA.out.cell hk
        rw [h2]
        unfold encI cntS
        rw [h1.1, if_neg (by decide), h1.2, HXM.out]
        congr 2
        omega)
      have HG2 := Lib.hid (show goN x 2 ≤ 16384 by have := HQ.out.2.1.n2; omega)
      clear e1 e3 e4 hph HPF HSA
      go_wp2_with fail
      go_loop [22] (fun iv => ∃ k : Nat, k ≤ a + 1 ∧ iv = .int .i64 k) (fun iv => a + 1 - (intOf iv).toNat)
      case atStart => exact ⟨0, Nat.zero_le _, rfl⟩
      case round =>
        obtain ⟨k, hk, rfl⟩ := hrel
        by_cases hlt2 : k < a + 1
        · have c1 := HCE.out k hlt2
          have hk1 : (k : Int) < 1 + (a : Int) := by omega
          have hk2 : (k : Int) < ((a + 1 : Nat) : Int) := by omega
          go_wp2_with fail
          go_round
          case rel => exact ⟨k + 1, by omega, by go_num⟩
          case measure => simp [intOf]; omega
        · have hk1 : ¬ ((k : Int) < 1 + (a : Int)) := by omega
          go_wp2_with fail
          refine (free_solo HQ.out).mono ?_; rintro e w3 ⟨v1, rfl, ra, ba⟩
          obtain ⟨ao1, c1, rfl, -⟩ := id ra
          rw [e2]
          have HQ3 := Lib.hid (HQ.out.below ba)
          clear ra ba
          go_wp2_with fail
          refine (withdrawn_any b x w3 HQ3.out.1 HQ3.out.2.1.n2).mono ?_; rintro e w4 hh
          obtain ⟨v2, rfl, rb, bb⟩ := hh.rs
          obtain ⟨ao2, c2, rfl, -⟩ := id rb
          have eN2 : (slotsTo x 2 x.n).length = goN x 2 := rfl
          rw [eN2]
          have HQ4 := Lib.hid (HQ3.out.below bb)
          clear hh rb bb eN2
          go_wp2_with fail
          refine (awake_any _).mono ?_; rintro e w6 ⟨rfl, hb⟩
          have HB2 := Lib.hid (HQ4.out.below hb).2.2.2
          clear hb
          go_wp2_with fail
          go_ret
          exact ⟨rfl, HB2.out⟩
end Go.Proofs.YtpcpjmgkdbgopaaDoor
