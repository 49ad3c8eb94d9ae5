/- The freelist: the law FreelistPlays. -/
import Derived.Test.YtpcpjmgkdbgopaaDoorGb
namespace Go.Proofs.YtpcpjmgkdbgopaaDoor
open Go.RowKit

theorem take_cases (x : FL) (h : FInv x) : takeR x = (0, 6) ∨ ∃ th, takeR x = (th, 0) ∧ 0 ≤ th ∧ th ≤ 18446744073709551615 := by
  have hr := takeR_range h
  unfold takeR at *
  split
  · exact .inl rfl
  · rename_i hm
    rw [if_neg hm] at hr
    exact .inr ⟨_, rfl, hr⟩
theorem own_typ_ne {w : World} {B : Nat} {t t' : TypeId} {v : Value} {n : Nat} {l : List Value} (h : w.ownsRow B t 1 v n l) {q : Nat} {c : Array Value} (hq : w.heap[q]? = some (.cells c t' (0, 0))) (ht : t ≠ t') : some q ≠ v.ownBlock := fun e => by
  obtain ⟨cur, hc⟩ := own_typ h e.symm
  rw [hq] at hc
  injection hc with hc
  injection hc with _ hc
  exact ht hc.symm
theorem inU_at {l : List Int} (h : InU l) {t : Nat} (ht : t < l.length) : 0 ≤ l.getD t 0 ∧ l.getD t 0 ≤ 18446744073709551615 := by
  refine h _ ?_
  rw [List.getD_eq_getElem?_getD, List.getElem?_eq_getElem ht]
  exact List.getElem_mem ht
theorem cell_alloc {w : World} {p : Addr} {v : Value} (h : w.cell? p = some v) (o : Obj) : (w.alloc o).cell? p = some v := by
  have hlt : p.block < w.heap.size := by
    rcases Nat.lt_or_ge p.block w.heap.size with h' | h'
    · exact h'
    · simp [World.cell?, Array.getElem?_eq_none h'] at h
  exact (((Below.refl w.heap.size w).alloc (Nat.le_refl _) o).cell (p := p) hlt).trans h

set_option maxRecDepth 100000 in
set_option maxHeartbeats 8000000 in
theorem plays_any (n g : Int) (ao : Option Addr) (len cap : Nat) (l : List Dd) (w : World) (hr : IsR ddF w ao len l) (hu : ∀ d ∈ l, 0 ≤ d.h ∧ d.h ≤ 18446744073709551615) (hlen : len ≤ 9223372036854775807) :
    Calls Tryd.prog 3 #[.int .i64 n, .int .i64 g, .slice ao len cap] w fun e w' => e = .returned (.bool true) ∧ Below w.heap.size w w' := by
  obtain ⟨i0, hi, hz0, hz1, hz2⟩ := info_parts infoH
  obtain ⟨a, ha, hna⟩ := mod_nat n 8 (by decide)
  obtain ⟨c, hc, hgc⟩ := mod_nat g 4 (by decide)
  have M8 := Lib.hid (mod_as n 8 a (by decide) (by decide) hna)
  have M4 := Lib.hid (mod_as g 4 c (by decide) (by decide) hgc)
  have NL := Lib.hid (new_at a c ha hc)
  have NY := Lib.hid (refNew_at a c ha hc)
  have HR := Lib.hid hr
  have HU := Lib.hid hu
  have ha1 : (a : Int) < 8 := by omega
  have hc1 : (c : Int) < 4 := by omega
  clear hna hgc hr hu
  go_enter Tryd.func3, Tryd.ntmps3
  go_wp2_with fail
  refine (M8.out _).mono ?_; rintro e w1 ⟨rfl, rfl⟩
  go_wp2_with fail
  refine (M4.out _).mono ?_; rintro e w1 ⟨rfl, rfl⟩
  go_wp2_with fail
  refine (NL.out _).mono ?_; rintro e w1 hh
  obtain ⟨b, rfl, hl, hb, hge⟩ := hh
  have HL := Lib.hid hl
  have HB := Lib.hid hb
  have HG := Lib.hid (show b.ge w.heap.size from hge)
  clear hl hb hge
  go_wp2_with fail
  refine (M8.out _).mono ?_; rintro e w2 ⟨rfl, rfl⟩
  go_wp2_with fail
  refine (M4.out _).mono ?_; rintro e w2 ⟨rfl, rfl⟩
  go_wp2_with fail
  refine (NY.out _).mono ?_; rintro e w2 hh
  obtain ⟨y, rfl, hy, hc, d1, d2, d3, d4, hm⟩ := hh
  have HP := Lib.hid (Pair.of_new (by omega) (by omega) (by omega) (by omega) HL.out HB.out HG.out hy hc ⟨d1, d2, d3, d4⟩ hm)
  clear hy hc d1 d2 d3 d4 hm HL HB HG
  go_wp2_with fail
  go_loopw [11, 12] (fun v i wr => ∃ (k : Nat) (x : FL) (hs : List Int), k ≤ len ∧ k ≤ 60 ∧ i = .int .i64 k ∧ Pair w wr b y x ∧ All wr w.heap.size v hs ∧ InU hs ∧ hs.length ≤ k) (fun _ i _ => len - (intOf i).toNat)
  case atStart => exact ⟨0, _, [], Nat.zero_le _, Nat.zero_le _, rfl, HP.out, All.nil _ _, (fun _ h => nomatch h), Nat.le_refl _⟩
  case round =>
    obtain ⟨k, x, hs, hk, hk60, rfl, hp, hall, hin, hsl⟩ := hrel
    have HQ := Lib.hid hp
    have HALL := Lib.hid hall
    have HIN := Lib.hid hin
    clear hp hall hin HP NL NY M8 M4
    by_cases hlt : k < len
    · by_cases hlt60 : k < 60
      · obtain ⟨bb, off, rfl, hbb, hcells⟩ := HR.out.2 (by omega)
        have hkl : k < l.length := by rw [HR.out.1]; exact hlt
        have hat := row_at ddF_len (f := ddF) (l := l) hcells k hkl
        have hud := HU.out l[k] (List.getElem_mem hkl)
        generalize l[k] = d at hat hud
        have bbel := HQ.out.2.2.2.2.2.2.2
        have e0 : wr.cell? ⟨bb, off + k * 3, none⟩ = some (.int .i64 d.k) := (bbel.cell (p := ⟨bb, off + k * 3, none⟩) hbb).trans (hat 0 _ rfl)
        have e1 : wr.cell? ⟨bb, off + k * 3 + 1, none⟩ = some (.int .i64 d.j) := (bbel.cell (p := ⟨bb, off + k * 3 + 1, none⟩) hbb).trans (hat 1 _ rfl)
        have e2 : wr.cell? ⟨bb, off + k * 3 + 2, none⟩ = some (.int .u64 d.h) := (bbel.cell (p := ⟨bb, off + k * 3 + 2, none⟩) hbb).trans (hat 2 _ rfl)
        have hk1 : (k : Int) < (len : Int) := by omega
        have hk2 : (k : Int) < 60 := by omega
        clear hat hcells bbel hbb
        obtain ⟨r, hr4, hmr⟩ := mod_nat d.k 4 (by decide)
        have HMR := Lib.hid (mod_as d.k 4 r (by decide) (by decide) hmr)
        clear hmr
        have HQ0 := Lib.hid (HQ.out.below ((Below.refl _ _).alloc (Nat.le_refl _) (.cells #[.int .i64 d.k, .int .i64 d.j, .int .u64 d.h] 35)))
        have HA0 := Lib.hid (show All (wr.alloc (.cells #[.int .i64 d.k, .int .i64 d.j, .int .u64 d.h] 35)) w.heap.size u11 hs from HALL.out.alloc (.cells #[.int .i64 d.k, .int .i64 d.j, .int .u64 d.h] 35))
        have HL0 := Lib.hid (block_new wr (.cells #[.int .i64 d.k, .int .i64 d.j, .int .u64 d.h] 35))
        have NEB := Lib.hid HQ.out.1.new
        have NEY := Lib.hid HQ.out.2.1.new
        have hcase : r = 0 ∨ r = 1 ∨ r = 2 ∨ r = 3 := by omega
        clear hr4
        rcases hcase with rfl | rfl | rfl | rfl
        · go_wp2_with fail
          refine (HMR.out _).mono ?_; rintro e w1 ⟨rfl, rfl⟩
          rcases take_cases x HQ.out.2.2.1 with htr | ⟨th, htr, hth⟩
          · clear hud
            have hta := take_any b x (wr.alloc (.cells #[.int .i64 d.k, .int .i64 d.j, .int .u64 d.h] 35)) HQ0.out.1 HQ0.out.2.2.1
            rw [htr] at hta
            have HTA := Lib.hid hta
            have htb := fun w => refTake_any y x w (hi := HQ0.out.2.2.1)
            rw [htr] at htb
            have HTB := Lib.hid htb
            clear hta htb
            go_wp2_with fail
            refine HTA.out.mono ?_; rintro e w1 ⟨rfl, t1, k1⟩
            have T1 := Lib.hid t1
            have K1 := Lib.hid k1
            have Y1 := Lib.hid (HQ0.out.2.1.keep k1 HQ0.out.2.2.2.1)
            have A1 := Lib.hid (HA0.out.keep HQ0.out.1 k1)
            have L1 := Lib.hid ((k1.at (block_lt HL0.out) NEB.out).trans HL0.out)
            clear t1 k1 HTA
            go_wp2_with fail
            refine (HTB.out w1 Y1.out).mono ?_; rintro e w2 ⟨rfl, t2, k2⟩
            have HQ2 := Lib.hid (HQ0.out.both (takeS_inv HQ0.out.2.2.1) T1.out K1.out t2 k2)
            have A2 := Lib.hid (A1.out.keepY Y1.out k2)
            have L2 := Lib.hid ((k2.at (block_lt L1.out) NEY.out).trans L1.out)
            clear t2 k2 HTB T1 K1 Y1 A1 L1 HQ0 HA0 HL0
            have HQF := HQ2
            have HAF := A2
            have HLF := L2
            have HINF := HIN
            have HSF := Lib.hid (Nat.le_succ_of_le hsl)
            clear HQ2 A2 L2
            go_wp2_with fail
            refine (spoil_any b _ _ HQF.out.1 HQF.out.2.2.1).mono ?_; rintro e ws ⟨rfl, hb⟩
            have HLS := Lib.hid ((hb.block _ (block_lt HLF.out)).trans HLF.out)
            have HQS := Lib.hid (HQF.out.below hb)
            have HAS := Lib.hid (HAF.out.below hb)
            have qj := block_cell HLS.out 1
            simp at qj
            clear hb HQF HAF HLF
            go_wp2_with fail
            refine (same_any b y _ 0 d.j ws (show (0 : Int) ≤ 0 ∧ (0 : Int) ≤ 18446744073709551615 from ⟨by decide, by decide⟩).1 (show (0 : Int) ≤ 0 ∧ (0 : Int) ≤ 18446744073709551615 from ⟨by decide, by decide⟩).2 HQS.out.1 HQS.out.2.1 HQS.out.2.2.1).mono ?_; rintro e wt ⟨rfl, hb⟩
            have HQT := Lib.hid (HQS.out.below hb)
            have HAT := Lib.hid (HAS.out.below hb)
            clear hb HQS HAS HLS qj
            go_wp2_with fail
            go_roundw
            case rel => exact ⟨k + 1, _, _, by omega, by omega, by go_num, HQT.out, HAT.out, HINF.out, HSF.out⟩
            case measure => simp [intOf]; omega
          · have HTR := Lib.hid hth
            clear hud hth
            have hta := take_any b x (wr.alloc (.cells #[.int .i64 d.k, .int .i64 d.j, .int .u64 d.h] 35)) HQ0.out.1 HQ0.out.2.2.1
            rw [htr] at hta
            have HTA := Lib.hid hta
            have htb := fun w => refTake_any y x w (hi := HQ0.out.2.2.1)
            rw [htr] at htb
            have HTB := Lib.hid htb
            clear hta htb
            go_wp2_with fail
            refine HTA.out.mono ?_; rintro e w1 ⟨rfl, t1, k1⟩
            have T1 := Lib.hid t1
            have K1 := Lib.hid k1
            have Y1 := Lib.hid (HQ0.out.2.1.keep k1 HQ0.out.2.2.2.1)
            have A1 := Lib.hid (HA0.out.keep HQ0.out.1 k1)
            have L1 := Lib.hid ((k1.at (block_lt HL0.out) NEB.out).trans HL0.out)
            clear t1 k1 HTA
            go_wp2_with fail
            refine (HTB.out w1 Y1.out).mono ?_; rintro e w2 ⟨rfl, t2, k2⟩
            have HQ2 := Lib.hid (HQ0.out.both (takeS_inv HQ0.out.2.2.1) T1.out K1.out t2 k2)
            have A2 := Lib.hid (A1.out.keepY Y1.out k2)
            have L2 := Lib.hid ((k2.at (block_lt L1.out) NEY.out).trans L1.out)
            clear t2 k2 HTB T1 K1 Y1 A1 L1 HQ0 HA0 HL0
            have HOA : ∀ A, All (w2.alloc A) w.heap.size u11 hs := fun A => A2.out.alloc A
            have HHO := Lib.hid HOA
            have HHN := Lib.hid (cell_one_new w2 (encHd th) 33)
            have HSZ := Lib.hid HQ2.out.2.2.2.2.2.2.2.size
            clear HOA
            go_wp2_with (at_builtin; refine wpList_append_own_at _ rfl _ _ 32 rfl w.heap.size 33 i0 (.int .u64 0) 1 8 Tryd.underlying32 hi hz0 hz1 hz2 rfl (by decide) _ hs.length (hs.map encHd) rfl (HHO.out _) ⟨w2.heap.size, 0, none⟩ 1 _ [encHd th] rfl rfl HHN.out (encHd_one th) ?c3 ?c4 ?c5 ?_)
            case c3 => unfold maxLen; omega
            case c4 => omega
            case c5 => have := HSZ.out; simp; omega
            intro v' w3 hown hgrow _ hblk
            have HQF := Lib.hid (Pair.grown (HQ2.out.below ((Below.refl _ _).alloc (Nat.le_refl _) _)) (HHO.out _) hgrow)
            have HAF := Lib.hid (show All w3 w.heap.size v' (hs ++ [th]) by unfold All; rw [List.length_append, List.map_append]; exact hown)
            have HLF := Lib.hid ((hgrow.block _ (block_lt (block_alloc L2.out (.cells #[.int .u64 th] 33))) (own_typ_ne (HHO.out (.cells #[.int .u64 th] 33)) (block_alloc L2.out (.cells #[.int .u64 th] 33)) (by decide))).trans (block_alloc L2.out (.cells #[.int .u64 th] 33)))
            have HINF := Lib.hid (HIN.out.snoc HTR.out)
            have HSF := Lib.hid (show (hs ++ [th]).length ≤ k + 1 by rw [List.length_append]; exact Nat.succ_le_succ hsl)
            clear hown hgrow hblk HQ2 A2 L2 HHO HHN
            go_wp2_with fail
            refine (spoil_any b _ _ HQF.out.1 HQF.out.2.2.1).mono ?_; rintro e ws ⟨rfl, hb⟩
            have HLS := Lib.hid ((hb.block _ (block_lt HLF.out)).trans HLF.out)
            have HQS := Lib.hid (HQF.out.below hb)
            have HAS := Lib.hid (HAF.out.below hb)
            have qj := block_cell HLS.out 1
            simp at qj
            clear hb HQF HAF HLF
            go_wp2_with fail
            refine (same_any b y _ th d.j ws HTR.out.1 HTR.out.2 HQS.out.1 HQS.out.2.1 HQS.out.2.2.1).mono ?_; rintro e wt ⟨rfl, hb⟩
            have HQT := Lib.hid (HQS.out.below hb)
            have HAT := Lib.hid (HAS.out.below hb)
            clear hb HQS HAS HLS qj
            go_wp2_with fail
            go_roundw
            case rel => exact ⟨k + 1, _, _, by omega, by omega, by go_num, HQT.out, HAT.out, HINF.out, HSF.out⟩
            case measure => simp [intOf]; omega
        · go_wp2_with fail
          refine (HMR.out _).mono ?_; rintro e w1 ⟨rfl, rfl⟩
          rcases take_cases x HQ.out.2.2.1 with htr | ⟨th, htr, hth⟩
          · clear hud
            have hta := take_any b x (wr.alloc (.cells #[.int .i64 d.k, .int .i64 d.j, .int .u64 d.h] 35)) HQ0.out.1 HQ0.out.2.2.1
            rw [htr] at hta
            have HTA := Lib.hid hta
            have htb := fun w => refTake_any y x w (hi := HQ0.out.2.2.1)
            rw [htr] at htb
            have HTB := Lib.hid htb
            clear hta htb
            go_wp2_with fail
            refine HTA.out.mono ?_; rintro e w1 ⟨rfl, t1, k1⟩
            have T1 := Lib.hid t1
            have K1 := Lib.hid k1
            have Y1 := Lib.hid (HQ0.out.2.1.keep k1 HQ0.out.2.2.2.1)
            have A1 := Lib.hid (HA0.out.keep HQ0.out.1 k1)
            have L1 := Lib.hid ((k1.at (block_lt HL0.out) NEB.out).trans HL0.out)
            clear t1 k1 HTA
            go_wp2_with fail
            refine (HTB.out w1 Y1.out).mono ?_; rintro e w2 ⟨rfl, t2, k2⟩
            have HQ2 := Lib.hid (HQ0.out.both (takeS_inv HQ0.out.2.2.1) T1.out K1.out t2 k2)
            have A2 := Lib.hid (A1.out.keepY Y1.out k2)
            have L2 := Lib.hid ((k2.at (block_lt L1.out) NEY.out).trans L1.out)
            clear t2 k2 HTB T1 K1 Y1 A1 L1 HQ0 HA0 HL0
            have HQF := HQ2
            have HAF := A2
            have HLF := L2
            have HINF := HIN
            have HSF := Lib.hid (Nat.le_succ_of_le hsl)
            clear HQ2 A2 L2
            go_wp2_with fail
            refine (spoil_any b _ _ HQF.out.1 HQF.out.2.2.1).mono ?_; rintro e ws ⟨rfl, hb⟩
            have HLS := Lib.hid ((hb.block _ (block_lt HLF.out)).trans HLF.out)
            have HQS := Lib.hid (HQF.out.below hb)
            have HAS := Lib.hid (HAF.out.below hb)
            have qj := block_cell HLS.out 1
            simp at qj
            clear hb HQF HAF HLF
            go_wp2_with fail
            refine (same_any b y _ 0 d.j ws (show (0 : Int) ≤ 0 ∧ (0 : Int) ≤ 18446744073709551615 from ⟨by decide, by decide⟩).1 (show (0 : Int) ≤ 0 ∧ (0 : Int) ≤ 18446744073709551615 from ⟨by decide, by decide⟩).2 HQS.out.1 HQS.out.2.1 HQS.out.2.2.1).mono ?_; rintro e wt ⟨rfl, hb⟩
            have HQT := Lib.hid (HQS.out.below hb)
            have HAT := Lib.hid (HAS.out.below hb)
            clear hb HQS HAS HLS qj
            go_wp2_with fail
            go_roundw
            case rel => exact ⟨k + 1, _, _, by omega, by omega, by go_num, HQT.out, HAT.out, HINF.out, HSF.out⟩
            case measure => simp [intOf]; omega
          · have HTR := Lib.hid hth
            clear hud hth
            have hta := take_any b x (wr.alloc (.cells #[.int .i64 d.k, .int .i64 d.j, .int .u64 d.h] 35)) HQ0.out.1 HQ0.out.2.2.1
            rw [htr] at hta
            have HTA := Lib.hid hta
            have htb := fun w => refTake_any y x w (hi := HQ0.out.2.2.1)
            rw [htr] at htb
            have HTB := Lib.hid htb
            clear hta htb
            go_wp2_with fail
            refine HTA.out.mono ?_; rintro e w1 ⟨rfl, t1, k1⟩
            have T1 := Lib.hid t1
            have K1 := Lib.hid k1
            have Y1 := Lib.hid (HQ0.out.2.1.keep k1 HQ0.out.2.2.2.1)
            have A1 := Lib.hid (HA0.out.keep HQ0.out.1 k1)
            have L1 := Lib.hid ((k1.at (block_lt HL0.out) NEB.out).trans HL0.out)
            clear t1 k1 HTA
            go_wp2_with fail
            refine (HTB.out w1 Y1.out).mono ?_; rintro e w2 ⟨rfl, t2, k2⟩
            have HQ2 := Lib.hid (HQ0.out.both (takeS_inv HQ0.out.2.2.1) T1.out K1.out t2 k2)
            have A2 := Lib.hid (A1.out.keepY Y1.out k2)
            have L2 := Lib.hid ((k2.at (block_lt L1.out) NEY.out).trans L1.out)
            clear t2 k2 HTB T1 K1 Y1 A1 L1 HQ0 HA0 HL0
            have HOA : ∀ A, All (w2.alloc A) w.heap.size u11 hs := fun A => A2.out.alloc A
            have HHO := Lib.hid HOA
            have HHN := Lib.hid (cell_one_new w2 (encHd th) 33)
            have HSZ := Lib.hid HQ2.out.2.2.2.2.2.2.2.size
            clear HOA
            go_wp2_with (at_builtin; refine wpList_append_own_at _ rfl _ _ 32 rfl w.heap.size 33 i0 (.int .u64 0) 1 8 Tryd.underlying32 hi hz0 hz1 hz2 rfl (by decide) _ hs.length (hs.map encHd) rfl (HHO.out _) ⟨w2.heap.size, 0, none⟩ 1 _ [encHd th] rfl rfl HHN.out (encHd_one th) ?c3 ?c4 ?c5 ?_)
            case c3 => unfold maxLen; omega
            case c4 => omega
            case c5 => have := HSZ.out; simp; omega
            intro v' w3 hown hgrow _ hblk
            have HQF := Lib.hid (Pair.grown (HQ2.out.below ((Below.refl _ _).alloc (Nat.le_refl _) _)) (HHO.out _) hgrow)
            have HAF := Lib.hid (show All w3 w.heap.size v' (hs ++ [th]) by unfold All; rw [List.length_append, List.map_append]; exact hown)
            have HLF := Lib.hid ((hgrow.block _ (block_lt (block_alloc L2.out (.cells #[.int .u64 th] 33))) (own_typ_ne (HHO.out (.cells #[.int .u64 th] 33)) (block_alloc L2.out (.cells #[.int .u64 th] 33)) (by decide))).trans (block_alloc L2.out (.cells #[.int .u64 th] 33)))
            have HINF := Lib.hid (HIN.out.snoc HTR.out)
            have HSF := Lib.hid (show (hs ++ [th]).length ≤ k + 1 by rw [List.length_append]; exact Nat.succ_le_succ hsl)
            clear hown hgrow hblk HQ2 A2 L2 HHO HHN
            go_wp2_with fail
            refine (spoil_any b _ _ HQF.out.1 HQF.out.2.2.1).mono ?_; rintro e ws ⟨rfl, hb⟩
            have HLS := Lib.hid ((hb.block _ (block_lt HLF.out)).trans HLF.out)
            have HQS := Lib.hid (HQF.out.below hb)
            have HAS := Lib.hid (HAF.out.below hb)
            have qj := block_cell HLS.out 1
            simp at qj
            clear hb HQF HAF HLF
            go_wp2_with fail
            refine (same_any b y _ th d.j ws HTR.out.1 HTR.out.2 HQS.out.1 HQS.out.2.1 HQS.out.2.2.1).mono ?_; rintro e wt ⟨rfl, hb⟩
            have HQT := Lib.hid (HQS.out.below hb)
            have HAT := Lib.hid (HAS.out.below hb)
            clear hb HQS HAS HLS qj
            go_wp2_with fail
            go_roundw
            case rel => exact ⟨k + 1, _, _, by omega, by omega, by go_num, HQT.out, HAT.out, HINF.out, HSF.out⟩
            case measure => simp [intOf]; omega
        · go_wp2_with fail
          refine (HMR.out _).mono ?_; rintro e w1 ⟨rfl, rfl⟩
          have HUD := Lib.hid hud
          clear hud
          have qj := block_cell HL0.out 1
          simp at qj
          obtain ⟨va, vc, rfl, hv⟩ := HALL.out.rs
          have HV := Lib.hid hv
          clear hv
          by_cases hs0 : hs.length = 0
          · have hs1 : ¬ ((0 : Int) < hs.length) := by omega
            rw [hs0] at hs1
            have HS0 := Lib.hid hs0
            clear hs0
            have HGA := Lib.hid (give_any b x d.h (wr.alloc (.cells #[.int .i64 d.k, .int .i64 d.j, .int .u64 d.h] 35)) HUD.out.1 HUD.out.2 HQ0.out.1 HQ0.out.2.2.1)
            have HGB := Lib.hid (fun w hl => refGive_any y x d.h w HUD.out.1 HUD.out.2 hl HQ0.out.2.2.1 HQ0.out.2.2.2.2.2.2.1)
            rw [HS0.out]
            go_wp2_with fail
            refine HGA.out.mono ?_; rintro e w1 ⟨rfl, t1, k1⟩
            have T1 := Lib.hid t1
            have K1 := Lib.hid k1
            have Y1 := Lib.hid (HQ0.out.2.1.keep k1 HQ0.out.2.2.2.1)
            have A1 := Lib.hid (HA0.out.keep HQ0.out.1 k1)
            have L1 := Lib.hid ((k1.at (block_lt HL0.out) NEB.out).trans HL0.out)
            clear t1 k1 HGA
            go_wp2_with fail
            refine (HGB.out w1 Y1.out).mono ?_; rintro e w2 ⟨rfl, t2, k2⟩
            have HQF := Lib.hid (HQ0.out.both (giveS_inv HQ0.out.2.2.1 d.h) T1.out K1.out t2 k2)
            have HAF := Lib.hid (A1.out.keepY Y1.out k2)
            have HLF := Lib.hid ((k2.at (block_lt L1.out) NEY.out).trans L1.out)
            have HINF := HIN
            have HSF := Lib.hid (Nat.le_succ_of_le hsl)
            clear t2 k2 HGB T1 K1 Y1 A1 L1 HQ0 HA0 HL0
            go_wp2_with fail
            refine (spoil_any b _ _ HQF.out.1 HQF.out.2.2.1).mono ?_; rintro e ws ⟨rfl, hb⟩
            have HLS := Lib.hid ((hb.block _ (block_lt HLF.out)).trans HLF.out)
            have HQS := Lib.hid (HQF.out.below hb)
            have HAS := Lib.hid (HAF.out.below hb)
            have qj := block_cell HLS.out 1
            simp at qj
            clear hb HQF HAF HLF
            go_wp2_with fail
            refine (same_any b y _ d.h d.j ws HUD.out.1 HUD.out.2 HQS.out.1 HQS.out.2.1 HQS.out.2.2.1).mono ?_; rintro e wt ⟨rfl, hb⟩
            have HQT := Lib.hid (HQS.out.below hb)
            have HAT := Lib.hid (HAS.out.below hb)
            clear hb HQS HAS HLS qj
            go_wp2_with fail
            go_roundw
            case rel => exact ⟨k + 1, _, _, by omega, by omega, by go_num, HQT.out, (by have := HAT.out; rwa [HS0.out] at this), HINF.out, HSF.out⟩
            case measure => simp [intOf]; omega
          · have hs1 : (0 : Int) < hs.length := by omega
            obtain ⟨t, ht, hjt⟩ := mod_nat d.j hs.length (by omega)
            have HMJ := Lib.hid (mod_as d.j hs.length t (by omega) (by omega) hjt)
            obtain ⟨vb, vo, rfl, hcell⟩ := HV.out (by omega)
            have qv : (wr.alloc (.cells #[.int .i64 d.k, .int .i64 d.j, .int .u64 d.h] 35)).cell? ⟨vb, vo + t, none⟩ = some (.int .u64 (hs.getD t 0)) := cell_alloc (hcell t ht) _
            have ht1 : (t : Int) < hs.length := by omega
            have HTR := Lib.hid (inU_at HIN.out ht)
            generalize hs.getD t 0 = th at *
            clear hcell hjt hs0
            go_wp2_with fail
            refine (HMJ.out _).mono ?_; rintro e w1 ⟨rfl, rfl⟩
            have HGA := Lib.hid (give_any b x th (wr.alloc (.cells #[.int .i64 d.k, .int .i64 d.j, .int .u64 d.h] 35)) HTR.out.1 HTR.out.2 HQ0.out.1 HQ0.out.2.2.1)
            have HGB := Lib.hid (fun w hl => refGive_any y x th w HTR.out.1 HTR.out.2 hl HQ0.out.2.2.1 HQ0.out.2.2.2.2.2.2.1)
            go_wp2_with fail
            refine HGA.out.mono ?_; rintro e w1 ⟨rfl, t1, k1⟩
            have T1 := Lib.hid t1
            have K1 := Lib.hid k1
            have Y1 := Lib.hid (HQ0.out.2.1.keep k1 HQ0.out.2.2.2.1)
            have A1 := Lib.hid (HA0.out.keep HQ0.out.1 k1)
            have L1 := Lib.hid ((k1.at (block_lt HL0.out) NEB.out).trans HL0.out)
            clear t1 k1 HGA
            go_wp2_with fail
            refine (HGB.out w1 Y1.out).mono ?_; rintro e w2 ⟨rfl, t2, k2⟩
            have HQF := Lib.hid (HQ0.out.both (giveS_inv HQ0.out.2.2.1 th) T1.out K1.out t2 k2)
            have HAF := Lib.hid (A1.out.keepY Y1.out k2)
            have HLF := Lib.hid ((k2.at (block_lt L1.out) NEY.out).trans L1.out)
            have HINF := HIN
            have HSF := Lib.hid (Nat.le_succ_of_le hsl)
            clear t2 k2 HGB T1 K1 Y1 A1 L1 HQ0 HA0 HL0
            go_wp2_with fail
            refine (spoil_any b _ _ HQF.out.1 HQF.out.2.2.1).mono ?_; rintro e ws ⟨rfl, hb⟩
            have HLS := Lib.hid ((hb.block _ (block_lt HLF.out)).trans HLF.out)
            have HQS := Lib.hid (HQF.out.below hb)
            have HAS := Lib.hid (HAF.out.below hb)
            have qj := block_cell HLS.out 1
            simp at qj
            clear hb HQF HAF HLF
            go_wp2_with fail
            refine (same_any b y _ th d.j ws HTR.out.1 HTR.out.2 HQS.out.1 HQS.out.2.1 HQS.out.2.2.1).mono ?_; rintro e wt ⟨rfl, hb⟩
            have HQT := Lib.hid (HQS.out.below hb)
            have HAT := Lib.hid (HAS.out.below hb)
            clear hb HQS HAS HLS qj
            go_wp2_with fail
            go_roundw
            case rel => exact ⟨k + 1, _, _, by omega, by omega, by go_num, HQT.out, HAT.out, HINF.out, HSF.out⟩
            case measure => simp [intOf]; omega
        · go_wp2_with fail
          refine (HMR.out _).mono ?_; rintro e w1 ⟨rfl, rfl⟩
          have HUD := Lib.hid hud
          clear hud
          have HGA := Lib.hid (give_any b x d.h (wr.alloc (.cells #[.int .i64 d.k, .int .i64 d.j, .int .u64 d.h] 35)) HUD.out.1 HUD.out.2 HQ0.out.1 HQ0.out.2.2.1)
          have HGB := Lib.hid (fun w hl => refGive_any y x d.h w HUD.out.1 HUD.out.2 hl HQ0.out.2.2.1 HQ0.out.2.2.2.2.2.2.1)
          go_wp2_with fail
          refine HGA.out.mono ?_; rintro e w1 ⟨rfl, t1, k1⟩
          have T1 := Lib.hid t1
          have K1 := Lib.hid k1
          have Y1 := Lib.hid (HQ0.out.2.1.keep k1 HQ0.out.2.2.2.1)
          have A1 := Lib.hid (HA0.out.keep HQ0.out.1 k1)
          have L1 := Lib.hid ((k1.at (block_lt HL0.out) NEB.out).trans HL0.out)
          clear t1 k1 HGA
          go_wp2_with fail
          refine (HGB.out w1 Y1.out).mono ?_; rintro e w2 ⟨rfl, t2, k2⟩
          have HQF := Lib.hid (HQ0.out.both (giveS_inv HQ0.out.2.2.1 d.h) T1.out K1.out t2 k2)
          have HAF := Lib.hid (A1.out.keepY Y1.out k2)
          have HLF := Lib.hid ((k2.at (block_lt L1.out) NEY.out).trans L1.out)
          have HINF := HIN
          have HSF := Lib.hid (Nat.le_succ_of_le hsl)
          clear t2 k2 HGB T1 K1 Y1 A1 L1 HQ0 HA0 HL0
          go_wp2_with fail
          refine (spoil_any b _ _ HQF.out.1 HQF.out.2.2.1).mono ?_; rintro e ws ⟨rfl, hb⟩
          have HLS := Lib.hid ((hb.block _ (block_lt HLF.out)).trans HLF.out)
          have HQS := Lib.hid (HQF.out.below hb)
          have HAS := Lib.hid (HAF.out.below hb)
          have qj := block_cell HLS.out 1
          simp at qj
          clear hb HQF HAF HLF
          go_wp2_with fail
          refine (same_any b y _ d.h d.j ws HUD.out.1 HUD.out.2 HQS.out.1 HQS.out.2.1 HQS.out.2.2.1).mono ?_; rintro e wt ⟨rfl, hb⟩
          have HQT := Lib.hid (HQS.out.below hb)
          have HAT := Lib.hid (HAS.out.below hb)
          clear hb HQS HAS HLS qj
          go_wp2_with fail
          go_roundw
          case rel => exact ⟨k + 1, _, _, by omega, by omega, by go_num, HQT.out, HAT.out, HINF.out, HSF.out⟩
          case measure => simp [intOf]; omega
      · obtain rfl : k = 60 := by omega
        have HB := Lib.hid HQ.out.2.2.2.2.2.2.2
        clear HQ HALL HIN
        go_wp2_with fail
        refine (awake_any _).mono ?_; rintro e w6 ⟨rfl, hb⟩
        have HB2 := Lib.hid (below_two HB.out hb)
        clear hb
        go_wp2_with fail
        go_ret
        exact ⟨rfl, HB2.out⟩
    · obtain rfl : k = len := by omega
      have HB := Lib.hid HQ.out.2.2.2.2.2.2.2
      clear HQ HALL HIN
      go_wp2_with fail
      refine (awake_any _).mono ?_; rintro e w6 ⟨rfl, hb⟩
      have HB2 := Lib.hid (below_two HB.out hb)
      clear hb
      go_wp2_with fail
      go_ret
      exact ⟨rfl, HB2.out⟩
end Go.Proofs.YtpcpjmgkdbgopaaDoor
