/- The freelist: run. -/
import Derived.Test.YtpcpjmgkdbgopaaDoorGe
namespace Go.Proofs.YtpcpjmgkdbgopaaDoor
open Go.RowKit

/-- what run returns: a list that calls lead to, the handles that were taken -/
def RunR (w : World) (a g : Nat) (e : Ending) (w' : World) : Prop :=
  ∃ (b : LB) (x : FL) (v : Value) (hs : List Int), e = .returned (.tuple #[.pointer (some ⟨b.p, 0, none⟩), .int .i64 (1 + (a : Int)), v, .bool true]) ∧ Solo w w' b x ∧ x.n = a + 1 ∧ x.most = g + 1 ∧ All w' w.heap.size v hs ∧ HInv x hs ∧ hs.length ≤ 60
theorem live_old {x : FL} {hs : List Int} (hf : FInv x) (h : HInv x hs) : ∀ t, t < hs.length → 0 ≤ hs.getD t 0 ∧ hs.getD t 0 ≤ 18446744073709551615 := fun _ ht => inU_at (h.inU hf) ht

set_option maxRecDepth 100000 in
set_option maxHeartbeats 8000000 in
theorem run_any (n g : Int) (ao : Option Addr) (len cap : Nat) (l : List Dd) (w : World) (a c : Nat) (hna : n % 8 = a) (hgc : g % 4 = c) (hr : IsR ddF w ao len l) (hlen : len ≤ 9223372036854775807) :
    Calls Tryd.prog 27 #[.int .i64 n, .int .i64 g, .slice ao len cap] w fun e w' => RunR w a c e w' := by
  obtain ⟨i0, hi, hz0, hz1, hz2⟩ := info_parts infoH
  have ha : a < 8 := by omega
  have hc : c < 4 := by omega
  have M8 := Lib.hid (mod_as n 8 a (by decide) (by decide) hna)
  have M4 := Lib.hid (mod_as g 4 c (by decide) (by decide) hgc)
  have NL := Lib.hid (new_at a c ha hc)
  have HR := Lib.hid hr
  have ha1 : (a : Int) < 8 := by omega
  have hc1 : (c : Int) < 4 := by omega
  clear hna hgc hr
  go_enter Tryd.func27, Tryd.ntmps27
  go_wp2_with fail
  refine (M8.out _).mono ?_; rintro e w1 ⟨rfl, rfl⟩
  go_wp2_with fail
  refine (M4.out _).mono ?_; rintro e w1 ⟨rfl, rfl⟩
  go_wp2_with fail
  refine (NL.out _).mono ?_; rintro e w1 hh
  obtain ⟨b, rfl, hl, hb, hge⟩ := hh
  have HP := Lib.hid (Solo.of_new (by omega) (by omega) (by omega) (by omega) hl hb hge)
  clear hl hb hge
  go_wp2_with fail
  go_loopw [13, 14] (fun v i wr => ∃ (k : Nat) (x : FL) (hs : List Int), k ≤ len ∧ k ≤ 60 ∧ i = .int .i64 k ∧ Solo w wr b x ∧ x.n = a + 1 ∧ x.most = c + 1 ∧ All wr w.heap.size v hs ∧ HInv x hs ∧ hs.length ≤ k) (fun _ i _ => len - (intOf i).toNat)
  case atStart => exact ⟨0, _, [], Nat.zero_le _, Nat.zero_le _, rfl, HP.out, rfl, rfl, All.nil _ _, HInv.nil _ _, Nat.le_refl _⟩
  case round =>
    obtain ⟨k, x, hs, hk, hk60, rfl, hp, hn, hmo, hall, hin, hsl⟩ := hrel
    have HQ := Lib.hid hp
    have HALL := Lib.hid hall
    have HIN := Lib.hid hin
    have HNN := Lib.hid hn
    have HMO := Lib.hid hmo
    clear hp hall hin HP NL M8 M4 hn hmo
    by_cases hlt : k < len
    · by_cases hlt60 : k < 60
      · obtain ⟨bb, off, rfl, hbb, hcells⟩ := HR.out.2 (by omega)
        have hkl : k < l.length := by rw [HR.out.1]; exact hlt
        have hat := row_at ddF_len (f := ddF) (l := l) hcells k hkl
        generalize l[k] = d at hat
        have bbel := HQ.out.2.2.2
        have e0 : wr.cell? ⟨bb, off + k * 3, none⟩ = some (.int .i64 d.k) := (bbel.cell (p := ⟨bb, off + k * 3, none⟩) hbb).trans (hat 0 _ rfl)
        have e1 : wr.cell? ⟨bb, off + k * 3 + 1, none⟩ = some (.int .i64 d.j) := (bbel.cell (p := ⟨bb, off + k * 3 + 1, none⟩) hbb).trans (hat 1 _ rfl)
        have hk1 : (k : Int) < (len : Int) := by omega
        have hk2 : (k : Int) < 60 := by omega
        clear hat hcells bbel hbb
        obtain ⟨r, hr4, hmr⟩ := mod_nat d.k 4 (by decide)
        have HMR := Lib.hid (mod_as d.k 4 r (by decide) (by decide) hmr)
        clear hmr
        by_cases hr2 : r < 2
        · have hr3 : (r : Int) < 2 := by omega
          clear hr4
          have hta := take_any b x wr HQ.out.1 HQ.out.2.1
          rcases take_two x HQ.out.2.1 with ⟨hm0, htr, hts⟩ | ⟨hm0, htr, hts, hth⟩
          · rw [htr, hts] at hta
            have HTA := Lib.hid hta
            clear hta hm0 htr hts
            go_wp2_with fail
            refine (HMR.out _).mono ?_; rintro e w1 ⟨rfl, rfl⟩
            go_wp2_with fail
            refine HTA.out.mono ?_; rintro e w2 ⟨rfl, t1, k1⟩
            have HQT := Lib.hid (HQ.out.turn HQ.out.2.1 t1 k1)
            have HAT := Lib.hid (HALL.out.keep HQ.out.1 k1)
            clear t1 k1
            go_wp2_with fail
            go_roundw
            case rel => exact ⟨k + 1, x, hs, by omega, by omega, by go_num, HQT.out, HNN.out, HMO.out, HAT.out, HIN.out, by omega⟩
            case measure => simp [intOf]; omega
          · have HIN2 := Lib.hid (HIN.out.take HQ.out.2.1 hm0)
            have HFI := Lib.hid (takeS_inv HQ.out.2.1)
            rw [hts] at HFI
            rw [htr, hts] at hta
            have HTA := Lib.hid hta
            clear hta hm0 htr hts hth
            generalize hMk (x.sk (x.m - 1)) (x.gn (x.sk (x.m - 1))) = th at *
            go_wp2_with fail
            refine (HMR.out _).mono ?_; rintro e w1 ⟨rfl, rfl⟩
            go_wp2_with fail
            refine HTA.out.mono ?_; rintro e w2 ⟨rfl, t1, k1⟩
            have HQT := Lib.hid (HQ.out.turn HFI.out t1 k1)
            have HAT := Lib.hid (HALL.out.keep HQ.out.1 k1)
            clear t1 k1
            have HHO := Lib.hid (fun A => (show All (w2.alloc A) w.heap.size u13 hs from HAT.out.alloc A))
            have HHN := Lib.hid (cell_one_new w2 (encHd th) 33)
            have HSZ := Lib.hid HQT.out.2.2.2.size
            go_wp2_with (at_builtin; refine wpList_append_own_at _ rfl _ _ 32 rfl w.heap.size 33 i0 (.int .u64 0) 1 8 Tryd.underlying32 hi hz0 hz1 hz2 rfl (by decide) _ hs.length (hs.map encHd) rfl (HHO.out _) ⟨w2.heap.size, 0, none⟩ 1 _ [encHd th] rfl rfl HHN.out (encHd_one th) ?c3 ?c4 ?c5 ?_)
            case c3 => unfold maxLen; omega
            case c4 => omega
            case c5 => have := HSZ.out; simp; omega
            intro v' w3 hown hgrow _ hblk
            have HQF := Lib.hid (Solo.grown (HQT.out.below ((Below.refl _ _).alloc (Nat.le_refl _) _)) (HHO.out _) hgrow)
            have HAF := Lib.hid (show All w3 w.heap.size v' (hs ++ [th]) by unfold All; rw [List.length_append, List.map_append]; exact hown)
            clear hown hgrow hblk HHO HHN
            go_wp2_with fail
            go_roundw
            case rel => exact ⟨k + 1, takeL x, hs ++ [th], by omega, by omega, by go_num, HQF.out, HNN.out, HMO.out, HAF.out, HIN2.out, by rw [List.length_append]; simp; omega⟩
            case measure => simp [intOf]; omega
        · have hr3 : ¬ ((r : Int) < 2) := by omega
          clear hr4
          obtain ⟨va, vc, rfl, hv⟩ := HALL.out.rs
          have HV := Lib.hid hv
          clear hv
          by_cases hs0 : hs.length = 0
          · have hs1 : ¬ ((0 : Int) < hs.length) := by omega
            have HS0 := Lib.hid hs0
            rw [hs0] at hs1
            clear hs0
            rw [HS0.out]
            go_wp2_with fail
            refine (HMR.out _).mono ?_; rintro e w1 ⟨rfl, rfl⟩
            go_wp2_with fail
            go_roundw
            case rel => exact ⟨k + 1, x, hs, by omega, by omega, by go_num, HQ.out, HNN.out, HMO.out, (by have := HALL.out; rwa [HS0.out] at this), HIN.out, by omega⟩
            case measure => simp [intOf]; omega
          · have hs1 : (0 : Int) < hs.length := by omega
            obtain ⟨t, ht, hjt⟩ := mod_nat d.j hs.length (by omega)
            have HMJ := Lib.hid (mod_as d.j hs.length t (by omega) (by omega) hjt)
            obtain ⟨vb, vo, rfl, hcell⟩ := HV.out (by omega)
            have qv : wr.cell? ⟨vb, vo + t, none⟩ = some (.int .u64 (hs.getD t 0)) := hcell t ht
            have ht1 : (t : Int) < hs.length := by omega
            have HTR := Lib.hid (live_old HQ.out.2.1 HIN.out t ht)
            generalize hs.getD t 0 = th at *
            have HGA := Lib.hid (give_any b x th wr HTR.out.1 HTR.out.2 HQ.out.1 HQ.out.2.1)
            clear hcell hjt hs0
            go_wp2_with fail
            refine (HMR.out _).mono ?_; rintro e w1 ⟨rfl, rfl⟩
            go_wp2_with fail
            refine (HMJ.out _).mono ?_; rintro e w1 ⟨rfl, rfl⟩
            go_wp2_with fail
            refine HGA.out.mono ?_; rintro e w2 ⟨rfl, t1, k1⟩
            have HQT := Lib.hid (HQ.out.turn (giveS_inv HQ.out.2.1 th) t1 k1)
            have HAT := Lib.hid (HALL.out.keep HQ.out.1 k1)
            clear t1 k1
            go_wp2_with fail
            go_roundw
            case rel => exact ⟨k + 1, giveS x th, hs, by omega, by omega, by go_num, HQT.out, (giveS_n x th).1.trans HNN.out, (giveS_n x th).2.trans HMO.out, HAT.out, HIN.out.giveS th, by omega⟩
            case measure => simp [intOf]; omega
      · have hk2 : ¬ ((k : Int) < 60) := by omega
        go_wp2_with fail
        (try simp only [Exit.inBlock, Exit.then]); refine bodyPost_ret (results_tmp4 rfl _ _ _) rfl ?_
        exact ⟨b, x, u13, hs, rfl, HQ.out, HNN.out, HMO.out, HALL.out, HIN.out, by omega⟩
    · obtain rfl : k = len := by omega
      go_wp2_with fail
      (try simp only [Exit.inBlock, Exit.then]); refine bodyPost_ret (results_tmp4 rfl _ _ _) rfl ?_
      exact ⟨b, x, u13, hs, rfl, HQ.out, HNN.out, HMO.out, HALL.out, HIN.out, by omega⟩
end Go.Proofs.YtpcpjmgkdbgopaaDoor
