/- The freelist: the law FreelistFresh. -/
import Derived.Test.YtpcpjmgkdbgopaaDoorGg
namespace Go.Proofs.YtpcpjmgkdbgopaaDoor
open Go.RowKit

/-- ds: the handles that were given back -/
structure DInv (x : FL) (hs ds : List Int) : Prop where
  sub : ∀ h ∈ ds, h ∈ hs
  liv : ∀ h ∈ hs, liveL x h ↔ h ∉ ds
theorem DInv.take {x : FL} {hs ds : List Int} (hd : DInv x hs ds) (hf : FInv x) (hi : HInv x hs) (hm : x.m ≠ 0) : DInv (takeL x) (hs ++ [hMk (x.sk (x.m - 1)) (x.gn (x.sk (x.m - 1)))]) ds := by
  have hl := hf.lo (x.m - 1) (by omega)
  refine ⟨fun h hh => List.mem_append_left _ (hd.sub h hh), fun h hh => ?_⟩
  rcases List.mem_append.1 hh with hh | hh
  · rw [← hd.liv h hh]
    obtain ⟨s, g, rfl, h1, h2, h3, h4⟩ := hi.old h hh
    rw [liveL_mk (mkOK_le hf h1 h2 h3), liveL_mk (mkOK_le hf h1 h2 h3)]
    show s < x.n ∧ updN x.st (x.sk (x.m - 1)) 1 s = 1 ∧ g = x.gn s ↔ _
    by_cases e : s = x.sk (x.m - 1)
    · rw [← e] at hl ⊢
      rw [updN_same]
      constructor
      · rintro ⟨-, -, e3⟩; exact absurd hl.2 (h4 e3)
      · rintro ⟨-, e2, -⟩; rw [hl.2] at e2; omega
    · rw [updN_other _ e]
  · rw [List.mem_singleton.1 hh]
    exact ⟨fun _ hc => take_fresh hf hi hm (hd.sub _ hc), fun _ => top_live hf hm⟩
theorem DInv.give {x : FL} {hs ds : List Int} (hd : DInv x hs ds) (hf : FInv x) (hi : HInv x hs) {k : Int} (hk : liveL x k) : k ∈ hs → DInv (giveS x k) hs (ds ++ [k]) := by
  intro hmem
  obtain ⟨s, g, hm, rfl⟩ := hOK_mk hk.1
  obtain ⟨k1, k2, k3⟩ := (liveL_mk hm).1 hk
  have e : giveS x (hMk s g) = giveL x s := by unfold giveS; rw [if_pos hk, slotOf_mk hm]
  rw [e]
  refine ⟨fun h hh => ?_, fun h hh => ?_⟩
  · rcases List.mem_append.1 hh with hh | hh
    · exact hd.sub h hh
    · rw [List.mem_singleton.1 hh]; exact hmem
  · have hliv := hd.liv h hh
    obtain ⟨s', g', rfl, h1, h2, h3, h4⟩ := hi.old h hh
    have hm' := mkOK_le hf h1 h2 h3
    rw [liveL_mk hm'] at hliv
    rw [liveL_mk hm', List.mem_append, List.mem_singleton]
    by_cases e : s' = s
    · subst e
      have hst : (giveL x s').st s' ≠ 1 := by
        unfold giveL
        split
        · show updN x.st s' 2 s' ≠ 1
          rw [updN_same]; decide
        · show updN x.st s' 0 s' ≠ 1
          rw [updN_same]; decide
      constructor
      · rintro ⟨-, h, -⟩; exact absurd h hst
      · intro hno
        by_cases e2 : g' = x.gn s'
        · exact absurd (.inr (by rw [e2, k3])) hno
        · by_cases hc : hMk s' g' ∈ ds
          · exact absurd (.inl hc) hno
          · exact absurd (hliv.2 hc).2.2 e2
    · have hne : hMk s' g' ≠ hMk s g := fun h => e (hMk_inj hm' hm h).1
      have hg : (giveL x s).st s' = x.st s' ∧ (giveL x s).gn s' = x.gn s' := by
        unfold giveL
        split
        · exact ⟨updN_other _ e, rfl⟩
        · exact ⟨updN_other _ e, updN_other _ e⟩
      rw [(giveL_n x s).1, hg.1, hg.2, hliv]
      exact ⟨fun h hc => hc.elim h hne, fun h hc => h (.inl hc)⟩
theorem give_live (x : FL) (k : Int) (hk : liveL x k) : giveR x k = ((giveR x k).1, 0) ∧ True ∧ True := by
  refine ⟨?_, trivial, trivial⟩
  unfold giveR
  rw [if_pos hk]
theorem give_gone (x : FL) (k : Int) (hk : ¬ liveL x k) : giveR x k = (false, 10) ∧ True ∧ giveS x k = x := by
  refine ⟨?_, trivial, ?_⟩
  · unfold giveR; rw [if_neg hk]
  · unfold giveS; rw [if_neg hk]
theorem mem_at {l : List Int} {t : Nat} (ht : t < l.length) : l.getD t 0 ∈ l := by
  rw [List.getD_eq_getElem?_getD, List.getElem?_eq_getElem ht]
  exact List.getElem_mem ht
theorem hasTo_mem (l : List Int) (h : Int) : HasTo l.length (fun i => l.getD i 0) h ↔ h ∈ l := by
  constructor
  · rintro ⟨i, hi, rfl⟩; exact mem_at hi
  · intro hm
    obtain ⟨i, hi, e⟩ := List.getElem_of_mem hm
    exact ⟨i, hi, by rw [← e]; simp [hi]⟩
theorem has_all (w : World) {B : Nat} (v : Value) (l : List Int) (h : Int) (ha : All w B v l) (hn : l.length ≤ 9223372036854775807) :
    Calls Tryd.prog 30 #[v, .int .u64 h] w fun e w' => e = .returned (.bool (decide (h ∈ l))) ∧ w' = w := by
  have := has_any w v l.length (fun i => l.getD i 0) h ha.rs hn
  rw [show decide (HasTo l.length (fun i => l.getD i 0) h) = decide (h ∈ l) from decide_eq_decide.2 (hasTo_mem l h)] at this
  exact this.mono fun _ _ ⟨a, b⟩ => ⟨a, b.symm⟩
theorem All.len {w : World} {B : Nat} {v : Value} {l : List Int} (ha : All w B v l) : l.length ≤ 9223372036854775807 := by
  obtain ⟨-, ⟨h, h2⟩ | ⟨g, cap', cur, h1, hg, h2, h3, h4, h5⟩⟩ := ha
  · omega
  · have : maxLen = 9223372036854775807 := rfl
    omega
theorem has_noQ (w : World) {B : Nat} (v : Value) (l : List Int) (h : Int) (ha : All w B v l) (hh : h ∉ l) :
    Calls Tryd.prog 30 #[v, .int .u64 h] w fun e w' => e = .returned (.bool false) ∧ w' = w := by
  have := has_all w v l h ha ha.len
  rwa [decide_eq_false hh] at this
theorem has_yesQ (w : World) {B : Nat} (v : Value) (l : List Int) (h : Int) (ha : All w B v l) (hh : h ∈ l) :
    Calls Tryd.prog 30 #[v, .int .u64 h] w fun e w' => e = .returned (.bool true) ∧ w' = w := by
  have := has_all w v l h ha ha.len
  rwa [decide_eq_true hh] at this
theorem has_no (w : World) {B : Nat} (v : Value) (l : List Int) (h : Int) (ha : All w B v l) (hh : h ∉ l) :
    Calls Tryd.prog 30 #[v, .int .u64 h] w fun e w' => e = .returned (.bool false) ∧ w = w' := (has_noQ w v l h ha hh).mono fun _ _ ⟨a, b⟩ => ⟨a, b.symm⟩
theorem has_yes (w : World) {B : Nat} (v : Value) (l : List Int) (h : Int) (ha : All w B v l) (hh : h ∈ l) :
    Calls Tryd.prog 30 #[v, .int .u64 h] w fun e w' => e = .returned (.bool true) ∧ w = w' := (has_yesQ w v l h ha hh).mono fun _ _ ⟨a, b⟩ => ⟨a, b.symm⟩
theorem live_yes (b : LB) (x : FL) (h : Int) (w : World) (h0 : 0 ≤ h) (h1 : h ≤ 18446744073709551615) (hl : IsL w b x) (hd : liveL x h) :
    Calls Tryd.prog 24 #[.pointer (some ⟨b.p, 0, none⟩), .int .u64 h] w fun e w' => e = .returned (.bool true) ∧ ∃ n, w' = w.drewN n := by
  have := live_any b x h w h0 h1 hl
  rwa [decide_eq_true hd] at this
theorem live_no (b : LB) (x : FL) (h : Int) (w : World) (h0 : 0 ≤ h) (h1 : h ≤ 18446744073709551615) (hl : IsL w b x) (hd : ¬ liveL x h) :
    Calls Tryd.prog 24 #[.pointer (some ⟨b.p, 0, none⟩), .int .u64 h] w fun e w' => e = .returned (.bool false) ∧ ∃ n, w' = w.drewN n := live_lit b x h w h0 h1 hl hd
/-- two slices share no block -/
def Part (v u : Value) : Prop := ∀ q, v.ownBlock = some q → u.ownBlock ≠ some q
theorem apart_symm {v u : Value} (h : Part v u) : Part u v := fun q h1 h2 => h q h2 h1
theorem ne_of_ap {v u : Value} (h : Part v u) {q : Nat} (hq : u.ownBlock = some q) : some q ≠ v.ownBlock := fun e => h q e.symm hq
theorem All.other {w w' : World} {B : Nat} {v u : Value} {l : List Int} (h : All w B u l) (hg : w.grownBy w' v.ownBlock) (hn : ∀ q, u.ownBlock = some q → some q ≠ v.ownBlock) : All w' B u l :=
  own_keep h fun q hq => hg.block q (own_lt h q hq).2 (hn q hq)
theorem ap_append {w : World} {B : Nat} {v v' u : Value} {l : List Int} (h : Part v u) (hu : All w B u l) (hb : v'.ownBlock = v.ownBlock ∨ v'.ownBlock = some (w.heap.size + 1)) : Part v' u := by
  intro q h1 h2
  rcases hb with hb | hb
  · rw [hb] at h1; exact h q h1 h2
  · rw [hb] at h1
    injection h1 with h1
    have := (own_lt hu q h2).2
    omega

set_option maxRecDepth 100000 in
set_option maxHeartbeats 8000000 in
theorem fresh_any (n g : Int) (ao : Option Addr) (len cap : Nat) (l : List Dd) (w : World) (hr : IsR ddF w ao len l) (hlen : len ≤ 9223372036854775807) :
    Calls Tryd.prog 7 #[.int .i64 n, .int .i64 g, .slice ao len cap] w fun e w' => e = .returned (.bool true) ∧ Below w.heap.size w w' := by
  obtain ⟨i0, hi, hz0, hz1, hz2⟩ := info_parts infoH
  obtain ⟨a, ha, hna⟩ := mod_nat n 8 (by decide)
  obtain ⟨c, hc, hgc⟩ := mod_nat g 4 (by decide)
  have M8 := Lib.hid (mod_as n 8 a (by decide) (by decide) hna)
  have M4 := Lib.hid (mod_as g 4 c (by decide) (by decide) hgc)
  have NL := Lib.hid (new_at a c ha hc)
  have HR := Lib.hid hr
  have ha1 : (a : Int) < 8 := by omega
  have hc1 : (c : Int) < 4 := by omega
  clear hna hgc hr
  go_enter Tryd.func7, Tryd.ntmps7
  go_wp2_with fail
  refine (M8.out _).mono ?_; rintro e w1 ⟨rfl, rfl⟩
  go_wp2_with fail
  refine (M4.out _).mono ?_; rintro e w1 ⟨rfl, rfl⟩
  go_wp2_with fail
  refine (NL.out _).mono ?_; rintro e w1 hh
  obtain ⟨b, rfl, hl, hb, hge⟩ := hh
  have HP := Lib.hid (Solo.of_new (by omega) (by omega) (by omega) (by omega) hl hb hge)
  clear hl hb hge
  go_wp2_with fail
  go_loopw [9, 10, 11] (fun v u i wr => ∃ (k : Nat) (x : FL) (hs ds : List Int), k ≤ len ∧ k ≤ 60 ∧ i = .int .i64 k ∧ Solo w wr b x ∧ All wr w.heap.size v hs ∧ All wr w.heap.size u ds ∧ HInv x hs ∧ DInv x hs ds ∧ hs.length ≤ k ∧ ds.length ≤ k ∧ Part v u) (fun _ _ i _ => len - (intOf i).toNat)
  case atStart => exact ⟨0, _, [], [], Nat.zero_le _, Nat.zero_le _, rfl, HP.out, All.nil _ _, All.nil _ _, HInv.nil _ _, ⟨(fun _ h => nomatch h), (fun _ h => nomatch h)⟩, Nat.le_refl _, Nat.le_refl _, (fun _ h => nomatch h)⟩
  case round =>
    obtain ⟨k, x, hs, ds, hk, hk60, rfl, hp, hall, hdd, hin, hdi, hsl, hdl, hap⟩ := hrel
    have HQ := Lib.hid hp
    have HALL := Lib.hid hall
    have HDD := Lib.hid hdd
    have HIN := Lib.hid hin
    have HDI := Lib.hid hdi
    have HAP := Lib.hid hap
    clear hp hall hin HP NL M8 M4 hdd hdi hap
    by_cases hlt : k < len
    · by_cases hlt60 : k < 60
      · obtain ⟨bb, off, rfl, hbb, hcells⟩ := HR.out.2 (by omega)
        have hkl : k < l.length := by rw [HR.out.1]; exact hlt
        have hat := row_at ddF_len (f := ddF) (l := l) hcells k hkl
        generalize l[k] = d at hat
        have bbel := HQ.out.2.2.2
        have e0 : wr.cell? ⟨bb, off + k * 3, none⟩ = some (.int .i64 d.k) := (bbel.cell (p := ⟨bb, off + k * 3, none⟩) hbb).trans (hat 0 _ rfl)
        have e1 : wr.cell? ⟨bb, off + k * 3 + 1, none⟩ = some (.int .i64 d.j) := (bbel.cell (p := ⟨bb, off + k * 3 + 1, none⟩) hbb).trans (hat 1 _ rfl)
        have hk1 : (k : Int) < (len : Int) := by omega
        have hk2 : (k : Int) < 60 := by omega
        clear hat hcells bbel hbb
        obtain ⟨r, hr4, hmr⟩ := mod_nat d.k 4 (by decide)
        have HMR := Lib.hid (mod_as d.k 4 r (by decide) (by decide) hmr)
        clear hmr
        by_cases hr2 : r < 2
        · have hr3 : (r : Int) < 2 := by omega
          clear hr4
          have hta := take_any b x wr HQ.out.1 HQ.out.2.1
          rcases take_two x HQ.out.2.1 with ⟨hm0, htr, hts⟩ | ⟨hm0, htr, hts, hth⟩
          · rw [htr, hts] at hta
            have HTA := Lib.hid hta
            clear hta hm0 htr hts
            go_wp2_with fail
            refine (HMR.out _).mono ?_; rintro e w1 ⟨rfl, rfl⟩
            go_wp2_with fail
            refine HTA.out.mono ?_; rintro e wF ⟨rfl, t1, k1⟩
            have HQF := Lib.hid (HQ.out.turn HQ.out.2.1 t1 k1)
            have HAF := Lib.hid (HALL.out.keep HQ.out.1 k1)
            have HDF := Lib.hid (HDD.out.keep HQ.out.1 k1)
            have HIF := HIN
            have HVF := HDI
            have HPF := HAP
            clear t1 k1 HQ HALL HDD
            obtain ⟨va, vc, hve, hv⟩ := HAF.out.rs
            cases hve
            have HV := Lib.hid hv
            clear hv
            go_wp2_with fail
            go_loopw [17] (fun i wi => ∃ j : Nat, j ≤ (hs).length ∧ i = .int .i64 j ∧ ∃ m, wi = wF.drewN m) (fun i _ => (hs).length - (intOf i).toNat)
            case atStart => exact ⟨0, Nat.zero_le _, rfl, 0, rfl⟩
            case round =>
              obtain ⟨j, hj, rfl, mi, hwi⟩ := hrel
              have HWI := Lib.hid hwi
              have HQI := Lib.hid (show Solo w wr b x by rw [hwi]; exact HQF.out.drewN mi)
              have HDI2 := Lib.hid (show All wr w.heap.size _ ds by rw [hwi]; exact HDF.out.drewN mi)
              clear hwi
              by_cases hjl : j < (hs).length
              · obtain ⟨vb, vo, hvo, hcell⟩ := HV.out (by omega)
                cases hvo
                have qv : wr.cell? ⟨vb, vo + j, none⟩ = some (.int .u64 ((hs).getD j 0)) := by rw [HWI.out]; exact hcell j hjl
                have hj1 : (j : Int) < ((hs).length : Int) := by omega
                have hth := mem_at hjl
                have HTR := Lib.hid (HIF.out.inU HQF.out.2.1 _ hth)
                generalize (hs).getD j 0 = th at *
                clear hcell
                by_cases hlv : liveL x th
                · have HLV := Lib.hid (fun (n : Nat) => live_yes b x th (wr.drewN n) HTR.out.1 HTR.out.2 HQI.out.1 hlv)
                  have HHD := Lib.hid (fun (n : Nat) => has_noQ (wr.drewN n) _ ds th HDI2.out ((HVF.out.liv th hth).1 hlv))
                  clear hlv hth
                  go_wp2_with fail
                  go_quiet (first | (go_at_call 24; exact Calls.quiet_of (HLV.out _)) | (go_at_call 30; exact Calls.quiet_of_same (HHD.out _)))
                  go_wp2_with fail
                  go_roundw
                  case rel => exact ⟨j + 1, by omega, by go_num, by rw [HWI.out]; exact drew2 _ _ _⟩
                  case measure => simp [intOf]; omega
                · have HLV := Lib.hid (fun (n : Nat) => live_no b x th (wr.drewN n) HTR.out.1 HTR.out.2 HQI.out.1 hlv)
                  have HHD := Lib.hid (fun (n : Nat) => has_yesQ (wr.drewN n) _ ds th HDI2.out (Classical.byContradiction fun h => hlv ((HVF.out.liv th hth).2 h)))
                  clear hlv hth
                  go_wp2_with fail
                  go_quiet (first | (go_at_call 24; exact Calls.quiet_of (HLV.out _)) | (go_at_call 30; exact Calls.quiet_of_same (HHD.out _)))
                  go_wp2_with fail
                  go_roundw
                  case rel => exact ⟨j + 1, by omega, by go_num, by rw [HWI.out]; exact drew2 _ _ _⟩
                  case measure => simp [intOf]; omega
              · obtain rfl : j = (hs).length := by omega
                go_wp2_with fail
                go_roundw
                case rel => exact ⟨k + 1, x, hs, ds, by omega, by omega, by go_num, HQI.out, (by rw [HWI.out]; exact HAF.out), HDI2.out, HIF.out, HVF.out, by omega, by omega, HPF.out⟩
                case measure => simp [intOf]; omega
          · have HIF := Lib.hid (HIN.out.take HQ.out.2.1 hm0)
            have HVF := Lib.hid (HDI.out.take HQ.out.2.1 HIN.out hm0)
            have HFI := Lib.hid (takeS_inv HQ.out.2.1)
            have HFR := Lib.hid (take_fresh HQ.out.2.1 HIN.out hm0)
            have HLT := Lib.hid (top_live HQ.out.2.1 hm0)
            have HTR0 := Lib.hid (hMk_le hth)
            unfold topS at HLT
            rw [hts] at HFI
            rw [htr, hts] at hta
            have HTA := Lib.hid hta
            clear hta hm0 htr hts hth
            generalize hMk (x.sk (x.m - 1)) (x.gn (x.sk (x.m - 1))) = th0 at *
            have HH0 := Lib.hid (fun w' (h : All w' w.heap.size u9 hs) => has_no w' u9 hs th0 h HFR.out)
            have HL0 := Lib.hid (fun w' (h : IsL w' b (takeL x)) => live_yes b (takeL x) th0 w' HTR0.out.1 HTR0.out.2 h HLT.out)
            go_wp2_with fail
            refine (HMR.out _).mono ?_; rintro e w1 ⟨rfl, rfl⟩
            go_wp2_with fail
            refine HTA.out.mono ?_; rintro e w2 ⟨rfl, t1, k1⟩
            have HQT := Lib.hid (HQ.out.turn HFI.out t1 k1)
            have HAT := Lib.hid (HALL.out.keep HQ.out.1 k1)
            have HDT := Lib.hid (HDD.out.keep HQ.out.1 k1)
            clear t1 k1
            go_wp2_with fail
            refine (HH0.out _ HAT.out).mono ?_; rintro e w3 ⟨rfl, rfl⟩
            go_wp2_with fail
            refine (HL0.out _ HQT.out.1).mono ?_; rintro e w3 ⟨rfl, m3, rfl⟩
            have HQT3 := Lib.hid (HQT.out.drewN m3)
            have HAT3 := Lib.hid (HAT.out.drewN m3)
            have HDT3 := Lib.hid (HDT.out.drewN m3)
            clear HQT HAT HDT
            generalize w2.drewN m3 = w3 at *
            have HHO := Lib.hid (fun A => (show All (w3.alloc A) w.heap.size u9 hs from HAT3.out.alloc A))
            have HHN := Lib.hid (cell_one_new w3 (encHd th0) 33)
            have HSZ := Lib.hid HQT3.out.2.2.2.size
            go_wp2_with (at_builtin; refine wpList_append_own_at _ rfl _ _ 32 rfl w.heap.size 33 i0 (.int .u64 0) 1 8 Tryd.underlying32 hi hz0 hz1 hz2 rfl (by decide) _ hs.length (hs.map encHd) rfl (HHO.out _) ⟨w3.heap.size, 0, none⟩ 1 _ [encHd th0] rfl rfl HHN.out (encHd_one th0) ?c3 ?c4 ?c5 ?_)
            case c3 => unfold maxLen; omega
            case c4 => omega
            case c5 => have := HSZ.out; simp; omega
            intro v' wF hown hgrow _ hblk
            have HQF := Lib.hid (Solo.grown (HQT3.out.below ((Below.refl _ _).alloc (Nat.le_refl _) _)) (HHO.out _) hgrow)
            have HAF := Lib.hid (show All wF w.heap.size v' (hs ++ [th0]) by unfold All; rw [List.length_append, List.map_append]; exact hown)
            have HDF := Lib.hid (All.other (HDT3.out.alloc (.cells #[.int .u64 th0] 33)) hgrow (fun q h => ne_of_ap HAP.out h))
            have HPF := Lib.hid (ap_append HAP.out HDT3.out hblk)
            clear hown hgrow hblk HHO HHN
            obtain ⟨hs2, hhs⟩ : ∃ z, z = hs ++ [th0] := ⟨_, rfl⟩
            have hsl2 : hs2.length ≤ k + 1 := by rw [hhs, List.length_append]; simp; omega
            rw [← hhs] at HAF HIF HVF
            clear hhs HALL HAT3 HH0 HFR
            obtain ⟨va, vc, hve, hv⟩ := HAF.out.rs
            cases hve
            have HV := Lib.hid hv
            clear hv
            go_wp2_with fail
            go_loopw [17] (fun i wi => ∃ j : Nat, j ≤ (hs2).length ∧ i = .int .i64 j ∧ ∃ m, wi = wF.drewN m) (fun i _ => (hs2).length - (intOf i).toNat)
            case atStart => exact ⟨0, Nat.zero_le _, rfl, 0, rfl⟩
            case round =>
              obtain ⟨j, hj, rfl, mi, hwi⟩ := hrel
              have HWI := Lib.hid hwi
              have HQI := Lib.hid (show Solo w wr b (takeL x) by rw [hwi]; exact HQF.out.drewN mi)
              have HDI2 := Lib.hid (show All wr w.heap.size _ ds by rw [hwi]; exact HDF.out.drewN mi)
              clear hwi
              by_cases hjl : j < (hs2).length
              · obtain ⟨vb, vo, hvo, hcell⟩ := HV.out (by omega)
                cases hvo
                have qv : wr.cell? ⟨vb, vo + j, none⟩ = some (.int .u64 ((hs2).getD j 0)) := by rw [HWI.out]; exact hcell j hjl
                have hj1 : (j : Int) < ((hs2).length : Int) := by omega
                have hth := mem_at hjl
                have HTR := Lib.hid (HIF.out.inU HQF.out.2.1 _ hth)
                generalize (hs2).getD j 0 = th at *
                clear hcell
                by_cases hlv : liveL (takeL x) th
                · have HLV := Lib.hid (fun (n : Nat) => live_yes b (takeL x) th (wr.drewN n) HTR.out.1 HTR.out.2 HQI.out.1 hlv)
                  have HHD := Lib.hid (fun (n : Nat) => has_noQ (wr.drewN n) _ ds th HDI2.out ((HVF.out.liv th hth).1 hlv))
                  clear hlv hth
                  go_wp2_with fail
                  go_quiet (first | (go_at_call 24; exact Calls.quiet_of (HLV.out _)) | (go_at_call 30; exact Calls.quiet_of_same (HHD.out _)))
                  go_wp2_with fail
                  go_roundw
                  case rel => exact ⟨j + 1, by omega, by go_num, by rw [HWI.out]; exact drew2 _ _ _⟩
                  case measure => simp [intOf]; omega
                · have HLV := Lib.hid (fun (n : Nat) => live_no b (takeL x) th (wr.drewN n) HTR.out.1 HTR.out.2 HQI.out.1 hlv)
                  have HHD := Lib.hid (fun (n : Nat) => has_yesQ (wr.drewN n) _ ds th HDI2.out (Classical.byContradiction fun h => hlv ((HVF.out.liv th hth).2 h)))
                  clear hlv hth
                  go_wp2_with fail
                  go_quiet (first | (go_at_call 24; exact Calls.quiet_of (HLV.out _)) | (go_at_call 30; exact Calls.quiet_of_same (HHD.out _)))
                  go_wp2_with fail
                  go_roundw
                  case rel => exact ⟨j + 1, by omega, by go_num, by rw [HWI.out]; exact drew2 _ _ _⟩
                  case measure => simp [intOf]; omega
              · obtain rfl : j = (hs2).length := by omega
                go_wp2_with fail
                go_roundw
                case rel => exact ⟨k + 1, (takeL x), hs2, ds, by omega, by omega, by go_num, HQI.out, (by rw [HWI.out]; exact HAF.out), HDI2.out, HIF.out, HVF.out, hsl2, by omega, HPF.out⟩
                case measure => simp [intOf]; omega
        · have hr3 : ¬ ((r : Int) < 2) := by omega
          clear hr4
          obtain ⟨ua, uc, rfl, hu⟩ := HALL.out.rs
          have HU := Lib.hid hu
          clear hu
          by_cases hs0 : hs.length = 0
          · have hs1 : ¬ ((0 : Int) < hs.length) := by omega
            have HS0 := Lib.hid hs0
            rw [hs0] at hs1
            clear hs0
            rw [HS0.out]
            go_wp2_with fail
            refine (HMR.out _).mono ?_; rintro e w1 ⟨rfl, rfl⟩
            go_wp2_with fail
            go_loopw [17] (fun i wi => i = .int .i64 0 ∧ wi = wr) (fun _ _ => 0)
            case atStart => exact ⟨rfl, rfl⟩
            case round =>
              obtain ⟨rfl, rfl⟩ := hrel
              go_wp2_with fail
              go_roundw
              case rel => exact ⟨k + 1, x, hs, ds, by omega, by omega, by go_num, HQ.out, (by have := HALL.out; rwa [HS0.out] at this), HDD.out, HIN.out, HDI.out, by omega, by omega, (by have := HAP.out; rwa [HS0.out] at this)⟩
              case measure => simp [intOf]; omega
          · have hs1 : (0 : Int) < hs.length := by omega
            obtain ⟨t, ht, hjt⟩ := mod_nat d.j hs.length (by omega)
            have HMJ := Lib.hid (mod_as d.j hs.length t (by omega) (by omega) hjt)
            obtain ⟨ub, uo, rfl, hcell⟩ := HU.out (by omega)
            have qu : wr.cell? ⟨ub, uo + t, none⟩ = some (.int .u64 (hs.getD t 0)) := hcell t ht
            have ht1 : (t : Int) < hs.length := by omega
            have hmem := mem_at ht
            have HTR0 := Lib.hid (HIN.out.inU HQ.out.2.1 _ hmem)
            generalize hs.getD t 0 = th0 at *
            clear hcell hjt hs0
            by_cases hl0 : liveL x th0
            · have HG1 := Lib.hid (give_live x th0 hl0)
              have hga := give_any b x th0 wr HTR0.out.1 HTR0.out.2 HQ.out.1 HQ.out.2.1
              have HFI := Lib.hid (giveS_inv HQ.out.2.1 th0)
              have HIF := Lib.hid (HIN.out.giveS th0)
              have HVF := Lib.hid (HDI.out.give HQ.out.2.1 HIN.out hl0 hmem)
              rw [HG1.out.1] at hga
              have HGA := Lib.hid hga
              have HH0 := Lib.hid (fun w' (h : All w' w.heap.size u10 ds) => has_no w' u10 ds th0 h ((HDI.out.liv th0 hmem).1 hl0))
              clear hga hl0 hmem
              go_wp2_with fail
              refine (HMR.out _).mono ?_; rintro e w1 ⟨rfl, rfl⟩
              go_wp2_with fail
              refine (HMJ.out _).mono ?_; rintro e w1 ⟨rfl, rfl⟩
              go_wp2_with fail
              refine HGA.out.mono ?_; rintro e w2 ⟨rfl, t1, k1⟩
              have HQT := Lib.hid (HQ.out.turn HFI.out t1 k1)
              have HAT := Lib.hid (HALL.out.keep HQ.out.1 k1)
              have HDT := Lib.hid (HDD.out.keep HQ.out.1 k1)
              clear t1 k1
              go_wp2_with fail
              refine (HH0.out _ HDT.out).mono ?_; rintro e w3 ⟨rfl, rfl⟩
              have HHO := Lib.hid (fun A => (show All (w2.alloc A) w.heap.size u10 ds from HDT.out.alloc A))
              have HHN := Lib.hid (cell_one_new w2 (encHd th0) 33)
              have HSZ := Lib.hid HQT.out.2.2.2.size
              go_wp2_with (at_builtin; refine wpList_append_own_at _ rfl _ _ 32 rfl w.heap.size 33 i0 (.int .u64 0) 1 8 Tryd.underlying32 hi hz0 hz1 hz2 rfl (by decide) _ ds.length (ds.map encHd) rfl (HHO.out _) ⟨w2.heap.size, 0, none⟩ 1 _ [encHd th0] rfl rfl HHN.out (encHd_one th0) ?c3 ?c4 ?c5 ?_)
              case c3 => unfold maxLen; omega
              case c4 => omega
              case c5 => have := HSZ.out; simp; omega
              intro v' wF hown hgrow _ hblk
              have HQF := Lib.hid (Solo.grown (HQT.out.below ((Below.refl _ _).alloc (Nat.le_refl _) _)) (HHO.out _) hgrow)
              have HDF := Lib.hid (show All wF w.heap.size v' (ds ++ [th0]) by unfold All; rw [List.length_append, List.map_append]; exact hown)
              have HAF := Lib.hid (All.other (HAT.out.alloc (.cells #[.int .u64 th0] 33)) hgrow (fun q h => ne_of_ap (apart_symm HAP.out) h))
              have HPF := Lib.hid (ap_append (apart_symm HAP.out) HAT.out hblk)
              clear hown hgrow hblk HHO HHN
              have HPF2 := Lib.hid (apart_symm HPF.out)
              clear HPF
              have HPF := HPF2
              obtain ⟨va, vc, hve, hv⟩ := HAF.out.rs
              cases hve
              have HV := Lib.hid hv
              clear hv
              go_wp2_with fail
              go_loopw [17] (fun i wi => ∃ j : Nat, j ≤ (hs).length ∧ i = .int .i64 j ∧ ∃ m, wi = wF.drewN m) (fun i _ => (hs).length - (intOf i).toNat)
              case atStart => exact ⟨0, Nat.zero_le _, rfl, 0, rfl⟩
              case round =>
                obtain ⟨j, hj, rfl, mi, hwi⟩ := hrel
                have HWI := Lib.hid hwi
                have HQI := Lib.hid (show Solo w wr b (giveS x th0) by rw [hwi]; exact HQF.out.drewN mi)
                have HDI2 := Lib.hid (show All wr w.heap.size _ (ds ++ [th0]) by rw [hwi]; exact HDF.out.drewN mi)
                clear hwi
                by_cases hjl : j < (hs).length
                · obtain ⟨vb, vo, hvo, hcell⟩ := HV.out (by omega)
                  cases hvo
                  have qv : wr.cell? ⟨ub, uo + j, none⟩ = some (.int .u64 ((hs).getD j 0)) := by rw [HWI.out]; exact hcell j hjl
                  have hj1 : (j : Int) < ((hs).length : Int) := by omega
                  have hth := mem_at hjl
                  have HTR := Lib.hid (HIF.out.inU HQF.out.2.1 _ hth)
                  generalize (hs).getD j 0 = th at *
                  clear hcell
                  by_cases hlv : liveL (giveS x th0) th
                  · have HLV := Lib.hid (fun (n : Nat) => live_yes b (giveS x th0) th (wr.drewN n) HTR.out.1 HTR.out.2 HQI.out.1 hlv)
                    have HHD := Lib.hid (fun (n : Nat) => has_noQ (wr.drewN n) _ (ds ++ [th0]) th HDI2.out ((HVF.out.liv th hth).1 hlv))
                    clear hlv hth
                    go_wp2_with fail
                    go_quiet (first | (go_at_call 24; exact Calls.quiet_of (HLV.out _)) | (go_at_call 30; exact Calls.quiet_of_same (HHD.out _)))
                    go_wp2_with fail
                    go_roundw
                    case rel => exact ⟨j + 1, by omega, by go_num, by rw [HWI.out]; exact drew2 _ _ _⟩
                    case measure => simp [intOf]; omega
                  · have HLV := Lib.hid (fun (n : Nat) => live_no b (giveS x th0) th (wr.drewN n) HTR.out.1 HTR.out.2 HQI.out.1 hlv)
                    have HHD := Lib.hid (fun (n : Nat) => has_yesQ (wr.drewN n) _ (ds ++ [th0]) th HDI2.out (Classical.byContradiction fun h => hlv ((HVF.out.liv th hth).2 h)))
                    clear hlv hth
                    go_wp2_with fail
                    go_quiet (first | (go_at_call 24; exact Calls.quiet_of (HLV.out _)) | (go_at_call 30; exact Calls.quiet_of_same (HHD.out _)))
                    go_wp2_with fail
                    go_roundw
                    case rel => exact ⟨j + 1, by omega, by go_num, by rw [HWI.out]; exact drew2 _ _ _⟩
                    case measure => simp [intOf]; omega
                · obtain rfl : j = (hs).length := by omega
                  go_wp2_with fail
                  go_roundw
                  case rel => exact ⟨k + 1, (giveS x th0), hs, (ds ++ [th0]), by omega, by omega, by go_num, HQI.out, (by rw [HWI.out]; exact HAF.out), HDI2.out, HIF.out, HVF.out, by omega, by rw [List.length_append]; simp; omega, HPF.out⟩
                  case measure => simp [intOf]; omega
            · have HG1 := Lib.hid (give_gone x th0 hl0)
              have hga := give_any b x th0 wr HTR0.out.1 HTR0.out.2 HQ.out.1 HQ.out.2.1
              rw [HG1.out.2.2] at hga
              have HFI := Lib.hid HQ.out.2.1
              have HIF := HIN
              have HVF := HDI
              rw [HG1.out.1] at hga
              have HGA := Lib.hid hga
              have HH0 := Lib.hid (fun w' (h : All w' w.heap.size u10 ds) => has_yes w' u10 ds th0 h (Classical.byContradiction fun h => hl0 ((HDI.out.liv th0 hmem).2 h)))
              clear hga hl0 hmem
              go_wp2_with fail
              refine (HMR.out _).mono ?_; rintro e w1 ⟨rfl, rfl⟩
              go_wp2_with fail
              refine (HMJ.out _).mono ?_; rintro e w1 ⟨rfl, rfl⟩
              go_wp2_with fail
              refine HGA.out.mono ?_; rintro e wF ⟨rfl, t1, k1⟩
              have HQF := Lib.hid (HQ.out.turn HFI.out t1 k1)
              have HAF := Lib.hid (HALL.out.keep HQ.out.1 k1)
              have HDF := Lib.hid (HDD.out.keep HQ.out.1 k1)
              have HPF := HAP
              clear t1 k1
              go_wp2_with fail
              refine (HH0.out _ HDF.out).mono ?_; rintro e w3 ⟨rfl, rfl⟩
              obtain ⟨va, vc, hve, hv⟩ := HAF.out.rs
              cases hve
              have HV := Lib.hid hv
              clear hv
              go_wp2_with fail
              go_loopw [17] (fun i wi => ∃ j : Nat, j ≤ (hs).length ∧ i = .int .i64 j ∧ ∃ m, wi = wF.drewN m) (fun i _ => (hs).length - (intOf i).toNat)
              case atStart => exact ⟨0, Nat.zero_le _, rfl, 0, rfl⟩
              case round =>
                obtain ⟨j, hj, rfl, mi, hwi⟩ := hrel
                have HWI := Lib.hid hwi
                have HQI := Lib.hid (show Solo w wr b x by rw [hwi]; exact HQF.out.drewN mi)
                have HDI2 := Lib.hid (show All wr w.heap.size _ ds by rw [hwi]; exact HDF.out.drewN mi)
                clear hwi
                by_cases hjl : j < (hs).length
                · obtain ⟨vb, vo, hvo, hcell⟩ := HV.out (by omega)
                  cases hvo
                  have qv : wr.cell? ⟨ub, uo + j, none⟩ = some (.int .u64 ((hs).getD j 0)) := by rw [HWI.out]; exact hcell j hjl
                  have hj1 : (j : Int) < ((hs).length : Int) := by omega
                  have hth := mem_at hjl
                  have HTR := Lib.hid (HIF.out.inU HQF.out.2.1 _ hth)
                  generalize (hs).getD j 0 = th at *
                  clear hcell
                  by_cases hlv : liveL x th
                  · have HLV := Lib.hid (fun (n : Nat) => live_yes b x th (wr.drewN n) HTR.out.1 HTR.out.2 HQI.out.1 hlv)
                    have HHD := Lib.hid (fun (n : Nat) => has_noQ (wr.drewN n) _ ds th HDI2.out ((HVF.out.liv th hth).1 hlv))
                    clear hlv hth
                    go_wp2_with fail
                    go_quiet (first | (go_at_call 24; exact Calls.quiet_of (HLV.out _)) | (go_at_call 30; exact Calls.quiet_of_same (HHD.out _)))
                    go_wp2_with fail
                    go_roundw
                    case rel => exact ⟨j + 1, by omega, by go_num, by rw [HWI.out]; exact drew2 _ _ _⟩
                    case measure => simp [intOf]; omega
                  · have HLV := Lib.hid (fun (n : Nat) => live_no b x th (wr.drewN n) HTR.out.1 HTR.out.2 HQI.out.1 hlv)
                    have HHD := Lib.hid (fun (n : Nat) => has_yesQ (wr.drewN n) _ ds th HDI2.out (Classical.byContradiction fun h => hlv ((HVF.out.liv th hth).2 h)))
                    clear hlv hth
                    go_wp2_with fail
                    go_quiet (first | (go_at_call 24; exact Calls.quiet_of (HLV.out _)) | (go_at_call 30; exact Calls.quiet_of_same (HHD.out _)))
                    go_wp2_with fail
                    go_roundw
                    case rel => exact ⟨j + 1, by omega, by go_num, by rw [HWI.out]; exact drew2 _ _ _⟩
                    case measure => simp [intOf]; omega
                · obtain rfl : j = (hs).length := by omega
                  go_wp2_with fail
                  go_roundw
                  case rel => exact ⟨k + 1, x, hs, ds, by omega, by omega, by go_num, HQI.out, (by rw [HWI.out]; exact HAF.out), HDI2.out, HIF.out, HVF.out, by omega, by omega, HPF.out⟩
                  case measure => simp [intOf]; omega
      · have hk2 : ¬ ((k : Int) < 60) := by omega
        go_wp2_with fail
        refine (awake_any _).mono ?_; rintro e w6 ⟨rfl, hb⟩
        have HB2 := Lib.hid (HQ.out.below hb).2.2.2
        clear hb
        go_wp2_with fail
        go_ret
        exact ⟨rfl, HB2.out⟩
    · obtain rfl : k = len := by omega
      go_wp2_with fail
      refine (awake_any _).mono ?_; rintro e w6 ⟨rfl, hb⟩
      have HB2 := Lib.hid (HQ.out.below hb).2.2.2
      clear hb
      go_wp2_with fail
      go_ret
      exact ⟨rfl, HB2.out⟩
end Go.Proofs.YtpcpjmgkdbgopaaDoor
