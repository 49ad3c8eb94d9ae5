/- Text: Format of the program: its walk. -/
import Derived.Test.YtdfkbahlngijcaaDoorVn
namespace Go.Proofs.YtdfkbahlngijcaaDoor
open Go.RowKit
set_option linter.unusedVariables false

set_option maxRecDepth 100000 in
set_option maxHeartbeats 16000000 in
theorem formatT_any (c : Cf) (po : Option Addr) (pn pc : Nat) (qo : Option Addr) (qn qc : Nat) (ss : List Pg) (ps : List Int) (w : World) (hp : IsPg w po pn ss) (hq : IsR fI w qo qn ps)
    (hct : c.t.size ≤ 140737488355328) (hpt : ∀ s ∈ ss, ∀ x ∈ s.l, x.t.size ≤ 140737488355) (hpn : pn ≤ 140737488355328) (hqn : qn ≤ 140737488355328) (hov : ∀ s ∈ ss, ∀ x ∈ s.l, OvOk x) (htab : Tab w) (hqc : qn ≤ qc) :
    Calls Tryd.prog 16 #[.agg #[.int .i64 c.slots, .int .u64 c.gens, .int .i64 c.clients, .int .i64 c.readers, .int .i64 c.queue, .int .i64 c.batch, .int .i64 c.feed, .string c.t, .slice po pn pc, .slice qo qn qc]] w fun e w' => e = .returned (.tuple #[.string ⟨(fmtR c ss ps).1.toArray⟩, .int .i64 (fmtR c ss ps).2]) ∧ Below w.heap.size w w' := by
  have HT := Lib.hid htab
  obtain ⟨i0, hi0, hz0, hz1, hz2⟩ := info_parts infoStr
  have hmf : ∀ (fn : Fn) (first cap : Array Value) (w : World), (Instr.makeFunc fn first cap).run Tryd.prog w = .ok (.func fn first cap) w := fun _ _ _ _ => rfl
  have HPW := Lib.hid hp
  have HQW := Lib.hid hq
  have HLN := Lib.hid (show ss.length = pn from hp.1.1)
  have HQN := Lib.hid (show ps.length = qn from hq.1)
  have HPT := Lib.hid hpt
  have HOV := Lib.hid hov
  have HFR := Lib.hid (show fmtR c ss ps = if scE c ss ps ≠ 0 then ([], scE c ss ps) else if 65536 < (fmtL c ss ps).length then ([], 5) else (fmtL c ss ps, 0) from rfl)
  have HB0 := Lib.hid ((Below.refl w.heap.size w).alloc (Nat.le_refl _) (.cells (scA c po pn pc qo qn qc) 42))
  have HNB := Lib.hid (block_new w (.cells (scA c po pn pc qo qn qc) 42))
  have HP := Lib.hid (hp.later HB0.out)
  have HQ := Lib.hid (hq.later HB0.out)
  have HCK := Lib.hid (check_sc c po pn pc qo qn qc ss ps _ HP.out HQ.out hct (fun s hs x hx => by have := hpt s hs x hx; omega) hpn hqn)
  have HSZ := Lib.hid (fun (h : scE c ss ps = 0) => scE_zero h)
  have HCZ := Lib.hid (fun (h : scE c ss ps = 0) => cfgZ_of (scE_zero h).cfg)
  have HCT := Lib.hid (fun (h : scE c ss ps = 0) => (cfg_zero (scE_zero h).cfg).2.2)
  have HFL := Lib.hid (fun (h : scE c ss ps = 0) => fmtL_len (scE_zero h) (fun s hs => (hp.2 s hs).1))
  have HFE := Lib.hid (show fmtL c ss ps = lineL (cfgW c) ++ (progT 0 ss ++ picksT ps) from rfl)
  have HV := Lib.hid (show cfgV c = [c.slots, c.gens, c.clients, c.readers, c.queue, c.batch, c.feed] from rfl)
  have HCE := Lib.hid (show lineL (cfgW c) = lineL ([[99, 111, 110, 102, 105, 103]] ++ (cfgV c).map numL ++ [quoteL c.t]) from rfl)
  have HCL := Lib.hid (show cfgE c = 0 → (lineL (cfgW c)).length ≤ 1200000 from fun h => cfgW_len (cfg_zero h).2.2)
  have HX0 := Lib.hid (show ∀ (b k : Nat) (u : World), u.heap[w.heap.size]? = some (.cells (scA c po pn pc qo qn qc) 42 (0, 0)) → u.heap[k]? = some (.cells (cC c) 38 (0, 0)) → u.heap[b]? = some (.cells #[.pointer none, .slice none 0 0] 75 (0, 0)) → Below w.heap.size w u → w.heap.size ≤ b → FmtS c po pn pc qo qn qc w w.heap.size b k [] u from fun b k u h1 h2 h3 h4 h5 =>
    ⟨⟨h1, h2⟩, ⟨_, .inl h3, ⟨rfl, .inl ⟨rfl, rfl⟩⟩, fun _ => rfl⟩, h4, h5⟩)
  have HXB := Lib.hid (show ∀ (b k : Nat) (l : List UInt8) (u : World), FmtS c po pn pc qo qn qc w w.heap.size b k l u → u.heap[w.heap.size]? = some (.cells (scA c po pn pc qo qn qc) 42 (0, 0)) ∧ u.heap[k]? = some (.cells (cC c) 38 (0, 0)) from fun b k l u h => ⟨h.box.box, h.box.cfg⟩)
  have HXL := Lib.hid (show ∀ (b k : Nat) (l : List UInt8) (u u' : World), FmtS c po pn pc qo qn qc w w.heap.size b k l u → Below u.heap.size u u' → FmtS c po pn pc qo qn qc w w.heap.size b k l u' from fun b k l u u' h hb => h.later hb)
  have HXW := Lib.hid (show ∀ (b k : Nat) (l : List UInt8) (u : World), FmtS c po pn pc qo qn qc w w.heap.size b k l u → Below w.heap.size w u from fun b k l u h => h.low)
  have HXG := Lib.hid (show ∀ (b k : Nat) (l : List UInt8) (u u' : World) (v : Value) (n : Nat) (xs : List Value), FmtS c po pn pc qo qn qc w w.heap.size b k l u → u.ownsRow w.heap.size 9 1 v n xs → u.grownBy u' v.ownBlock → FmtS c po pn pc qo qn qc w w.heap.size b k l u' from fun b k l u u' v n xs h ho hg => h.grown ho hg)
  have HXP := Lib.hid (show ∀ (b k : Nat) (l : List UInt8) (u : World) (v : Value) (ws : List (List UInt8)), FmtS c po pn pc qo qn qc w w.heap.size b k l u → u.ownsRow w.heap.size 9 1 v ws.length (flatR fS ws) → 0 < ws.length → ws.length ≤ 1000 → l.length + (joinW ws).length ≤ 1000000000 →
    Calls Tryd.prog 36 #[v, .pointer (some ⟨b, 0, none⟩)] u fun e w' => e = .returned (.tuple #[]) ∧ FmtS c po pn pc qo qn qc w w.heap.size b k (l ++ lineL ws) w' from fun b k l u v ws h ho h1 h2 h3 => put_own h ho h1 h2 h3)
  have HXQ := Lib.hid (show ∀ (b k : Nat) (l : List UInt8) (u : World) (ws : List (List UInt8)) (cs : Array Value) (n : Nat), FmtS c po pn pc qo qn qc w w.heap.size b k l u → cs = (ws.map fun x => Value.string ⟨x.toArray⟩).toArray → ws.length = n → n ≤ 1000 → l.length + (joinW ws).length ≤ 1000000000 →
    Calls Tryd.prog 36 #[.slice (some ⟨u.heap.size, 0, none⟩) n n, .pointer (some ⟨b, 0, none⟩)] (u.alloc (.cells cs 9)) fun e w' => e = .returned (.tuple #[]) ∧ FmtS c po pn pc qo qn qc w w.heap.size b k (l ++ lineL ws) w' from fun b k l u ws cs n h h1 h2 h3 h4 => put_lit h ws cs n _ h1 h2 h3 rfl h4)
  have HXN := Lib.hid (show ∀ (b k : Nat) (l : List UInt8) (u : World), FmtS c po pn pc qo qn qc w w.heap.size b k l u → Calls Tryd.prog 39 #[.pointer (some ⟨b, 0, none⟩)] u fun e w' => e = .returned (.int .i64 (l.length : Nat)) ∧ u = w' from fun b k l u h => h.len)
  have HXS := Lib.hid (show ∀ (b k : Nat) (l : List UInt8) (u : World), FmtS c po pn pc qo qn qc w w.heap.size b k l u → Calls Tryd.prog 40 #[.pointer (some ⟨b, 0, none⟩)] u fun e w' => e = .returned (.string ⟨l.toArray⟩) ∧ Below w.heap.size w w' from fun b k l u h => h.string)
  generalize FmtS c po pn pc qo qn qc w w.heap.size = FX at *
  generalize hE : scE c ss ps = E at *
  generalize fmtR c ss ps = R at *
  generalize fmtL c ss ps = F at *
  generalize lineL (cfgW c) = L0 at *
  have HHE := Lib.hid hE
  have HCFE := Lib.hid (show E = 0 → cfgE c = 0 from fun h => (scE_zero (HHE.out.trans h)).cfg)
  generalize cfgE c = CE at *
  have HVL := Lib.hid (show (cfgV c).length = 7 from rfl)
  generalize hV : cfgV c = V at *
  obtain ⟨ca, cb, cl, cd, ce, cf, cg, t⟩ := c
  unfold scA at HNB HB0 HP HQ HCK HX0 HXB
  unfold cC at HX0 HXB
  simp only at HNB HB0 HP HQ HCK HCZ HCT HV HCE HX0 HXB ⊢
  clear hE hp hq hpt hov hV htab
  have q0 := block_cell HNB.out 0
  have q1 := block_cell HNB.out 1
  have q2 := block_cell HNB.out 2
  have q3 := block_cell HNB.out 3
  have q4 := block_cell HNB.out 4
  have q5 := block_cell HNB.out 5
  have q6 := block_cell HNB.out 6
  have q7 := block_cell HNB.out 7
  have q8 := block_cell HNB.out 8
  have q9 := block_cell HNB.out 9
  simp at q0 q1 q2 q3 q4 q5 q6 q7 q8 q9
  go_enter Tryd.func16, Tryd.ntmps16
  go_wp2_with fail
  refine (HCK.out).mono ?_; rintro e w2 ⟨rfl, hb2⟩
  have HO2 := Lib.hid (block_below hb2 HNB.out (by simp))
  have HB2 := Lib.hid (HB0.out.trans (hb2.mono (by have := HB0.out.size; exact this)))
  have HLT := Lib.hid (block_lt HO2.out)
  have HP2 := Lib.hid (HP.out.later hb2)
  have HQ2 := Lib.hid (HQ.out.later hb2)
  clear hb2 HCK HB0 HNB q0 q1 q2 q3 q4 q5 q6 q7 q8 q9 HP HQ
  by_cases h0 : E = 0
  · have HZ := HSZ.out h0
    have HCZ2 := HCZ.out h0
    have hct2 := HCT.out h0
    have hfl := HFL.out h0
    have hl0 := HCL.out (HCFE.out h0)
    obtain ⟨h1, h2, h3, h4, h5, h6, h7⟩ := HCZ2
    have HFR2 := Lib.hid (show R = if 65536 < F.length then ([], 5) else (F, 0) by rw [HFR.out, if_neg (fun k => k h0)])
    subst h0
    have q0 := block_cell HO2.out 0
    have q1 := block_cell HO2.out 1
    have q2 := block_cell HO2.out 2
    have q3 := block_cell HO2.out 3
    have q4 := block_cell HO2.out 4
    have q5 := block_cell HO2.out 5
    have q6 := block_cell HO2.out 6
    have q7 := block_cell HO2.out 7
    simp at q0 q1 q2 q3 q4 q5 q6 q7
    simp only at h1 h2 h3 h4 h5 h6 h7 hct2
    have HRG := Lib.hid (And.intro h1 (And.intro h2 (And.intro h3 (And.intro h4 (And.intro h5 (And.intro h6 h7))))))
    clear h1 h2 h3 h4 h5 h6 h7 HSZ HCZ HCT HFL HCL HCFE HFR
    have hzz := block_lt HO2.out
    have hsz2 := HB2.out.size
    have HC3 := Lib.hid (block_new' (w2.alloc (.cells #[.pointer none, .slice none 0 0] 75)) (.cells #[.int .i64 ca, .int .u64 cb, .int .i64 cl, .int .i64 cd, .int .i64 ce, .int .i64 cf, .int .i64 cg, .string t] 38) (w2.heap.size + 1) (by simp))
    have HB3 := Lib.hid ((HB2.out.alloc hsz2 (.cells #[.pointer none, .slice none 0 0] 75)).alloc (by simp; omega) (.cells #[.int .i64 ca, .int .u64 cb, .int .i64 cl, .int .i64 cd, .int .i64 ce, .int .i64 cf, .int .i64 cg, .string t] 38))
    have HFX := Lib.hid (HX0.out w2.heap.size (w2.heap.size + 1) ((w2.alloc (.cells #[.pointer none, .slice none 0 0] 75)).alloc (.cells #[.int .i64 ca, .int .u64 cb, .int .i64 cl, .int .i64 cd, .int .i64 ce, .int .i64 cf, .int .i64 cg, .string t] 38)) (block_alloc (block_alloc HO2.out _) _) HC3.out (block_alloc (block_new w2 _) _) HB3.out hsz2)
    have HP3 := Lib.hid (HP2.out.later (((Below.refl _ w2).alloc (Nat.le_refl _) (.cells #[.pointer none, .slice none 0 0] 75)).alloc (by simp) (.cells #[.int .i64 ca, .int .u64 cb, .int .i64 cl, .int .i64 cd, .int .i64 ce, .int .i64 cf, .int .i64 cg, .string t] 38)))
    have HQ3 := Lib.hid (HQ2.out.later (((Below.refl _ w2).alloc (Nat.le_refl _) (.cells #[.pointer none, .slice none 0 0] 75)).alloc (by simp) (.cells #[.int .i64 ca, .int .u64 cb, .int .i64 cl, .int .i64 cd, .int .i64 ce, .int .i64 cf, .int .i64 cg, .string t] 38)))
    have HT3 := Lib.hid (HT.out.below HB3.out)
    have HCA := Lib.hid (show numOK ca from ⟨by have := HRG.out.1; omega, by have := HRG.out.1; omega⟩)
    have HCB := Lib.hid (show numOK cb from ⟨by have := HRG.out.2.1; omega, by have := HRG.out.2.1; omega⟩)
    have b0 := block_new' w2 (.cells #[.pointer none, .slice none 0 0] 75) w2.heap.size rfl
    go_upto_region 7 with (fail)
    generalize hw3 : World.alloc (World.alloc w2 _) _ = w3 at *
    clear hw3 hmf b0 q0 q1 q2 q3 q4 q5 q6 q7 HO2 HB2 HP2 HQ2 HLT HX0
    generalize hbz : w2.heap.size = bz at *
    have n0 := block_cell HC3.out 0
    have n1 := block_cell HC3.out 1
    simp at n0 n1
    have HI := Lib.hid (itoa_num ca HCA.out w3.drew (HT3.out.below (Below.refl _ w3).drew))
    have HJ := Lib.hid (fun (u : World) (hu : Below w3.heap.size w3 u) => fmtU_num cb HCB.out u (HT3.out.below hu))
    clear hbz
    go_cut [8] from 27 to 33 (fun v8 wq => wq.ownsRow w.heap.size 9 1 v8 3 (flatR fS [[99, 111, 110, 102, 105, 103], numL ca, numL cb]) ∧ FX bz (bz + 1) [] wq)
    case first =>
     go_region_law (first
      | (go_simp; go_at_call 27; refine HI.out.mono ?_; rintro e w4 ⟨rfl, hb4'⟩; have HB4 := Lib.hid (show Below w3.heap.size w3 w4 from (Below.refl _ w3).drew.trans hb4'); clear hb4'; have n1b := block_cell (block_below HB4.out HC3.out (block_lt HC3.out)) 1; simp at n1b)
      | (go_simp; go_at_call 38; refine (HJ.out w4 HB4.out).mono ?_; rintro e w5 ⟨rfl, hb5'⟩; have HB5 := Lib.hid (below_two HB4.out hb5'); clear hb5'))
     all_goals
      have hs5 := HB5.out.size
      have HO6 := Lib.hid (own_lit w5 w.heap.size [[99, 111, 110, 102, 105, 103], numL ca, numL cb] #[.string ⟨#[99, 111, 110, 102, 105, 103]⟩, .string ⟨(numL ca).toArray⟩, .string ⟨(numL cb).toArray⟩] 3 rfl rfl (by decide) (by have := HB3.out.size; omega))
      have HF6 := Lib.hid (HXL.out _ _ _ _ _ HFX.out (HB5.out.alloc hs5 (.cells #[.string ⟨#[99, 111, 110, 102, 105, 103]⟩, .string ⟨(numL ca).toArray⟩, .string ⟨(numL cb).toArray⟩] 9)))
      go_wp2_with fail
      go_meet
      case rel => first | exact ⟨HO6.out, HF6.out⟩ | exact ⟨HO6.out.drew, HXL.out _ _ _ _ _ HF6.out (Below.refl _ _).drew⟩
    case rest =>
      obtain ⟨hown, hfx⟩ := hcut
      have HN := Lib.hid (show lineL ([[99, 111, 110, 102, 105, 103]] ++ V.map numL ++ [quoteL t]) = lineL (([[99, 111, 110, 102, 105, 103], numL ca, numL cb] ++ [cl, cd, ce, cf, cg].map numL) ++ [quoteL t]) by rw [HV.out]; rfl)
      obtain ⟨U, hU⟩ : ∃ U : List Int, U = [cl, cd, ce, cf, cg] := ⟨_, rfl⟩
      have HUO := Lib.hid (show ∀ v ∈ U, numOK v from fun v hv => by
        rw [hU] at hv
        obtain ⟨-, -, h3, h4, h5, h6, h7⟩ := HRG.out
        simp only [List.mem_cons, List.not_mem_nil, or_false] at hv
        rcases hv with rfl | rfl | rfl | rfl | rfl <;> exact ⟨by omega, by omega⟩)
      rw [← hU] at HN
      have HUL := Lib.hid (show U.length = 5 by rw [hU]; rfl)
      have HUC := Lib.hid (show (#[.int .i64 cl, .int .i64 cd, .int .i64 ce, .int .i64 cf, .int .i64 cg] : Array Value) = (U.map (Value.int .i64)).toArray by rw [hU]; rfl)
      have HOWN := Lib.hid hown
      have HFXC := Lib.hid hfx
      obtain ⟨hpc0, hpc8⟩ := HRG.out.2.2.1
      have hp8 : pn ≤ 8 := by have := HZ.num; simp only [HLN.out] at this; omega
      have hpq := HZ.pn
      rw [HQN.out] at hpq
      have HPK := Lib.hid HZ.pk
      have HPG := Lib.hid (progE_zero HZ.prog)
      clear hU hown hfx HZ HI HJ n0 n1 HC3 HFX hpc0
      have n2 := block_cell (HXB.out _ _ _ _ HFXC.out).2 2
      have n3 := block_cell (HXB.out _ _ _ _ HFXC.out).2 3
      have n4 := block_cell (HXB.out _ _ _ _ HFXC.out).2 4
      have n5 := block_cell (HXB.out _ _ _ _ HFXC.out).2 5
      have n6 := block_cell (HXB.out _ _ _ _ HFXC.out).2 6
      simp at n2 n3 n4 n5 n6
      have HFD := Lib.hid (HXL.out _ _ _ _ _ HFXC.out ((Below.refl _ wc).alloc (Nat.le_refl _) (.cells #[.int .i64 cl, .int .i64 cd, .int .i64 ce, .int .i64 cf, .int .i64 cg] 3)))
      have HOD := Lib.hid (own_below HOWN.out ((Below.refl _ wc).alloc (Nat.le_refl _) (.cells #[.int .i64 cl, .int .i64 cd, .int .i64 ce, .int .i64 cf, .int .i64 cg] 3)))
      have HUD := Lib.hid (block_new wc (.cells #[.int .i64 cl, .int .i64 cd, .int .i64 ce, .int .i64 cf, .int .i64 cg] 3))
      rw [HUC.out] at HUD
      go_wp2_with fail
      clear n2 n3 n4 n5 n6
      rw [HUC.out] at HFD HOD ⊢
      generalize wc.alloc (.cells (U.map (Value.int .i64)).toArray 3) = wd at *
      generalize wc.heap.size = bn at *
      go_loopw [8, 46] (fun s8 s46 wr => ∃ (i : Nat) (ws : List (List UInt8)), i ≤ 5 ∧ s46 = .int .i64 i ∧ wr.ownsRow w.heap.size 9 1 s8 ws.length (flatR fS ws) ∧ ws = [[99, 111, 110, 102, 105, 103], numL ca, numL cb] ++ (U.take i).map numL ∧ ws.length = 3 + i ∧ wr.heap[bn]? = some (.cells (U.map (Value.int .i64)).toArray 3 (0, 0)) ∧ FX bz (bz + 1) [] wr) (fun _ s46 _ => 5 - (intOf s46).toNat)
      case atStart => exact ⟨0, [[99, 111, 110, 102, 105, 103], numL ca, numL cb], by omega, rfl, HOD.out, rfl, rfl, HUD.out, HFD.out⟩
      case round =>
        obtain ⟨i, ws, hi, rfl, hown, hws, hwl, hub, hfx⟩ := hrel
        have HOWN := Lib.hid hown
        have HFXR := Lib.hid hfx
        have HWS := Lib.hid hws
        have HUB := Lib.hid hub
        have HWL0 := Lib.hid hwl
        have hwb : ws.length ≤ 8 := by omega
        clear hwl
        have hlo := (HXW.out _ _ _ _ hfx).size
        have HTR := Lib.hid (HT.out.below (HXW.out _ _ _ _ hfx))
        clear hown hfx hws HOD HUD HFD
        by_cases hlt : i < 5
        · as_aux_lemma =>
            have hlt1 : (i : Int) < 5 := by omega
            have hi0' : (0 : Int) ≤ (i : Int) := by omega
            have hvl : i < U.length := by rw [HUL.out]; exact hlt
            have hcu := int_cell hub hvl
            have HTK := Lib.hid (take_V hvl [[99, 111, 110, 102, 105, 103], numL ca, numL cb])
            have HXO := Lib.hid (HUO.out _ (List.getElem_mem hvl))
            generalize U[i] = x at *
            have HIX := Lib.hid (itoa_num x HXO.out wr HTR.out)
            obtain ⟨ao8, cap8, rfl, -⟩ := own_form HOWN.out
            clear hub hvl
            go_wp2_with fail
            refine (HIX.out).mono ?_; rintro e4 w4 ⟨rfl, hb4⟩
            have HO4 := Lib.hid (own_below HOWN.out hb4)
            have HF4 := Lib.hid (HXL.out _ _ _ _ _ HFXR.out hb4)
            have HU4 := Lib.hid (block_below hb4 HUB.out (block_lt HUB.out))
            have hs4 := hb4.size
            clear hb4 HIX hcu HOWN HFXR HUB
            go_wp2_with (at_builtin; refine wpList_append_lies _ rfl _ _ 59 rfl w.heap.size 9 i0 _ 1 16 Tryd.underlying59 hi0 hz0 hz1 hz2 rfl (by decide) _ ws.length _ rfl (HO4.out.alloc _) ⟨w4.heap.size, 0, none⟩ 1 1 [.string ⟨(numL x).toArray⟩] rfl rfl (World.news_of_block (cs := #[_]) (t := 9) (fr := (0, 0)) (heap_alloc_new w4 _)) (by simp [Value.oneCell']) (by omega) (by unfold maxLen; omega) (by omega) (by simp; omega) (w4.heap.size + 1) (by simp) ?c1)
            case c1 =>
              intro gg cap w5 hown5 hgrow5 hat5 hlt5
              have HF5 := Lib.hid (HXG.out _ _ _ _ _ _ _ _ (HXL.out _ _ _ _ _ HF4.out ((Below.refl _ _).alloc (Nat.le_refl _) _)) (HO4.out.alloc _) hgrow5)
              have HU5 := Lib.hid (keep_append HO4.out HU4.out (by decide) hgrow5 (block_alloc HU4.out _))
              have HO5 := Lib.hid (show w5.ownsRow w.heap.size 9 1 (.slice (some ⟨gg, 0, none⟩) (ws.length + 1) cap) (ws ++ [numL x]).length (flatR fS (ws ++ [numL x])) by
                rw [flatS_app, flatS_one, List.length_append]; exact hown5)
              have HWL := Lib.hid (show (ws ++ [numL x]).length = 3 + (i + 1) by rw [List.length_append, HWL0.out]; rfl)
              have HWS2 := Lib.hid (show ws ++ [numL x] = [[99, 111, 110, 102, 105, 103], numL ca, numL cb] ++ (U.take (i + 1)).map numL by rw [HTK.out, HWS.out])
              clear hown5 hgrow5 hat5 hlt5 HO4 HF4 HU4
              go_wp2_with fail
              go_roundw
              case rel => exact ⟨i + 1, ws ++ [numL x], by omega, by go_num, HO5.out, HWS2.out, HWL.out, HU5.out, HF5.out⟩
              case measure => (simp [intOf] <;> omega)
        · obtain rfl : i = 5 := by omega
          have hlt1 : ¬ (((5 : Nat) : Int) < 5) := by omega
          have HWS2 := Lib.hid (show ws = [[99, 111, 110, 102, 105, 103], numL ca, numL cb] ++ U.map numL by rw [HWS.out, List.take_of_length_le (by rw [HUL.out]; omega)])
          have n7 := block_cell (HXB.out _ _ _ _ HFXR.out).2 7
          simp at n7
          have HQS := Lib.hid (quote_any t wr (by omega))
          obtain ⟨ao8, cap8, rfl, -⟩ := own_form HOWN.out
          clear hlt hub HWS HUB
          go_wp2_with fail
          refine (HQS.out).mono ?_; rintro e4 w4 ⟨rfl, hb4⟩
          have HO4 := Lib.hid (own_below HOWN.out hb4)
          have HF4 := Lib.hid (HXL.out _ _ _ _ _ HFXR.out hb4)
          have hs4 := hb4.size
          clear hb4 HQS HOWN HFXR n7
          go_wp2_with (at_builtin; refine wpList_append_lies _ rfl _ _ 59 rfl w.heap.size 9 i0 _ 1 16 Tryd.underlying59 hi0 hz0 hz1 hz2 rfl (by decide) _ ws.length _ rfl (HO4.out.alloc _) ⟨w4.heap.size, 0, none⟩ 1 1 [.string ⟨(quoteL t).toArray⟩] rfl rfl (World.news_of_block (cs := #[_]) (t := 9) (fr := (0, 0)) (heap_alloc_new w4 _)) (by simp [Value.oneCell']) (by omega) (by unfold maxLen; omega) (by omega) (by simp; omega) (w4.heap.size + 1) (by simp) ?c1)
          case c1 =>
            intro gg cap w5 hown5 hgrow5 hat5 hlt5
            have HF5 := Lib.hid (HXG.out _ _ _ _ _ _ _ _ (HXL.out _ _ _ _ _ HF4.out ((Below.refl _ _).alloc (Nat.le_refl _) _)) (HO4.out.alloc _) hgrow5)
            have HO5 := Lib.hid (show w5.ownsRow w.heap.size 9 1 (.slice (some ⟨gg, 0, none⟩) (ws.length + 1) cap) (ws ++ [quoteL t]).length (flatR fS (ws ++ [quoteL t])) by
              rw [flatS_app, flatS_one, List.length_append]; exact hown5)
            have HL0 := Lib.hid (show lineL (ws ++ [quoteL t]) = L0 by rw [HCE.out, HN.out, HWS2.out])
            have HPU := Lib.hid (HXP.out _ _ _ _ _ _ HF5.out HO5.out (by rw [List.length_append]; simp) (by rw [List.length_append, HWL0.out]; show 3 + 5 + 1 ≤ 1000; decide) (by
              have h1 : (lineL (ws ++ [quoteL t])).length = (joinW (ws ++ [quoteL t])).length + 1 := by unfold lineL; rw [List.length_append]; rfl
              rw [HL0.out] at h1
              rw [List.length_nil]; omega))
            rw [HL0.out, List.nil_append] at HPU
            clear hown5 hgrow5 hat5 hlt5 HO4 HF4
            go_wp2_with fail
            refine (HPU.out).mono ?_; rintro e6 w6 ⟨rfl, hfx6⟩
            have HF6 := Lib.hid hfx6
            clear hfx6 HPU HF5 HO5
            have q8 := block_cell (HXB.out _ _ _ _ HF6.out).1 8
            simp at q8
            clear hi0 hz0 hz1 hz2 HV HCE HN HUO HUL HUC HRG HCA HCB HWS2 HL0 HWL0 hwb hlo HTR HXG HXP HB3 HP3 HQ3 HT3 HHE hsz2 hzz HOWN HFXC
            go_wp2_with fail
            clear q8
            go_loopw [67] (fun s67 wr => ∃ (i : Nat) (A : List UInt8), i ≤ pn ∧ s67 = .int .i64 i ∧ A ++ (progT i (ss.drop i) ++ picksT ps) = F ∧ FX bz (bz + 1) A wr) (fun s67 _ => pn - (intOf s67).toNat)
            case atStart => exact ⟨0, L0, Nat.zero_le _, rfl, HFE.out.symm, HF6.out⟩
            case round =>
              clear HF6
              obtain ⟨i, A, hi, rfl, hA, hfx⟩ := hrel
              have HA := Lib.hid hA
              have HFXR := Lib.hid hfx
              have HBR := Lib.hid (HXW.out _ _ _ _ hfx)
              have hAL : A.length ≤ 300000000 := cat_lt hA hfl
              clear hA hfx
              by_cases hlt : i < pn
              · as_aux_lemma =>
                  have hlt' : (i : Int) < (pn : Int) := by omega
                  have hi0' : (0 : Int) ≤ (i : Int) := by omega
                  have HIL := Lib.hid (show i < ss.length by rw [HLN.out]; exact hlt)
                  obtain ⟨bp, op, rfl, hbp, hcl⟩ := HPW.out.at HBR.out hlt
                  have c0 := hcl HIL.out
                  have HOPS := Lib.hid (HPW.out.2 (ss[i]'HIL.out) (List.getElem_mem _))
                  have HPX := Lib.hid (HPT.out (ss[i]'HIL.out) (List.getElem_mem _))
                  have HOX := Lib.hid (HOV.out (ss[i]'HIL.out) (List.getElem_mem _))
                  have HPGX := Lib.hid (HPG.out (ss[i]'HIL.out) (List.getElem_mem _))
                  have HA2 := Lib.hid (show A ++ (lineL (clientW i) ++ (opsT (ss[i]'HIL.out).l ++ progT (i + 1) (ss.drop (i + 1))) ++ picksT ps) = F by rw [← progT_at HIL.out]; exact HA.out)
                  generalize ss[i]'HIL.out = p at *
                  obtain ⟨sa, sn, sc, sl⟩ := p
                  have HOPS2 := Lib.hid (show IsR fO w sa sn sl from HOPS.out)
                  have HPX2 := Lib.hid (show ∀ x ∈ sl, x.t.size ≤ 140737488355 from HPX.out)
                  have HOX2 := Lib.hid (show ∀ x ∈ sl, OvOk x from HOX.out)
                  have HSN := Lib.hid (show sl.length = sn from HOPS.out.1)
                  have hsn : sn ≤ 256 := HPGX.out.1
                  have HPL := Lib.hid (show ∀ x ∈ sl, plainO x = true from fun x hx => List.all_eq_true.1 HPGX.out.2 x hx)
                  replace HA2 := Lib.hid (show A ++ (lineL (clientW i) ++ (opsT sl ++ progT (i + 1) (ss.drop (i + 1))) ++ picksT ps) = F from HA2.out)
                  replace c0 : wr.cell? ⟨bp, op + i, none⟩ = some (.slice sa sn sc) := c0
                  clear HOPS HPX HOX HPGX hcl HA
                  have HIX := Lib.hid (itoa_num (i : Int) ⟨by omega, by omega⟩ wr (HT.out.below HBR.out))
                  have hcw : (joinW (clientW i)).length ≤ 18 := by
                    have := clientW_len i
                    unfold lineL at this
                    rw [List.length_append] at this
                    omega
                  have HCW := Lib.hid hcw
                  clear hcw
                  go_wp2_with fail
                  refine (HIX.out).mono ?_; rintro e3 w4 ⟨rfl, hb3⟩
                  have HF4 := Lib.hid (HXL.out _ _ _ _ _ HFXR.out hb3)
                  have HPQ := Lib.hid (HXQ.out _ _ _ _ (clientW i) #[.string ⟨#[99, 108, 105, 101, 110, 116]⟩, .string ⟨(numL i).toArray⟩] 2 HF4.out rfl rfl (by decide) (by have := HCW.out; omega))
                  clear hb3 HIX HFXR HBR c0
                  go_wp2_with fail
                  refine (HPQ.out).mono ?_; rintro e5 w5 ⟨rfl, hfx5⟩
                  have HF5 := Lib.hid hfx5
                  clear hfx5 HPQ HF4
                  go_wp2_with fail
                  go_loopw [79] (fun s79 wr => ∃ (j : Nat) (B : List UInt8), j ≤ sn ∧ s79 = .int .i64 j ∧ B ++ (opsT (sl.drop j) ++ (progT (i + 1) (ss.drop (i + 1)) ++ picksT ps)) = F ∧ FX bz (bz + 1) B wr) (fun s79 _ => sn - (intOf s79).toNat)
                  case atStart => exact ⟨0, _, Nat.zero_le _, rfl, by have := HA2.out; simpa only [List.append_assoc, List.drop_zero] using this, HF5.out⟩
                  case round =>
                    clear HF5 HA2 hAL HCW
                    obtain ⟨j, B, hj, rfl, hB, hfx⟩ := hrel
                    have HB := Lib.hid hB
                    have HFXJ := Lib.hid hfx
                    have HBJ := Lib.hid (HXW.out _ _ _ _ hfx)
                    have hBL : B.length ≤ 300000000 := cat_lt hB hfl
                    clear hB hfx
                    by_cases hlj : j < sn
                    · as_aux_lemma =>
                        have hlj' : (j : Int) < (sn : Int) := by omega
                        have hj0 : (0 : Int) ≤ (j : Int) := by omega
                        have HJL := Lib.hid (show j < sl.length by rw [HSN.out]; exact hlj)
                        obtain ⟨bo, oo, rfl, hbo, hcl⟩ := HOPS2.out.op HBJ.out hlj
                        have hcl := hcl HJL.out
                        have HTX := Lib.hid (HPX2.out (sl[j]'HJL.out) (List.getElem_mem _))
                        have HO := Lib.hid (HOX2.out (sl[j]'HJL.out) (List.getElem_mem _))
                        have HPO := Lib.hid (HPL.out (sl[j]'HJL.out) (List.getElem_mem _))
                        have HB2 := Lib.hid (show B ++ (lineL [opL (sl[j]'HJL.out)] ++ opsT (sl.drop (j + 1)) ++ (progT (i + 1) (ss.drop (i + 1)) ++ picksT ps)) = F by rw [← opsT_at HJL.out]; exact HB.out)
                        generalize sl[j]'HJL.out = x at *
                        have d0 := hcl 0 _ rfl
                        have d1 := hcl 1 _ rfl
                        have d2 := hcl 2 _ rfl
                        have d3 := hcl 3 _ rfl
                        have d4 := hcl 4 _ rfl
                        have d5 := hcl 5 _ rfl
                        have d6 := hcl 6 _ rfl
                        rw [Nat.add_zero] at d0
                        have HOB := Lib.hid (block_new wr (.cells #[.int .u8 x.k, .int .i64 x.slot, .int .i64 x.at_, .int .i64 x.n, .int .u32 x.id, .int .u8 x.g, .string x.t] 51))
                        have HFA := Lib.hid (HXL.out _ _ _ _ _ HFXJ.out ((Below.refl _ wr).alloc (Nat.le_refl _) (.cells #[.int .u8 x.k, .int .i64 x.slot, .int .i64 x.at_, .int .i64 x.n, .int .u32 x.id, .int .u8 x.g, .string x.t] 51)))
                        have HCP := Lib.hid (opT_any x _ HO.out (by have := HTX.out; omega) (HT.out.below (HXW.out _ _ _ _ HFA.out)))
                        rw [show opR x = (opL x, 0) from if_pos HPO.out] at HCP
                        have hll := (joinW_opW x HPO.out).1
                        replace hll : (opL x).length ≤ 100000 := hll
                        generalize opL x = ol at *
                        have e0 := block_cell HOB.out 0
                        have e1 := block_cell HOB.out 1
                        have e2 := block_cell HOB.out 2
                        have e3 := block_cell HOB.out 3
                        have e4 := block_cell HOB.out 4
                        have e5 := block_cell HOB.out 5
                        have e6 := block_cell HOB.out 6
                        simp at e0 e1 e2 e3 e4 e5 e6
                        clear hcl
                        go_wp2_with fail
                        refine (HCP.out).mono ?_; rintro e w5 ⟨rfl, hb5⟩
                        have HF5 := Lib.hid (HXL.out _ _ _ _ _ HFA.out hb5)
                        have HPQ := Lib.hid (HXQ.out _ _ _ _ [ol] #[.string ⟨ol.toArray⟩] 1 HF5.out rfl rfl (by decide) (by show B.length + ol.length ≤ _; omega))
                        clear hb5 d0 d1 d2 d3 d4 d5 d6 e0 e1 e2 e3 e4 e5 e6 HCP HFA HOB HFXJ HBJ
                        go_wp2_with fail
                        refine (HPQ.out).mono ?_; rintro e7 w7 ⟨rfl, hfx7⟩
                        have HF7 := Lib.hid hfx7
                        clear hfx7 HPQ HF5
                        go_wp2_with fail
                        go_roundw
                        case rel => exact ⟨j + 1, _, by omega, by go_num, by have := HB2.out; simpa only [List.append_assoc] using this, HF7.out⟩
                        case measure => (simp [intOf] <;> omega)
                    · as_aux_lemma =>
                        obtain rfl : j = sn := by omega
                        have hlj' : ¬ ((j : Int) < (j : Int)) := by omega
                        have HBE := Lib.hid (show B ++ (progT (i + 1) (ss.drop (i + 1)) ++ picksT ps) = F by
                          have := HB.out
                          rw [List.drop_of_length_le (show sl.length ≤ j by rw [HSN.out]; omega)] at this
                          exact this)
                        clear hlj
                        go_wp2_with fail
                        go_roundw
                        case rel => exact ⟨i + 1, _, by omega, by go_num, HBE.out, HFXJ.out⟩
                        case measure => (simp [intOf] <;> omega)
              · as_aux_lemma =>
                  obtain rfl : i = pn := by omega
                  have hlt' : ¬ ((i : Int) < (i : Int)) := by omega
                  have HAE := Lib.hid (show A ++ picksT ps = F by
                    have := HA.out
                    rw [List.drop_of_length_le (show ss.length ≤ i by rw [HLN.out]; omega)] at this
                    exact this)
                  have q9 := block_cell (HXB.out _ _ _ _ HFXR.out).1 9
                  simp at q9
                  clear hlt HA hAL
                  go_wp2_with fail
                  clear q9
                  go_loopw [17] (fun s17 wr => ∃ (k n c : Nat) (a : Option Addr) (B : List UInt8), k + n = qn ∧ s17 = .slice a n c ∧ n ≤ c ∧ IsR fI w a n (ps.drop k) ∧ B ++ picksT (ps.drop k) = F ∧ FX bz (bz + 1) B wr) (fun s17 _ => lenOf s17)
                  case atStart => exact ⟨0, qn, qc, qo, A, by omega, rfl, hqc, HQW.out, HAE.out, HFXR.out⟩
                  case round =>
                    clear HAE HFXR HBR
                    obtain ⟨k, n, cc, a, B, hkn, rfl, hnc, hr, hB, hfx⟩ := hrel
                    have HKN := Lib.hid hkn
                    have HR := Lib.hid hr
                    have HB := Lib.hid hB
                    have HFXK := Lib.hid hfx
                    have HBK := Lib.hid (HXW.out _ _ _ _ hfx)
                    have hBL : B.length ≤ 300000000 := cat_lt hB hfl
                    have hnq : n ≤ 65535 := by omega
                    clear hB hfx hkn
                    by_cases hn0 : 0 < n
                    · as_aux_lemma =>
                        have hn0' : (0 : Int) < (n : Int) := by omega
                        obtain ⟨bk, ok, rfl, hbk2, hcl⟩ := HR.out.pick HBK.out hn0
                        have HDL := Lib.hid (show (ps.drop k).length = n from hr.1)
                        have HK0 := Lib.hid (show 0 < (ps.drop k).length by rw [HDL.out]; exact hn0)
                        have HCK := Lib.hid (fun (u : World) (hu : Below w.heap.size w u) (m : Nat) (hm : m < n) => by obtain ⟨b', o', e', _, kk⟩ := HR.out.pick hu hm; cases e'; exact kk (by rw [HDL.out]; exact hm))
                        clear hcl hr
                        go_wp2_with fail
                        generalize wr = w5 at *
                        go_loopw [18] (fun s18 wr => ∃ (m : Nat), 1 ≤ m ∧ m ≤ n ∧ s18 = .int .i64 m ∧ (∀ i (h : i < (ps.drop k).length), i < m → (ps.drop k)[i] = (ps.drop k)[0]'HK0.out) ∧ FX bz (bz + 1) B wr) (fun s18 _ => n - (intOf s18).toNat)
                        case atStart => exact ⟨1, Nat.le_refl _, by omega, rfl, fun i h h2 => by
                          obtain rfl : i = 0 := by omega
                          rfl, HFXK.out⟩
                        case round =>
                          clear HBK HFXK
                          obtain ⟨m, hm1, hmn, rfl, heq, hfx⟩ := hrel
                          have HEQ := Lib.hid heq
                          have HFXM := Lib.hid hfx
                          have HBM := Lib.hid (HXW.out _ _ _ _ hfx)
                          have ck := HCK.out _ HBM.out 0 hn0
                          rw [Nat.add_zero] at ck
                          clear heq hfx
                          obtain ⟨v, hv⟩ : ∃ v, v = (ps.drop k)[0]'HK0.out := ⟨_, rfl⟩
                          have HVK := Lib.hid hv
                          rw [← hv] at ck
                          clear hv
                          by_cases hlm : m < n
                          · have hlm' : (m : Int) < (n : Int) := by omega
                            have hm0 : (0 : Int) ≤ (m : Int) := by omega
                            have HML := Lib.hid (show m < (ps.drop k).length by rw [HDL.out]; exact hlm)
                            have cm := HCK.out _ HBM.out m hlm
                            obtain ⟨u, hu⟩ : ∃ u, u = (ps.drop k)[m]'HML.out := ⟨_, rfl⟩
                            have HUM := Lib.hid hu
                            rw [← hu] at cm
                            clear hu
                            by_cases huv : u = v
                            · as_aux_lemma =>
                                have HEQ2 := Lib.hid (show ∀ i (h : i < (ps.drop k).length), i < m + 1 → (ps.drop k)[i] = (ps.drop k)[0]'HK0.out from fun i h h2 => by
                                  rcases Nat.lt_or_ge i m with h3 | h3
                                  · exact HEQ.out i h h3
                                  · obtain rfl : i = m := by omega
                                    rw [← HUM.out, ← HVK.out]; exact huv)
                                have hb1 : (u == v) = true := by rw [beq_iff_eq]; exact huv
                                clear huv
                                go_wp2_with fail
                                go_quiet (fail)
                                go_wp2_with fail
                                go_roundw
                                case rel => exact ⟨m + 1, by omega, by omega, by go_num, HEQ2.out, HXL.out _ _ _ _ _ HFXM.out (below_drewN (Below.refl _ _) _)⟩
                                case measure => (simp [intOf] <;> omega)
                            · as_aux_lemma =>
                                have hb1 : (u == v) = false := by rw [beq_eq_false_iff_ne]; exact huv
                                have HUV := Lib.hid huv
                                clear huv
                                have HRUN := Lib.hid (show picksT (ps.drop k) = lineL (pickW v m) ++ picksT (ps.drop (k + m)) by
                                  have := picksT_run (l := ps.drop k) (q := (ps.drop k)[0]'HK0.out) (n := m) hm1 (by rw [HDL.out]; exact hmn) (fun i h hi => HEQ.out i h hi) (fun h => by rw [← HUM.out, ← HVK.out]; exact HUV.out)
                                  rw [List.drop_drop, ← HVK.out] at this
                                  exact this)
                                have HNV := Lib.hid (show numOK v by
                                  have h1 := HPK.out v (by rw [HVK.out]; exact List.mem_of_mem_drop (List.getElem_mem _))
                                  exact ⟨h1.1, by omega⟩)
                                have HN1 := Lib.hid (fun (u : World) (hu : Below w.heap.size w u) => itoa_num v HNV.out u (HT.out.below hu))
                                have HN2 := Lib.hid (fun (u : World) (hu : Below w.heap.size w u) => itoa_num (m : Int) ⟨by omega, by omega⟩ u (HT.out.below hu))
                                have hpw : (joinW (pickW v m)).length ≤ 27 := by
                                  have := pickW_len v m
                                  unfold lineL at this
                                  rw [List.length_append] at this
                                  omega
                                have HPW2 := Lib.hid hpw
                                have HDR := Lib.hid (show IsR fI w (some ⟨bk, ok + m, none⟩) (n - m) (ps.drop (k + m)) by
                                  rw [← List.drop_drop]; exact isI_drop HR.out hmn)
                                have HDN := Lib.hid (show ∀ a : Option Addr, n = m → IsR fI w a 0 (ps.drop (k + m)) from fun a e => by
                                  have h1 : ps.drop (k + m) = [] := by
                                    rw [← List.drop_drop]
                                    exact List.drop_of_length_le (by rw [HDL.out]; omega)
                                  rw [h1]; exact IsR.nil _ _ _)
                                clear hpw
                                go_wp2_with fail
                                go_quiet (fail)
                                have HFXN := Lib.hid (HXL.out _ _ _ _ _ HFXM.out (below_drewN (Below.refl _ _) nq))
                                go_wp2_with fail
                                refine (HN1.out _ (HXW.out _ _ _ _ HFXN.out)).mono ?_; rintro e3 w6 ⟨rfl, hb3⟩
                                have HF6 := Lib.hid (HXL.out _ _ _ _ _ HFXN.out hb3)
                                clear hb3 HN1 ck
                                go_wp2_with fail
                                refine (HN2.out _ (HXW.out _ _ _ _ HF6.out)).mono ?_; rintro e3 w7 ⟨rfl, hb3⟩
                                have HF7 := Lib.hid (HXL.out _ _ _ _ _ HF6.out hb3)
                                have HPQ := Lib.hid (HXQ.out _ _ _ _ (pickW v m) #[.string ⟨#[112, 105, 99, 107]⟩, .string ⟨(numL v).toArray⟩, .string ⟨(numL m).toArray⟩] 3 HF7.out rfl rfl (by decide) (by have := HPW2.out; omega))
                                clear hb3 HN2
                                go_wp2_with fail
                                refine (HPQ.out).mono ?_; rintro e5 w8 ⟨rfl, hfx8⟩
                                have HF8 := Lib.hid hfx8
                                clear hfx8 HPQ HF7 HF6
                                have HBX := Lib.hid (show (B ++ lineL (pickW v m)) ++ picksT (ps.drop (k + m)) = F by have := HB.out; rw [HRUN.out, ← List.append_assoc] at this; exact this)
                                have hmc : m ≤ cc := by omega
                                by_cases hcm : m < cc
                                · have hcm1 : (m : Int) < (cc : Int) := by omega
                                  go_wp2_with fail
                                  go_roundw
                                  case rel => exact ⟨k + m, n - m, cc - m, _, _, by have := HKN.out; omega, by first | rfl | go_num | simp, by omega, HDR.out, HBX.out, HF8.out⟩
                                  case measure => (simp [lenOf] <;> omega)
                                · obtain rfl : cc = m := by omega
                                  go_wp2_with fail
                                  go_roundw
                                  case rel => exact ⟨k + cc, 0, 0, some ⟨bk, ok, none⟩, _, by have := HKN.out; omega, rfl, Nat.le_refl _, HDN.out _ (by first | trivial | omega), HBX.out, HF8.out⟩
                                  case measure => (simp [lenOf] <;> omega)
                          · as_aux_lemma =>
                              obtain rfl : n = m := by omega
                              have hlm' : ¬ ((n : Int) < (n : Int)) := by omega
                              have hlmd := decide_eq_false hlm'
                              clear hlm
                              have HRUN := Lib.hid (show picksT (ps.drop k) = lineL (pickW v n) ++ picksT (ps.drop (k + n)) by
                                have := picksT_run (l := ps.drop k) (q := (ps.drop k)[0]'HK0.out) (n := n) hm1 (by rw [HDL.out]; exact hmn) (fun i h hi => HEQ.out i h hi) (fun h => absurd h (by rw [HDL.out]; omega))
                                rw [List.drop_drop, ← HVK.out] at this
                                exact this)
                              have HNV := Lib.hid (show numOK v by
                                have h1 := HPK.out v (by rw [HVK.out]; exact List.mem_of_mem_drop (List.getElem_mem _))
                                exact ⟨h1.1, by omega⟩)
                              have HN1 := Lib.hid (fun (u : World) (hu : Below w.heap.size w u) => itoa_num v HNV.out u (HT.out.below hu))
                              have HN2 := Lib.hid (fun (u : World) (hu : Below w.heap.size w u) => itoa_num (n : Int) ⟨by omega, by omega⟩ u (HT.out.below hu))
                              have hpw : (joinW (pickW v n)).length ≤ 27 := by
                                have := pickW_len v n
                                unfold lineL at this
                                rw [List.length_append] at this
                                omega
                              have HPW2 := Lib.hid hpw
                              have HDR := Lib.hid (show IsR fI w (some ⟨bk, ok + n, none⟩) (n - n) (ps.drop (k + n)) by
                                rw [← List.drop_drop]; exact isI_drop HR.out hmn)
                              have HDN := Lib.hid (show ∀ a : Option Addr, n = n → IsR fI w a 0 (ps.drop (k + n)) from fun a e => by
                                have h1 : ps.drop (k + n) = [] := by
                                  rw [← List.drop_drop]
                                  exact List.drop_of_length_le (by rw [HDL.out]; omega)
                                rw [h1]; exact IsR.nil _ _ _)
                              clear hpw
                              go_wp2_with fail
                              go_quiet (fail)
                              have HFXN := Lib.hid (HXL.out _ _ _ _ _ HFXM.out (below_drewN (Below.refl _ _) nq))
                              go_wp2_with fail
                              refine (HN1.out _ (HXW.out _ _ _ _ HFXN.out)).mono ?_; rintro e3 w6 ⟨rfl, hb3⟩
                              have HF6 := Lib.hid (HXL.out _ _ _ _ _ HFXN.out hb3)
                              clear hb3 HN1 ck
                              go_wp2_with fail
                              refine (HN2.out _ (HXW.out _ _ _ _ HF6.out)).mono ?_; rintro e3 w7 ⟨rfl, hb3⟩
                              have HF7 := Lib.hid (HXL.out _ _ _ _ _ HF6.out hb3)
                              have HPQ := Lib.hid (HXQ.out _ _ _ _ (pickW v n) #[.string ⟨#[112, 105, 99, 107]⟩, .string ⟨(numL v).toArray⟩, .string ⟨(numL n).toArray⟩] 3 HF7.out rfl rfl (by decide) (by have := HPW2.out; omega))
                              clear hb3 HN2
                              go_wp2_with fail
                              refine (HPQ.out).mono ?_; rintro e5 w8 ⟨rfl, hfx8⟩
                              have HF8 := Lib.hid hfx8
                              clear hfx8 HPQ HF7 HF6
                              have HBX := Lib.hid (show (B ++ lineL (pickW v n)) ++ picksT (ps.drop (k + n)) = F by have := HB.out; rw [HRUN.out, ← List.append_assoc] at this; exact this)
                              have hmc : n ≤ cc := by omega
                              by_cases hcm : n < cc
                              · have hcm1 : (n : Int) < (cc : Int) := by omega
                                go_wp2_with fail
                                go_roundw
                                case rel => exact ⟨k + n, n - n, cc - n, _, _, by have := HKN.out; omega, by first | rfl | go_num | simp, by omega, HDR.out, HBX.out, HF8.out⟩
                                case measure => (simp [lenOf] <;> omega)
                              · obtain rfl : cc = n := by omega
                                go_wp2_with fail
                                go_roundw
                                case rel => exact ⟨k + cc, 0, 0, some ⟨bk, ok, none⟩, _, by have := HKN.out; omega, rfl, Nat.le_refl _, HDN.out _ (by first | trivial | omega), HBX.out, HF8.out⟩
                                case measure => (simp [lenOf] <;> omega)
                    · as_aux_lemma =>
                        obtain rfl : n = 0 := by omega
                        have hn0' : ¬ ((0 : Int) < ((0 : Nat) : Int)) := by omega
                        have HBF := Lib.hid (show B = F by
                          have := HB.out
                          have h0 : ps.drop k = [] := List.eq_nil_of_length_eq_zero hr.1
                          rw [h0] at this
                          exact (List.append_nil _).symm.trans this)
                        have HLE := Lib.hid (HXN.out _ _ _ _ HFXK.out)
                        have HST := Lib.hid (HXS.out _ _ _ _ HFXK.out)
                        rw [HBF.out] at HLE HST
                        clear hn0 hr
                        by_cases h65 : 65536 < F.length
                        · have h65' : (65536 : Int) < (F.length : Int) := by omega
                          have HRR := Lib.hid (show R = ([], 5) by rw [HFR2.out, if_pos h65])
                          go_wp2_with fail
                          refine (HLE.out).mono ?_; rintro e9 w9 ⟨rfl, rfl⟩
                          go_wp2_with fail
                          go_ret2
                          exact ⟨by rw [HRR.out] <;> rfl, HBK.out⟩
                        · have h65' : ¬ ((65536 : Int) < (F.length : Int)) := by omega
                          have HRR := Lib.hid (show R = (F, 0) by rw [HFR2.out, if_neg h65])
                          go_wp2_with fail
                          refine (HLE.out).mono ?_; rintro e9 w9 ⟨rfl, rfl⟩
                          go_wp2_with fail
                          refine (HST.out).mono ?_; rintro e10 w10 ⟨rfl, hb10⟩
                          have HB10 := Lib.hid hb10
                          clear hb10
                          go_wp2_with fail
                          go_ret2
                          exact ⟨by rw [HRR.out] <;> rfl, HB10.out⟩
  · have HRR := Lib.hid (show R = ([], E) by rw [HFR.out, if_pos h0])
    have hE1 : (E == 0) = false := by rw [beq_eq_false_iff_ne]; exact h0
    have hE2 : (E != 0) = true := by rw [bne_iff_ne]; exact h0
    clear h0
    go_wp2_with fail
    go_ret2
    exact ⟨by rw [HRR.out] <;> rfl, HB2.out⟩
end Go.Proofs.YtdfkbahlngijcaaDoor

