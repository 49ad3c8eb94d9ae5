/- The arena: the law ArenaTrees. -/
import Derived.Test.YtfgkbnnojogjpaaQt
import Derived.Deep.QuietTactic
import Derived.BigQuiet
namespace Go.Proofs.Ytfgkbnnojogjpaa
open Go.RowKit
set_option linter.unusedVariables false

def TI (A : AS) : Prop := ∀ p ∈ A.it, ∀ k ∈ p.2.kids, ∃ y, lookI A.it k.1 = some y ∧ y.h = p.2.h - 1 ∧ measN y = k.2
theorem TI.nil (n g : Nat) : TI (newA n g) := fun _ h => nomatch h
theorem TI.same {A A' : AS} (h : TI A) (e : A'.it = A.it) : TI A' := by unfold TI; rw [e]; exact h
theorem kidsE_all {A : AS} {h : Int} : ∀ l, kidsE A h l = 0 → ∀ k ∈ l, ∃ y, lookI A.it k.1 = some y ∧ y.h = h - 1 ∧ measN y = k.2
  | [], _, _, hk => nomatch hk
  | q :: l, he, k, hk => by
    unfold kidsE at he
    cases hq : lookI A.it q.1 with
    | none => rw [hq] at he; cases he
    | some y =>
      rw [hq] at he
      simp only at he
      by_cases c : y.h = h - 1 ∧ measN y = q.2
      · rw [if_pos c] at he
        rcases List.mem_cons.1 hk with rfl | hk
        · exact ⟨y, hq, c⟩
        · exact kidsE_all l he k hk
      · rw [if_neg c] at he; cases he
set_option maxRecDepth 100000 in
theorem TI.alloc {A : AS} (hi : AInv A) (h : TI A) {x : Nd} {k : Int} (he : allocR A x = (k, 0)) : TI (allocS A x) := by
  obtain ⟨-, c2, hm, e, hS⟩ := takeR_two hi (x := x) (by rw [he])
  rw [he] at e hS
  have hkey : k ∉ A.it.map (·.1) := by rw [show k = _ from e]; exact fresh_key hi hm
  have hup : ∀ j y, lookI A.it j = some y → lookI (A.it ++ [(k, x)]) j = some y := fun j y hj => by
    rw [lookI_snoc hkey, if_neg (fun e2 => by rw [e2, lookI_none hkey] at hj; cases hj)]
    exact hj
  rw [hS]
  intro p hp q hq
  rcases List.mem_append.1 hp with hp | hp
  · obtain ⟨y, h1, h2⟩ := h p hp q hq
    exact ⟨y, hup _ _ h1, h2⟩
  · rw [List.mem_singleton.1 hp] at hq ⊢
    obtain ⟨y, h1, h2⟩ := kidsE_all _ c2 q hq
    exact ⟨y, hup _ _ h1, h2⟩
theorem TI.free {A : AS} (h : TI A) {k : Int} (hl : liveL A.x k) (hb : ¬ belP A k) : TI (freeS A k) := by
  rw [freeS_yes hl]
  intro p hp q hq
  have hp : p ∈ A.it := List.mem_of_mem_eraseP hp
  obtain ⟨y, h1, h2⟩ := h p hp q hq
  refine ⟨y, ?_, h2⟩
  show lookI (delI A.it k) q.1 = some y
  rw [lookI_del _ _ _ (fun e => hb ⟨p, hp, q, hq, e⟩)]
  exact h1
theorem nodeD_six {L : List Kn} {d : De} (h : d.k % 8 = 6) : nodeD L d = none := by
  unfold nodeD
  rw [if_neg (by omega), if_neg (by omega), if_neg (by omega)]
theorem playR_six {A : AS} {L : List Kn} {d : De} (hx : nodeD L d = none) : (playR A L d).2.2.1 = if d.k % 8 = 6 then 2 else 1 := by
  unfold playR
  rw [hx]
  simp only
  split <;> rfl
theorem play4 {A : AS} (hi : AInv A) (L : List Kn) (d : De) (h6 : d.k % 8 ≠ 6) : P1 A L d ∨ P2 A L d ∨ P5 A L d ∨ P6 A L d := by
  rcases play6 hi L d with h | h | ⟨k, -, -, hr, -, -, hx⟩ | ⟨k, -, -, hr, -, hx⟩ | h | h
  · exact .inl h
  · exact .inr (.inl h)
  · have := playR_six (A := A) hx
    rw [hr, if_neg h6] at this; cases this
  · have := playR_six (A := A) hx
    rw [hr, if_neg h6] at this; cases this
  · exact .inr (.inr (.inl h))
  · exact .inr (.inr (.inr h))
theorem play2 {A : AS} (hi : AInv A) (L : List Kn) (d : De) (h6 : d.k % 8 = 6) : P3 A L d ∨ P4 A L d := by
  rcases play6 hi L d with ⟨k, x, -, -, -, hx, -⟩ | ⟨x, e, -, -, -, hx, -⟩ | h | h | ⟨k, -, -, hr, -, hx⟩ | ⟨k, -, -, hr, -, hx⟩
  · rw [nodeD_six h6] at hx; cases hx
  · rw [nodeD_six h6] at hx; cases hx
  · exact .inl h
  · exact .inr h
  · have := playR_six (A := A) hx
    rw [hr, if_pos h6] at this; cases this
  · have := playR_six (A := A) hx
    rw [hr, if_pos h6] at this; cases this
theorem lookI_some_mem {it : List (Int × Nd)} {h : Int} {y : Nd} (e : lookI it h = some y) : (h, y) ∈ it := by
  by_cases hk : h ∈ it.map (·.1)
  · obtain ⟨nd, e1, hm⟩ := lookI_some hk
    rw [e] at e1
    cases e1
    exact hm
  · rw [lookI_none hk] at e; cases e
theorem live_of_look {A : AS} (hi : AInv A) {k : Int} {y : Nd} (h : lookI A.it k = some y) : liveL A.x k ∧ nodeOf A k = y := by
  refine ⟨(hi.liv k).2 ?_, by unfold nodeOf; rw [h]; rfl⟩
  by_cases hk : k ∈ A.keys
  · exact hk
  · rw [lookI_none hk] at h; cases h

set_option maxRecDepth 100000 in
set_option maxHeartbeats 16000000 in
theorem trees_any (n g : Int) (ao0 : Option Addr) (len cap : Nat) (l : List De) (w : World) (hr : Deeds w ao0 len l) (hlen : len ≤ 9223372036854775807) :
    Calls Try.prog 5 #[.int .i64 n, .int .i64 g, .slice ao0 len cap] w fun e w' => e = .returned (.bool true) ∧ Below w.heap.size w w' := by
  obtain ⟨i0, hi, hz0, hz1, hz2⟩ := info_parts infoKn
  obtain ⟨a, ha, hna⟩ := mod_nat n 12 (by decide)
  obtain ⟨c, hc, hgc⟩ := mod_nat g 3 (by decide)
  have M1 := Lib.hid (mod13_as n 12 a (by decide) (by decide) hna)
  have M2 := Lib.hid (mod13_as g 3 c (by decide) (by decide) hgc)
  have NA := Lib.hid (newA_at a c ha hc)
  have HR := Lib.hid hr
  have ha1 : (a : Int) < 12 := by omega
  have hc1 : (c : Int) < 3 := by omega
  clear hna hgc hr
  go_enter Try.func5, Try.ntmps5
  go_wp2_with fail
  refine (M1.out _).mono ?_; rintro e w1 ⟨rfl, rfl⟩
  go_wp2_with fail
  refine (M2.out _).mono ?_; rintro e w1 ⟨rfl, rfl⟩
  go_wp2_with fail
  refine (NA.out _).mono ?_; rintro e w1 ⟨B, rfl, hs⟩
  have HS1 := Lib.hid (⟨hs, AllK.nil _ _⟩ : St w w1 B (newA (a + 1) (c + 1)) (.slice none 0 0) [])
  clear hs M1 M2 NA
  go_wp2_with fail
  go_loopw [9, 10] (fun v i wr => ∃ (k : Nat) (A : AS) (L : List Kn), k ≤ len ∧ k ≤ 40 ∧ i = .int .i64 k ∧ St w wr B A v L ∧ TI A ∧ L.length ≤ k ∧ A.st ≤ k) (fun _ i _ => len - (intOf i).toNat)
  case atStart => exact ⟨0, _, [], Nat.zero_le _, Nat.zero_le _, rfl, HS1.out, TI.nil _ _, Nat.le_refl _, Nat.le_refl _⟩
  case round =>
    obtain ⟨k, A, L, hk, hk40, rfl, hst, hti, hll, hsk⟩ := hrel
    have HST := Lib.hid hst
    have HTI := Lib.hid hti
    clear hst hti HS1
    by_cases hlt : k < len
    · have hk1 : (k : Int) < (len : Int) := by omega
      by_cases hlt40 : k < 40
      · have hk2 : (k : Int) < 40 := by omega
        obtain ⟨bb, off, d, rfl, hdo, e0, e1, e2, e3, e4, e5, e6, hbb, hd0⟩ := HR.out.cell HST.out.s.low hlt
        have HD0 := Lib.hid hd0
        clear hd0
        by_cases h6 : d.k % 8 = 6
        · have HM := Lib.hid (mod8 h6)
          have HP6 := Lib.hid (play2 HST.out.s.inv L d h6)
          have HHD := Lib.hid (hD_in hdo HST.out.a.2)
          have HHN := Lib.hid (hand_any w.heap.size L u9 d wr hdo HST.out.a (by omega))
          clear hdo h6
          go_wp2_with fail
          refine (HM.out _).mono ?_; rintro e w5 ⟨rfl, rfl⟩
          go_wp2_with fail
          refine (HHN.out).mono ?_; rintro e w5 ⟨rfl, hb5⟩
          have HS5 := Lib.hid (HST.out.below hb5)
          have d0 := (hb5.cell (p := ⟨bb, off + k * 7, none⟩) (Nat.lt_of_lt_of_le hbb HST.out.s.low.size)).trans e0
          clear hb5 HHN
          go_wp2_with fail
          refine (below_any w B A (hD L d) w5 HS5.out.s).mono ?_; rintro e w6 ⟨b, rfl, hbl, hb6⟩
          have HS6 := Lib.hid (HS5.out.below hb6)
          have HBL := Lib.hid hbl
          obtain ⟨bb', off', d', eb, hdo6, e0, e1, e2, e3, e4, e5, e6, -, hd6⟩ := HR.out.cell HS6.out.s.low hlt
          cases eb
          obtain rfl : d = d' := Option.some.inj (HD0.out.symm.trans hd6)
          have HDO := Lib.hid hdo6
          clear hbl hb6 d0 hd6 hdo6
          cases b with
          | true =>
            go_wp2_with fail
            go_roundw
            case rel => exact ⟨k + 1, A, L, by omega, by omega, by go_num, HS6.out, HTI.out, by omega, by omega⟩
            case measure => simp [intOf]; omega
          | false =>
            have HNB := Lib.hid (show ¬ belP A (hD L d) from fun h => by have := HBL.out.2 h; cases this)
            have hp := play_any w B A L u9 d w6 HS6.out.s HDO.out HS6.out.a (by omega) (by omega)
            rcases HP6.out with ⟨h, hhd, hl, hr, hS, hpf, -⟩ | ⟨h, -, -, hr, hS, -⟩
            · as_aux_lemma =>
                have hti : TI (playS A L d) := by rw [hS]; exact HTI.out.free hl (by rw [hhd]; exact HNB.out)
                clear hS hl hhd
                rw [hr] at hp
                unfold PlayR at hp
                simp only at hp
                obtain ⟨A', hA'⟩ : ∃ A', A' = playS A L d := ⟨_, rfl⟩
                rw [← hA'] at hp hpf hti
                clear hA' hr
                have HP := Lib.hid hp
                have HPF := Lib.hid hpf
                have HTZ := Lib.hid hti
                clear hp hpf hti
                unfold noN at HP
                simp only [List.length_nil] at HP
                go_wp2_with fail
                refine (HP.out).mono ?_; rintro e w2 ⟨ao, c2, rfl, hks, hs2, hk2⟩
                have HS2 := Lib.hid ((HS6.out.turn hk2 hs2).alloc (.cells #[.int .i64 0, .string ⟨#[]⟩, .slice ao 0 c2] 36))
                clear hks hs2 hk2 HP
                go_wp2_with fail
                have HSZ := HS2
                clear HS2
                generalize w2.alloc (.cells #[.int .i64 0, .string ⟨#[]⟩, .slice ao 0 c2] 36) = wz at *
                have hst1 : A'.st ≤ k + 1 := by have := HPF.out.st; omega
                have hn1 := parts_n HSZ.out.s.inv.f
                have hn2 := HSZ.out.s.inv.f.n2
                have hil16 : (slotsTo A'.x 1 A'.x.n).length ≤ 16384 := by omega
                clear hn1 hn2
                refine (handlesA_any B A' wz HSZ.out.s.is HSZ.out.s.inv.f).mono ?_; rintro e wh hh2
                obtain ⟨vl, rfl, hfl, hb⟩ := hh2.rs
                obtain ⟨il, hil⟩ : ∃ il, il = (slotsTo A'.x 1 A'.x.n).length := ⟨_, rfl⟩
                rw [← hil] at hfl hil16
                have HIL := Lib.hid hil
                obtain ⟨al, cl, rfl, -⟩ := id hfl
                have HL1 := Lib.hid (show Rs wh wz.heap.size 31 (.slice al il cl) il (fun i => .int .u64 (hsF A'.x i)) from hfl)
                have HS1 := Lib.hid (HSZ.out.below hb)
                clear hh2 hfl hb hil HSZ
                go_wp2_with fail
                go_loopw [16] (fun s16 wr => ∃ i : Nat, i ≤ il ∧ s16 = .int .i64 i ∧ Below wh.heap.size wh wr) (fun s16 _ => il - (intOf s16).toNat)
                case atStart => exact ⟨0, Nat.zero_le _, rfl, Below.refl _ _⟩
                case round =>
                  obtain ⟨i, hin, rfl, hbr⟩ := hrel
                  have HBR := Lib.hid hbr
                  have HSR := Lib.hid (HS1.out.below hbr)
                  have HLR := Lib.hid (show Rs wr wz.heap.size 31 (.slice al il cl) il (fun i => .int .u64 (hsF A'.x i)) from HL1.out.keep hbr (Nat.le_refl _))
                  clear hbr
                  by_cases hlt3 : i < il
                  · have hj1 : (i : Int) < (il : Int) := by omega
                    obtain ⟨b, rfl, hcell⟩ := HLR.out.cell hlt3
                    have q0 : wr.cell? ⟨b, i, none⟩ = some (.int .u64 (hsF A'.x i)) := hcell
                    have hlv := hsF_live HSR.out.s.inv.f (i := i) (by rw [← HIL.out]; exact hlt3)
                    have hmem := (nodeOf_live HSR.out.s.inv hlv).1
                    have HOK := Lib.hid (HSR.out.s.inv.ok _ hmem)
                    have HTN := Lib.hid (HTZ.out _ hmem)
                    have HGT := Lib.hid (getA_live B A' (hsF A'.x i) wr HSR.out.s.is HSR.out.s.inv hlv)
                    clear hcell hlv hmem
                    simp only at HOK HTN
                    generalize nodeOf A' (hsF A'.x i) = nd at *
                    generalize hsF A'.x i = th at *
                    go_wp2_with fail
                    refine (HGT.out).mono ?_; rintro e w5 ⟨v, rfl, hown, hb5⟩
                    obtain ⟨sl, rfl, hks⟩ := hown
                    obtain ⟨ao2, cap2, rfl, hik, -, -⟩ := hks.ks
                    have HB5 := Lib.hid (HBR.out.trans ((hb5.alloc hb5.size (.cells #[.int .i64 nd.h, .string nd.text, .slice ao2 nd.kids.length cap2] 36)).mono HBR.out.size))
                    have HS5 := Lib.hid ((HSR.out.below hb5).alloc (.cells #[.int .i64 nd.h, .string nd.text, .slice ao2 nd.kids.length cap2] 36))
                    have hy5 := block_new w5 (.cells #[.int .i64 nd.h, .string nd.text, .slice ao2 nd.kids.length cap2] 36)
                    have HY5 := Lib.hid hy5
                    have HIK := Lib.hid (hik.later ((Below.refl _ _).alloc (Nat.le_refl _) (.cells #[.int .i64 nd.h, .string nd.text, .slice ao2 nd.kids.length cap2] 36)))
                    have hk4 := kids4 HOK.out
                    have hnh := ck_h HOK.out
                    clear hb5 hks hik q0 HGT HLR HSR
                    (have q0 := block_cell hy5 0; have q1 := block_cell hy5 1; have q2 := block_cell hy5 2; have f0 := block_free hy5 0; have f1 := block_free hy5 1; have f2 := block_free hy5 2; have hz := block_lt hy5; simp at q0 q1 q2)
                    clear hy5
                    go_wp2_with fail
                    refine (check_any nd ao2 nd.kids.length cap2 _ HIK.out).mono ?_; rintro e w6 ⟨rfl, hb6⟩
                    rw [HOK.out]
                    have HB6 := Lib.hid (HB5.out.trans (hb6.mono HB5.out.size))
                    have HS6 := Lib.hid (HS5.out.below hb6)
                    have HY6 := Lib.hid (block_below hb6 HY5.out (block_lt HY5.out))
                    have HIK6 := Lib.hid (HIK.out.later hb6)
                    clear hb6 q0 q1 q2 f0 f1 f2 hz HB5 HS5 HY5 HIK
                    go_wp2_with fail
                    obtain ⟨Y, hY⟩ : ∃ Y, Y = w5.heap.size := ⟨_, rfl⟩
                    rw [← hY] at HY6
                    rw [← hY]
                    clear hY
                    go_loopw [19] (fun s19 wr => ∃ j : Nat, j ≤ nd.kids.length ∧ s19 = .int .i64 j ∧ Below w6.heap.size w6 wr) (fun s19 _ => nd.kids.length - (intOf s19).toNat)
                    case atStart => exact ⟨0, Nat.zero_le _, rfl, Below.refl _ _⟩
                    case round =>
                      obtain ⟨j, hjn, rfl, hbr⟩ := hrel
                      have HBJ := Lib.hid hbr
                      have HSJ := Lib.hid (HS6.out.below hbr)
                      have HYJ := Lib.hid (block_below hbr HY6.out (block_lt HY6.out))
                      have HIJ := Lib.hid (HIK6.out.later hbr)
                      have hyj := HYJ.out
                      (have q0 := block_cell hyj 0; have q1 := block_cell hyj 1; have q2 := block_cell hyj 2; have f0 := block_free hyj 0; have f1 := block_free hyj 1; have f2 := block_free hyj 2; have hz := block_lt hyj; simp at q0 q1 q2)
                      clear hbr hyj
                      by_cases hjl : j < nd.kids.length
                      · have hj2 : (j : Int) < (nd.kids.length : Int) := by omega
                        obtain ⟨bb2, off2, rfl, hcell⟩ := HIJ.out.2.2 (by omega)
                        have hbb2 := cellK_lt (hcell j hjl)
                        obtain ⟨e0, e1, e2, e3⟩ := hcell j hjl
                        obtain ⟨yy, hlk, hyh, hym⟩ := HTN.out _ (List.getElem_mem hjl)
                        have hlv := live_of_look HSJ.out.s.inv hlk
                        have hgt := getA_live B A' nd.kids[j].1 wr HSJ.out.s.is HSJ.out.s.inv hlv.1
                        rw [hlv.2] at hgt
                        have HOY := Lib.hid (HSJ.out.s.inv.ok _ (lookI_some_mem hlk))
                        have HGT := Lib.hid hgt
                        have ch3 : (yy.h != nd.h - 1) = false := by rw [bne_eq_false_iff_eq]; exact hyh
                        have HYM := Lib.hid hym
                        clear hcell hlk hyh hym hlv hgt
                        simp only at HOY
                        generalize nd.kids[j] = kd at *
                        obtain ⟨kat, m0, m1, m2⟩ := kd
                        simp only at e0 e1 e2 e3 HYM HGT
                        go_wp2_with fail
                        refine (HGT.out).mono ?_; rintro e w7 ⟨v, rfl, hown, hb7⟩
                        obtain ⟨sl, rfl, hks⟩ := hown
                        obtain ⟨ao3, cap3, rfl, hik, -, -⟩ := hks.ks
                        have HB7 := Lib.hid (hb7.alloc hb7.size (.cells #[.int .i64 yy.h, .string yy.text, .slice ao3 yy.kids.length cap3] 36))
                        have hy7 := block_new w7 (.cells #[.int .i64 yy.h, .string yy.text, .slice ao3 yy.kids.length cap3] 36)
                        have HY7 := Lib.hid hy7
                        have HIK7 := Lib.hid (hik.later ((Below.refl _ _).alloc (Nat.le_refl _) (.cells #[.int .i64 yy.h, .string yy.text, .slice ao3 yy.kids.length cap3] 36)))
                        clear hb7 hks hik q0 q1 q2 f0 f1 f2 hz HGT
                        (have q0 := block_cell hy7 0; have q1 := block_cell hy7 1; have q2 := block_cell hy7 2; have f0 := block_free hy7 0; have f1 := block_free hy7 1; have f2 := block_free hy7 2; have hz := block_lt hy7; simp at q0 q1 q2)
                        clear hy7
                        go_wp2_with fail
                        refine (measure_any yy ao3 yy.kids.length cap3 _ HIK7.out).mono ?_; rintro e w8 ⟨rfl, hb8⟩
                        rw [HOY.out, HYM.out]
                        unfold aggM
                        simp only
                        have HB8 := Lib.hid (below_two HB7.out hb8)
                        have HY8 := Lib.hid (block_below hb8 HY7.out (block_lt HY7.out))
                        clear hb8 q0 q1 q2 f0 f1 f2 hz HIK7 HB7 HY7
                        go_wp2_with fail
                        have HB9 := Lib.hid (HB8.out.alloc HB8.out.size (.cells #[.int .i64 m0, .int .i64 m1, .int .i64 m2] 62))
                        have hy9 := block_alloc HY8.out (.cells #[.int .i64 m0, .int .i64 m1, .int .i64 m2] 62)
                        have hm9 := block_new w8 (.cells #[.int .i64 m0, .int .i64 m1, .int .i64 m2] 62)
                        generalize w8.alloc (.cells #[.int .i64 m0, .int .i64 m1, .int .i64 m2] 62) = w9 at *
                        have hx9 := block_below HB9.out HYJ.out (block_lt HYJ.out)
                        have x1 := (HB9.out.cell (p := ⟨bb2, _, none⟩) hbb2).trans e1
                        have x2 := (HB9.out.cell (p := ⟨bb2, _, none⟩) hbb2).trans e2
                        have x3 := (HB9.out.cell (p := ⟨bb2, _, none⟩) hbb2).trans e3
                        have p0 := block_cell hy9 0
                        have r0 := block_cell hm9 0
                        have r1 := block_cell hm9 1
                        have r2 := block_cell hm9 2
                        simp at p0 r0 r1 r2
                        (have q0 := block_cell hx9 0; have q1 := block_cell hx9 1; have q2 := block_cell hx9 2; have f0 := block_free hx9 0; have f1 := block_free hx9 1; have f2 := block_free hx9 2; have hz := block_lt hx9; simp at q0 q1 q2)
                        clear hy9 hm9 hx9 e0 e1 e2 e3
                        have HBE := Lib.hid (fun n => (HBJ.out.trans ((below_drewN HB9.out n).mono HBJ.out.size)))
                        go_quiet (fail)
                        go_wp2_with fail
                        go_roundw
                        case rel => exact ⟨j + 1, by omega, by go_num, HBE.out _⟩
                        case measure => simp [intOf]; omega
                      · obtain rfl : j = nd.kids.length := by omega
                        have HBF := Lib.hid (HB6.out.trans (HBJ.out.mono HB6.out.size))
                        go_wp2_with fail
                        go_roundw
                        case rel => exact ⟨i + 1, by omega, by go_num, HBF.out⟩
                        case measure => simp [intOf]; omega
                  · obtain rfl : i = il := by omega
                    go_wp2_with fail
                    go_roundw
                    case rel => exact ⟨k + 1, A', L, by omega, by omega, by go_num, HSR.out, HTZ.out, by omega, hst1⟩
                    case measure => simp [intOf]; omega
            · as_aux_lemma =>
                have hpf : PF A (playS A L d) 0 0 1 := by rw [hS]; exact ⟨rfl, rfl, rfl, rfl, rfl⟩
                have hti : TI (playS A L d) := by rw [hS]; exact HTI.out.same rfl
                clear hS
                rw [hr] at hp
                unfold PlayR at hp
                simp only at hp
                obtain ⟨A', hA'⟩ : ∃ A', A' = playS A L d := ⟨_, rfl⟩
                rw [← hA'] at hp hpf hti
                clear hA' hr
                have HP := Lib.hid hp
                have HPF := Lib.hid hpf
                have HTZ := Lib.hid hti
                clear hp hpf hti
                unfold noN at HP
                simp only [List.length_nil] at HP
                go_wp2_with fail
                refine (HP.out).mono ?_; rintro e w2 ⟨ao, c2, rfl, hks, hs2, hk2⟩
                have HS2 := Lib.hid ((HS6.out.turn hk2 hs2).alloc (.cells #[.int .i64 0, .string ⟨#[]⟩, .slice ao 0 c2] 36))
                clear hks hs2 hk2 HP
                go_wp2_with fail
                have HSZ := HS2
                clear HS2
                generalize w2.alloc (.cells #[.int .i64 0, .string ⟨#[]⟩, .slice ao 0 c2] 36) = wz at *
                have hst1 : A'.st ≤ k + 1 := by have := HPF.out.st; omega
                have hn1 := parts_n HSZ.out.s.inv.f
                have hn2 := HSZ.out.s.inv.f.n2
                have hil16 : (slotsTo A'.x 1 A'.x.n).length ≤ 16384 := by omega
                clear hn1 hn2
                refine (handlesA_any B A' wz HSZ.out.s.is HSZ.out.s.inv.f).mono ?_; rintro e wh hh2
                obtain ⟨vl, rfl, hfl, hb⟩ := hh2.rs
                obtain ⟨il, hil⟩ : ∃ il, il = (slotsTo A'.x 1 A'.x.n).length := ⟨_, rfl⟩
                rw [← hil] at hfl hil16
                have HIL := Lib.hid hil
                obtain ⟨al, cl, rfl, -⟩ := id hfl
                have HL1 := Lib.hid (show Rs wh wz.heap.size 31 (.slice al il cl) il (fun i => .int .u64 (hsF A'.x i)) from hfl)
                have HS1 := Lib.hid (HSZ.out.below hb)
                clear hh2 hfl hb hil HSZ
                go_wp2_with fail
                go_loopw [16] (fun s16 wr => ∃ i : Nat, i ≤ il ∧ s16 = .int .i64 i ∧ Below wh.heap.size wh wr) (fun s16 _ => il - (intOf s16).toNat)
                case atStart => exact ⟨0, Nat.zero_le _, rfl, Below.refl _ _⟩
                case round =>
                  obtain ⟨i, hin, rfl, hbr⟩ := hrel
                  have HBR := Lib.hid hbr
                  have HSR := Lib.hid (HS1.out.below hbr)
                  have HLR := Lib.hid (show Rs wr wz.heap.size 31 (.slice al il cl) il (fun i => .int .u64 (hsF A'.x i)) from HL1.out.keep hbr (Nat.le_refl _))
                  clear hbr
                  by_cases hlt3 : i < il
                  · have hj1 : (i : Int) < (il : Int) := by omega
                    obtain ⟨b, rfl, hcell⟩ := HLR.out.cell hlt3
                    have q0 : wr.cell? ⟨b, i, none⟩ = some (.int .u64 (hsF A'.x i)) := hcell
                    have hlv := hsF_live HSR.out.s.inv.f (i := i) (by rw [← HIL.out]; exact hlt3)
                    have hmem := (nodeOf_live HSR.out.s.inv hlv).1
                    have HOK := Lib.hid (HSR.out.s.inv.ok _ hmem)
                    have HTN := Lib.hid (HTZ.out _ hmem)
                    have HGT := Lib.hid (getA_live B A' (hsF A'.x i) wr HSR.out.s.is HSR.out.s.inv hlv)
                    clear hcell hlv hmem
                    simp only at HOK HTN
                    generalize nodeOf A' (hsF A'.x i) = nd at *
                    generalize hsF A'.x i = th at *
                    go_wp2_with fail
                    refine (HGT.out).mono ?_; rintro e w5 ⟨v, rfl, hown, hb5⟩
                    obtain ⟨sl, rfl, hks⟩ := hown
                    obtain ⟨ao2, cap2, rfl, hik, -, -⟩ := hks.ks
                    have HB5 := Lib.hid (HBR.out.trans ((hb5.alloc hb5.size (.cells #[.int .i64 nd.h, .string nd.text, .slice ao2 nd.kids.length cap2] 36)).mono HBR.out.size))
                    have HS5 := Lib.hid ((HSR.out.below hb5).alloc (.cells #[.int .i64 nd.h, .string nd.text, .slice ao2 nd.kids.length cap2] 36))
                    have hy5 := block_new w5 (.cells #[.int .i64 nd.h, .string nd.text, .slice ao2 nd.kids.length cap2] 36)
                    have HY5 := Lib.hid hy5
                    have HIK := Lib.hid (hik.later ((Below.refl _ _).alloc (Nat.le_refl _) (.cells #[.int .i64 nd.h, .string nd.text, .slice ao2 nd.kids.length cap2] 36)))
                    have hk4 := kids4 HOK.out
                    have hnh := ck_h HOK.out
                    clear hb5 hks hik q0 HGT HLR HSR
                    (have q0 := block_cell hy5 0; have q1 := block_cell hy5 1; have q2 := block_cell hy5 2; have f0 := block_free hy5 0; have f1 := block_free hy5 1; have f2 := block_free hy5 2; have hz := block_lt hy5; simp at q0 q1 q2)
                    clear hy5
                    go_wp2_with fail
                    refine (check_any nd ao2 nd.kids.length cap2 _ HIK.out).mono ?_; rintro e w6 ⟨rfl, hb6⟩
                    rw [HOK.out]
                    have HB6 := Lib.hid (HB5.out.trans (hb6.mono HB5.out.size))
                    have HS6 := Lib.hid (HS5.out.below hb6)
                    have HY6 := Lib.hid (block_below hb6 HY5.out (block_lt HY5.out))
                    have HIK6 := Lib.hid (HIK.out.later hb6)
                    clear hb6 q0 q1 q2 f0 f1 f2 hz HB5 HS5 HY5 HIK
                    go_wp2_with fail
                    obtain ⟨Y, hY⟩ : ∃ Y, Y = w5.heap.size := ⟨_, rfl⟩
                    rw [← hY] at HY6
                    rw [← hY]
                    clear hY
                    go_loopw [19] (fun s19 wr => ∃ j : Nat, j ≤ nd.kids.length ∧ s19 = .int .i64 j ∧ Below w6.heap.size w6 wr) (fun s19 _ => nd.kids.length - (intOf s19).toNat)
                    case atStart => exact ⟨0, Nat.zero_le _, rfl, Below.refl _ _⟩
                    case round =>
                      obtain ⟨j, hjn, rfl, hbr⟩ := hrel
                      have HBJ := Lib.hid hbr
                      have HSJ := Lib.hid (HS6.out.below hbr)
                      have HYJ := Lib.hid (block_below hbr HY6.out (block_lt HY6.out))
                      have HIJ := Lib.hid (HIK6.out.later hbr)
                      have hyj := HYJ.out
                      (have q0 := block_cell hyj 0; have q1 := block_cell hyj 1; have q2 := block_cell hyj 2; have f0 := block_free hyj 0; have f1 := block_free hyj 1; have f2 := block_free hyj 2; have hz := block_lt hyj; simp at q0 q1 q2)
                      clear hbr hyj
                      by_cases hjl : j < nd.kids.length
                      · have hj2 : (j : Int) < (nd.kids.length : Int) := by omega
                        obtain ⟨bb2, off2, rfl, hcell⟩ := HIJ.out.2.2 (by omega)
                        have hbb2 := cellK_lt (hcell j hjl)
                        obtain ⟨e0, e1, e2, e3⟩ := hcell j hjl
                        obtain ⟨yy, hlk, hyh, hym⟩ := HTN.out _ (List.getElem_mem hjl)
                        have hlv := live_of_look HSJ.out.s.inv hlk
                        have hgt := getA_live B A' nd.kids[j].1 wr HSJ.out.s.is HSJ.out.s.inv hlv.1
                        rw [hlv.2] at hgt
                        have HOY := Lib.hid (HSJ.out.s.inv.ok _ (lookI_some_mem hlk))
                        have HGT := Lib.hid hgt
                        have ch3 : (yy.h != nd.h - 1) = false := by rw [bne_eq_false_iff_eq]; exact hyh
                        have HYM := Lib.hid hym
                        clear hcell hlk hyh hym hlv hgt
                        simp only at HOY
                        generalize nd.kids[j] = kd at *
                        obtain ⟨kat, m0, m1, m2⟩ := kd
                        simp only at e0 e1 e2 e3 HYM HGT
                        go_wp2_with fail
                        refine (HGT.out).mono ?_; rintro e w7 ⟨v, rfl, hown, hb7⟩
                        obtain ⟨sl, rfl, hks⟩ := hown
                        obtain ⟨ao3, cap3, rfl, hik, -, -⟩ := hks.ks
                        have HB7 := Lib.hid (hb7.alloc hb7.size (.cells #[.int .i64 yy.h, .string yy.text, .slice ao3 yy.kids.length cap3] 36))
                        have hy7 := block_new w7 (.cells #[.int .i64 yy.h, .string yy.text, .slice ao3 yy.kids.length cap3] 36)
                        have HY7 := Lib.hid hy7
                        have HIK7 := Lib.hid (hik.later ((Below.refl _ _).alloc (Nat.le_refl _) (.cells #[.int .i64 yy.h, .string yy.text, .slice ao3 yy.kids.length cap3] 36)))
                        clear hb7 hks hik q0 q1 q2 f0 f1 f2 hz HGT
                        (have q0 := block_cell hy7 0; have q1 := block_cell hy7 1; have q2 := block_cell hy7 2; have f0 := block_free hy7 0; have f1 := block_free hy7 1; have f2 := block_free hy7 2; have hz := block_lt hy7; simp at q0 q1 q2)
                        clear hy7
                        go_wp2_with fail
                        refine (measure_any yy ao3 yy.kids.length cap3 _ HIK7.out).mono ?_; rintro e w8 ⟨rfl, hb8⟩
                        rw [HOY.out, HYM.out]
                        unfold aggM
                        simp only
                        have HB8 := Lib.hid (below_two HB7.out hb8)
                        have HY8 := Lib.hid (block_below hb8 HY7.out (block_lt HY7.out))
                        clear hb8 q0 q1 q2 f0 f1 f2 hz HIK7 HB7 HY7
                        go_wp2_with fail
                        have HB9 := Lib.hid (HB8.out.alloc HB8.out.size (.cells #[.int .i64 m0, .int .i64 m1, .int .i64 m2] 62))
                        have hy9 := block_alloc HY8.out (.cells #[.int .i64 m0, .int .i64 m1, .int .i64 m2] 62)
                        have hm9 := block_new w8 (.cells #[.int .i64 m0, .int .i64 m1, .int .i64 m2] 62)
                        generalize w8.alloc (.cells #[.int .i64 m0, .int .i64 m1, .int .i64 m2] 62) = w9 at *
                        have hx9 := block_below HB9.out HYJ.out (block_lt HYJ.out)
                        have x1 := (HB9.out.cell (p := ⟨bb2, _, none⟩) hbb2).trans e1
                        have x2 := (HB9.out.cell (p := ⟨bb2, _, none⟩) hbb2).trans e2
                        have x3 := (HB9.out.cell (p := ⟨bb2, _, none⟩) hbb2).trans e3
                        have p0 := block_cell hy9 0
                        have r0 := block_cell hm9 0
                        have r1 := block_cell hm9 1
                        have r2 := block_cell hm9 2
                        simp at p0 r0 r1 r2
                        (have q0 := block_cell hx9 0; have q1 := block_cell hx9 1; have q2 := block_cell hx9 2; have f0 := block_free hx9 0; have f1 := block_free hx9 1; have f2 := block_free hx9 2; have hz := block_lt hx9; simp at q0 q1 q2)
                        clear hy9 hm9 hx9 e0 e1 e2 e3
                        have HBE := Lib.hid (fun n => (HBJ.out.trans ((below_drewN HB9.out n).mono HBJ.out.size)))
                        go_quiet (fail)
                        go_wp2_with fail
                        go_roundw
                        case rel => exact ⟨j + 1, by omega, by go_num, HBE.out _⟩
                        case measure => simp [intOf]; omega
                      · obtain rfl : j = nd.kids.length := by omega
                        have HBF := Lib.hid (HB6.out.trans (HBJ.out.mono HB6.out.size))
                        go_wp2_with fail
                        go_roundw
                        case rel => exact ⟨i + 1, by omega, by go_num, HBF.out⟩
                        case measure => simp [intOf]; omega
                  · obtain rfl : i = il := by omega
                    go_wp2_with fail
                    go_roundw
                    case rel => exact ⟨k + 1, A', L, by omega, by omega, by go_num, HSR.out, HTZ.out, by omega, hst1⟩
                    case measure => simp [intOf]; omega
        · have HM := Lib.hid (mod8 (n := d.k) rfl)
          have hm6 : (d.k % 8 == 6) = false := by simpa using h6
          have hp := play_any w B A L u9 d wr HST.out.s hdo HST.out.a (by omega) (by omega)
          have HP4 := Lib.hid (play4 HST.out.s.inv L d h6)
          have HPP := Lib.hid hp
          clear hdo h6 hp
          go_wp2_with fail
          refine (HM.out _).mono ?_; rintro e w5 ⟨rfl, rfl⟩
          go_wp2_with fail
          have hp := HPP.out
          clear HPP
          rcases HP4.out with ⟨h, x, hr, hS, hpf, -, hck, hal, hh⟩ | ⟨x, e, hr, he, hS, -⟩ | ⟨h, -, -, hr, hS, -⟩ | ⟨h, -, -, hr, hS, -⟩
          · as_aux_lemma =>
              have hti : TI (playS A L d) := by rw [hS]; exact HTI.out.alloc HST.out.s.inv hal
              clear hS hal
              rw [hr] at hp
              unfold PlayR at hp
              simp only at hp
              obtain ⟨A', hA'⟩ : ∃ A', A' = playS A L d := ⟨_, rfl⟩
              rw [← hA'] at hp hpf hti
              clear hA' hr
              have HP := Lib.hid hp
              have HPF := Lib.hid hpf
              have HTZ := Lib.hid hti
              clear hp hpf hti
              have HCK := Lib.hid hck
              have HH := Lib.hid hh
              clear hck hh
              refine (HP.out).mono ?_; rintro e w2 ⟨ao, c2, rfl, hks, hs2, hk2⟩
              have HS2 := Lib.hid ((HST.out.turn hk2 hs2).alloc (.cells #[.int .i64 x.h, .string x.text, .slice ao x.kids.length c2] 36))
              have HK2 := Lib.hid ((hks.later ((Below.refl _ _).alloc (Nat.le_refl _) (.cells #[.int .i64 x.h, .string x.text, .slice ao x.kids.length c2] 36))).later ((Below.refl _ _).alloc (Nat.le_refl _) (.cells #[.int .u64 h, .int .i64 x.h, .string x.text, .slice ao x.kids.length c2] 50)))
              have hn2 := block_new w2 (.cells #[.int .i64 x.h, .string x.text, .slice ao x.kids.length c2] 36)
              have HN3 := Lib.hid (block_new' (w2.alloc (.cells #[.int .i64 x.h, .string x.text, .slice ao x.kids.length c2] 36)) (.cells #[.int .u64 h, .int .i64 x.h, .string x.text, .slice ao x.kids.length c2] 50) (w2.heap.size + 1) (by simp))
              have HSW := Lib.hid (HS2.out.alloc (.cells #[.int .u64 h, .int .i64 x.h, .string x.text, .slice ao x.kids.length c2] 50))
              have HZW := Lib.hid (show w.heap.size ≤ ((w2.alloc (.cells #[.int .i64 x.h, .string x.text, .slice ao x.kids.length c2] 36)).alloc (.cells #[.int .u64 h, .int .i64 x.h, .string x.text, .slice ao x.kids.length c2] 50)).heap.size from HSW.out.s.low.size)
              (have q0 := block_cell hn2 0; have q1 := block_cell hn2 1; have q2 := block_cell hn2 2; have f0 := block_free hn2 0; have f1 := block_free hn2 1; have f2 := block_free hn2 2; have hz := block_lt hn2; simp at q0 q1 q2)
              clear hn2 HS2
              clear hks hs2 hk2 HP
              go_wp2_with (at_builtin; refine wpList_append_own _ rfl _ _ 43 rfl w.heap.size 50 i0 (.agg #[.int .u64 0, .int .i64 0, .string ⟨#[]⟩, .slice none 0 0]) 4 56 Try.underlying43 hi hz0 hz1 hz2 rfl (by decide) _ L.length (flatR fKn L) rfl HSW.out.a.1 ⟨w2.heap.size + 1, 0, none⟩ 1 _ (flatR fKn [⟨h, x, ao, c2⟩]) rfl rfl (newsKn (k := ⟨h, x, ao, c2⟩) HN3.out) (fKn_one _) ?c3 ?c4 ?c5 ?_)
              case c3 => unfold maxLen; omega
              case c4 => omega
              case c5 => have := HZW.out; simpa using this
              intro v' wz hown hgrow _
              have HSZ := Lib.hid (HSW.out.grow (k := ⟨h, x, ao, c2⟩) hgrow hown (KnOK.mk HK2.out HCK.out HH.out))
              clear hown hgrow HSW HN3 HK2 HZW q0 q1 q2 f0 f1 f2 hz
              go_wp2_with fail
              have hst1 : A'.st ≤ k + 1 := by have := HPF.out.st; omega
              have hn1 := parts_n HSZ.out.s.inv.f
              have hn2 := HSZ.out.s.inv.f.n2
              have hil16 : (slotsTo A'.x 1 A'.x.n).length ≤ 16384 := by omega
              clear hn1 hn2
              refine (handlesA_any B A' wz HSZ.out.s.is HSZ.out.s.inv.f).mono ?_; rintro e wh hh2
              obtain ⟨vl, rfl, hfl, hb⟩ := hh2.rs
              obtain ⟨il, hil⟩ : ∃ il, il = (slotsTo A'.x 1 A'.x.n).length := ⟨_, rfl⟩
              rw [← hil] at hfl hil16
              have HIL := Lib.hid hil
              obtain ⟨al, cl, rfl, -⟩ := id hfl
              have HL1 := Lib.hid (show Rs wh wz.heap.size 31 (.slice al il cl) il (fun i => .int .u64 (hsF A'.x i)) from hfl)
              have HS1 := Lib.hid (HSZ.out.below hb)
              clear hh2 hfl hb hil HSZ
              go_wp2_with fail
              go_loopw [16] (fun s16 wr => ∃ i : Nat, i ≤ il ∧ s16 = .int .i64 i ∧ Below wh.heap.size wh wr) (fun s16 _ => il - (intOf s16).toNat)
              case atStart => exact ⟨0, Nat.zero_le _, rfl, Below.refl _ _⟩
              case round =>
                obtain ⟨i, hin, rfl, hbr⟩ := hrel
                have HBR := Lib.hid hbr
                have HSR := Lib.hid (HS1.out.below hbr)
                have HLR := Lib.hid (show Rs wr wz.heap.size 31 (.slice al il cl) il (fun i => .int .u64 (hsF A'.x i)) from HL1.out.keep hbr (Nat.le_refl _))
                clear hbr
                by_cases hlt3 : i < il
                · have hj1 : (i : Int) < (il : Int) := by omega
                  obtain ⟨b, rfl, hcell⟩ := HLR.out.cell hlt3
                  have q0 : wr.cell? ⟨b, i, none⟩ = some (.int .u64 (hsF A'.x i)) := hcell
                  have hlv := hsF_live HSR.out.s.inv.f (i := i) (by rw [← HIL.out]; exact hlt3)
                  have hmem := (nodeOf_live HSR.out.s.inv hlv).1
                  have HOK := Lib.hid (HSR.out.s.inv.ok _ hmem)
                  have HTN := Lib.hid (HTZ.out _ hmem)
                  have HGT := Lib.hid (getA_live B A' (hsF A'.x i) wr HSR.out.s.is HSR.out.s.inv hlv)
                  clear hcell hlv hmem
                  simp only at HOK HTN
                  generalize nodeOf A' (hsF A'.x i) = nd at *
                  generalize hsF A'.x i = th at *
                  go_wp2_with fail
                  refine (HGT.out).mono ?_; rintro e w5 ⟨v, rfl, hown, hb5⟩
                  obtain ⟨sl, rfl, hks⟩ := hown
                  obtain ⟨ao2, cap2, rfl, hik, -, -⟩ := hks.ks
                  have HB5 := Lib.hid (HBR.out.trans ((hb5.alloc hb5.size (.cells #[.int .i64 nd.h, .string nd.text, .slice ao2 nd.kids.length cap2] 36)).mono HBR.out.size))
                  have HS5 := Lib.hid ((HSR.out.below hb5).alloc (.cells #[.int .i64 nd.h, .string nd.text, .slice ao2 nd.kids.length cap2] 36))
                  have hy5 := block_new w5 (.cells #[.int .i64 nd.h, .string nd.text, .slice ao2 nd.kids.length cap2] 36)
                  have HY5 := Lib.hid hy5
                  have HIK := Lib.hid (hik.later ((Below.refl _ _).alloc (Nat.le_refl _) (.cells #[.int .i64 nd.h, .string nd.text, .slice ao2 nd.kids.length cap2] 36)))
                  have hk4 := kids4 HOK.out
                  have hnh := ck_h HOK.out
                  clear hb5 hks hik q0 HGT HLR HSR
                  (have q0 := block_cell hy5 0; have q1 := block_cell hy5 1; have q2 := block_cell hy5 2; have f0 := block_free hy5 0; have f1 := block_free hy5 1; have f2 := block_free hy5 2; have hz := block_lt hy5; simp at q0 q1 q2)
                  clear hy5
                  go_wp2_with fail
                  refine (check_any nd ao2 nd.kids.length cap2 _ HIK.out).mono ?_; rintro e w6 ⟨rfl, hb6⟩
                  rw [HOK.out]
                  have HB6 := Lib.hid (HB5.out.trans (hb6.mono HB5.out.size))
                  have HS6 := Lib.hid (HS5.out.below hb6)
                  have HY6 := Lib.hid (block_below hb6 HY5.out (block_lt HY5.out))
                  have HIK6 := Lib.hid (HIK.out.later hb6)
                  clear hb6 q0 q1 q2 f0 f1 f2 hz HB5 HS5 HY5 HIK
                  go_wp2_with fail
                  obtain ⟨Y, hY⟩ : ∃ Y, Y = w5.heap.size := ⟨_, rfl⟩
                  rw [← hY] at HY6
                  rw [← hY]
                  clear hY
                  go_loopw [19] (fun s19 wr => ∃ j : Nat, j ≤ nd.kids.length ∧ s19 = .int .i64 j ∧ Below w6.heap.size w6 wr) (fun s19 _ => nd.kids.length - (intOf s19).toNat)
                  case atStart => exact ⟨0, Nat.zero_le _, rfl, Below.refl _ _⟩
                  case round =>
                    obtain ⟨j, hjn, rfl, hbr⟩ := hrel
                    have HBJ := Lib.hid hbr
                    have HSJ := Lib.hid (HS6.out.below hbr)
                    have HYJ := Lib.hid (block_below hbr HY6.out (block_lt HY6.out))
                    have HIJ := Lib.hid (HIK6.out.later hbr)
                    have hyj := HYJ.out
                    (have q0 := block_cell hyj 0; have q1 := block_cell hyj 1; have q2 := block_cell hyj 2; have f0 := block_free hyj 0; have f1 := block_free hyj 1; have f2 := block_free hyj 2; have hz := block_lt hyj; simp at q0 q1 q2)
                    clear hbr hyj
                    by_cases hjl : j < nd.kids.length
                    · have hj2 : (j : Int) < (nd.kids.length : Int) := by omega
                      obtain ⟨bb2, off2, rfl, hcell⟩ := HIJ.out.2.2 (by omega)
                      have hbb2 := cellK_lt (hcell j hjl)
                      obtain ⟨e0, e1, e2, e3⟩ := hcell j hjl
                      obtain ⟨yy, hlk, hyh, hym⟩ := HTN.out _ (List.getElem_mem hjl)
                      have hlv := live_of_look HSJ.out.s.inv hlk
                      have hgt := getA_live B A' nd.kids[j].1 wr HSJ.out.s.is HSJ.out.s.inv hlv.1
                      rw [hlv.2] at hgt
                      have HOY := Lib.hid (HSJ.out.s.inv.ok _ (lookI_some_mem hlk))
                      have HGT := Lib.hid hgt
                      have ch3 : (yy.h != nd.h - 1) = false := by rw [bne_eq_false_iff_eq]; exact hyh
                      have HYM := Lib.hid hym
                      clear hcell hlk hyh hym hlv hgt
                      simp only at HOY
                      generalize nd.kids[j] = kd at *
                      obtain ⟨kat, m0, m1, m2⟩ := kd
                      simp only at e0 e1 e2 e3 HYM HGT
                      go_wp2_with fail
                      refine (HGT.out).mono ?_; rintro e w7 ⟨v, rfl, hown, hb7⟩
                      obtain ⟨sl, rfl, hks⟩ := hown
                      obtain ⟨ao3, cap3, rfl, hik, -, -⟩ := hks.ks
                      have HB7 := Lib.hid (hb7.alloc hb7.size (.cells #[.int .i64 yy.h, .string yy.text, .slice ao3 yy.kids.length cap3] 36))
                      have hy7 := block_new w7 (.cells #[.int .i64 yy.h, .string yy.text, .slice ao3 yy.kids.length cap3] 36)
                      have HY7 := Lib.hid hy7
                      have HIK7 := Lib.hid (hik.later ((Below.refl _ _).alloc (Nat.le_refl _) (.cells #[.int .i64 yy.h, .string yy.text, .slice ao3 yy.kids.length cap3] 36)))
                      clear hb7 hks hik q0 q1 q2 f0 f1 f2 hz HGT
                      (have q0 := block_cell hy7 0; have q1 := block_cell hy7 1; have q2 := block_cell hy7 2; have f0 := block_free hy7 0; have f1 := block_free hy7 1; have f2 := block_free hy7 2; have hz := block_lt hy7; simp at q0 q1 q2)
                      clear hy7
                      go_wp2_with fail
                      refine (measure_any yy ao3 yy.kids.length cap3 _ HIK7.out).mono ?_; rintro e w8 ⟨rfl, hb8⟩
                      rw [HOY.out, HYM.out]
                      unfold aggM
                      simp only
                      have HB8 := Lib.hid (below_two HB7.out hb8)
                      have HY8 := Lib.hid (block_below hb8 HY7.out (block_lt HY7.out))
                      clear hb8 q0 q1 q2 f0 f1 f2 hz HIK7 HB7 HY7
                      go_wp2_with fail
                      have HB9 := Lib.hid (HB8.out.alloc HB8.out.size (.cells #[.int .i64 m0, .int .i64 m1, .int .i64 m2] 62))
                      have hy9 := block_alloc HY8.out (.cells #[.int .i64 m0, .int .i64 m1, .int .i64 m2] 62)
                      have hm9 := block_new w8 (.cells #[.int .i64 m0, .int .i64 m1, .int .i64 m2] 62)
                      generalize w8.alloc (.cells #[.int .i64 m0, .int .i64 m1, .int .i64 m2] 62) = w9 at *
                      have hx9 := block_below HB9.out HYJ.out (block_lt HYJ.out)
                      have x1 := (HB9.out.cell (p := ⟨bb2, _, none⟩) hbb2).trans e1
                      have x2 := (HB9.out.cell (p := ⟨bb2, _, none⟩) hbb2).trans e2
                      have x3 := (HB9.out.cell (p := ⟨bb2, _, none⟩) hbb2).trans e3
                      have p0 := block_cell hy9 0
                      have r0 := block_cell hm9 0
                      have r1 := block_cell hm9 1
                      have r2 := block_cell hm9 2
                      simp at p0 r0 r1 r2
                      (have q0 := block_cell hx9 0; have q1 := block_cell hx9 1; have q2 := block_cell hx9 2; have f0 := block_free hx9 0; have f1 := block_free hx9 1; have f2 := block_free hx9 2; have hz := block_lt hx9; simp at q0 q1 q2)
                      clear hy9 hm9 hx9 e0 e1 e2 e3
                      have HBE := Lib.hid (fun n => (HBJ.out.trans ((below_drewN HB9.out n).mono HBJ.out.size)))
                      go_quiet (fail)
                      go_wp2_with fail
                      go_roundw
                      case rel => exact ⟨j + 1, by omega, by go_num, HBE.out _⟩
                      case measure => simp [intOf]; omega
                    · obtain rfl : j = nd.kids.length := by omega
                      have HBF := Lib.hid (HB6.out.trans (HBJ.out.mono HB6.out.size))
                      go_wp2_with fail
                      go_roundw
                      case rel => exact ⟨i + 1, by omega, by go_num, HBF.out⟩
                      case measure => simp [intOf]; omega
                · obtain rfl : i = il := by omega
                  go_wp2_with fail
                  go_roundw
                  case rel => exact ⟨k + 1, A', L ++ [⟨h, x, ao, c2⟩], by omega, by omega, by go_num, HSR.out, HTZ.out, by rw [List.length_append]; simp; omega, hst1⟩
                  case measure => simp [intOf]; omega
          · as_aux_lemma =>
              have he1 : (e == 0) = false := by simpa using he
              have hpf : PF A (playS A L d) 0 0 0 := by rw [hS]; exact PF.refl A
              have hti : TI (playS A L d) := by rw [hS]; exact HTI.out
              clear hS
              rw [hr] at hp
              unfold PlayR at hp
              simp only at hp
              obtain ⟨A', hA'⟩ : ∃ A', A' = playS A L d := ⟨_, rfl⟩
              rw [← hA'] at hp hpf hti
              clear hA' hr
              have HP := Lib.hid hp
              have HPF := Lib.hid hpf
              have HTZ := Lib.hid hti
              clear hp hpf hti he
              refine (HP.out).mono ?_; rintro e w2 ⟨ao, c2, rfl, hks, hs2, hk2⟩
              have HS2 := Lib.hid ((HST.out.turn hk2 hs2).alloc (.cells #[.int .i64 x.h, .string x.text, .slice ao x.kids.length c2] 36))
              clear hks hs2 hk2 HP
              go_wp2_with fail
              have HSZ := HS2
              clear HS2
              generalize w2.alloc (.cells #[.int .i64 x.h, .string x.text, .slice ao x.kids.length c2] 36) = wz at *
              have hst1 : A'.st ≤ k + 1 := by have := HPF.out.st; omega
              have hn1 := parts_n HSZ.out.s.inv.f
              have hn2 := HSZ.out.s.inv.f.n2
              have hil16 : (slotsTo A'.x 1 A'.x.n).length ≤ 16384 := by omega
              clear hn1 hn2
              refine (handlesA_any B A' wz HSZ.out.s.is HSZ.out.s.inv.f).mono ?_; rintro e wh hh2
              obtain ⟨vl, rfl, hfl, hb⟩ := hh2.rs
              obtain ⟨il, hil⟩ : ∃ il, il = (slotsTo A'.x 1 A'.x.n).length := ⟨_, rfl⟩
              rw [← hil] at hfl hil16
              have HIL := Lib.hid hil
              obtain ⟨al, cl, rfl, -⟩ := id hfl
              have HL1 := Lib.hid (show Rs wh wz.heap.size 31 (.slice al il cl) il (fun i => .int .u64 (hsF A'.x i)) from hfl)
              have HS1 := Lib.hid (HSZ.out.below hb)
              clear hh2 hfl hb hil HSZ
              go_wp2_with fail
              go_loopw [16] (fun s16 wr => ∃ i : Nat, i ≤ il ∧ s16 = .int .i64 i ∧ Below wh.heap.size wh wr) (fun s16 _ => il - (intOf s16).toNat)
              case atStart => exact ⟨0, Nat.zero_le _, rfl, Below.refl _ _⟩
              case round =>
                obtain ⟨i, hin, rfl, hbr⟩ := hrel
                have HBR := Lib.hid hbr
                have HSR := Lib.hid (HS1.out.below hbr)
                have HLR := Lib.hid (show Rs wr wz.heap.size 31 (.slice al il cl) il (fun i => .int .u64 (hsF A'.x i)) from HL1.out.keep hbr (Nat.le_refl _))
                clear hbr
                by_cases hlt3 : i < il
                · have hj1 : (i : Int) < (il : Int) := by omega
                  obtain ⟨b, rfl, hcell⟩ := HLR.out.cell hlt3
                  have q0 : wr.cell? ⟨b, i, none⟩ = some (.int .u64 (hsF A'.x i)) := hcell
                  have hlv := hsF_live HSR.out.s.inv.f (i := i) (by rw [← HIL.out]; exact hlt3)
                  have hmem := (nodeOf_live HSR.out.s.inv hlv).1
                  have HOK := Lib.hid (HSR.out.s.inv.ok _ hmem)
                  have HTN := Lib.hid (HTZ.out _ hmem)
                  have HGT := Lib.hid (getA_live B A' (hsF A'.x i) wr HSR.out.s.is HSR.out.s.inv hlv)
                  clear hcell hlv hmem
                  simp only at HOK HTN
                  generalize nodeOf A' (hsF A'.x i) = nd at *
                  generalize hsF A'.x i = th at *
                  go_wp2_with fail
                  refine (HGT.out).mono ?_; rintro e w5 ⟨v, rfl, hown, hb5⟩
                  obtain ⟨sl, rfl, hks⟩ := hown
                  obtain ⟨ao2, cap2, rfl, hik, -, -⟩ := hks.ks
                  have HB5 := Lib.hid (HBR.out.trans ((hb5.alloc hb5.size (.cells #[.int .i64 nd.h, .string nd.text, .slice ao2 nd.kids.length cap2] 36)).mono HBR.out.size))
                  have HS5 := Lib.hid ((HSR.out.below hb5).alloc (.cells #[.int .i64 nd.h, .string nd.text, .slice ao2 nd.kids.length cap2] 36))
                  have hy5 := block_new w5 (.cells #[.int .i64 nd.h, .string nd.text, .slice ao2 nd.kids.length cap2] 36)
                  have HY5 := Lib.hid hy5
                  have HIK := Lib.hid (hik.later ((Below.refl _ _).alloc (Nat.le_refl _) (.cells #[.int .i64 nd.h, .string nd.text, .slice ao2 nd.kids.length cap2] 36)))
                  have hk4 := kids4 HOK.out
                  have hnh := ck_h HOK.out
                  clear hb5 hks hik q0 HGT HLR HSR
                  (have q0 := block_cell hy5 0; have q1 := block_cell hy5 1; have q2 := block_cell hy5 2; have f0 := block_free hy5 0; have f1 := block_free hy5 1; have f2 := block_free hy5 2; have hz := block_lt hy5; simp at q0 q1 q2)
                  clear hy5
                  go_wp2_with fail
                  refine (check_any nd ao2 nd.kids.length cap2 _ HIK.out).mono ?_; rintro e w6 ⟨rfl, hb6⟩
                  rw [HOK.out]
                  have HB6 := Lib.hid (HB5.out.trans (hb6.mono HB5.out.size))
                  have HS6 := Lib.hid (HS5.out.below hb6)
                  have HY6 := Lib.hid (block_below hb6 HY5.out (block_lt HY5.out))
                  have HIK6 := Lib.hid (HIK.out.later hb6)
                  clear hb6 q0 q1 q2 f0 f1 f2 hz HB5 HS5 HY5 HIK
                  go_wp2_with fail
                  obtain ⟨Y, hY⟩ : ∃ Y, Y = w5.heap.size := ⟨_, rfl⟩
                  rw [← hY] at HY6
                  rw [← hY]
                  clear hY
                  go_loopw [19] (fun s19 wr => ∃ j : Nat, j ≤ nd.kids.length ∧ s19 = .int .i64 j ∧ Below w6.heap.size w6 wr) (fun s19 _ => nd.kids.length - (intOf s19).toNat)
                  case atStart => exact ⟨0, Nat.zero_le _, rfl, Below.refl _ _⟩
                  case round =>
                    obtain ⟨j, hjn, rfl, hbr⟩ := hrel
                    have HBJ := Lib.hid hbr
                    have HSJ := Lib.hid (HS6.out.below hbr)
                    have HYJ := Lib.hid (block_below hbr HY6.out (block_lt HY6.out))
                    have HIJ := Lib.hid (HIK6.out.later hbr)
                    have hyj := HYJ.out
                    (have q0 := block_cell hyj 0; have q1 := block_cell hyj 1; have q2 := block_cell hyj 2; have f0 := block_free hyj 0; have f1 := block_free hyj 1; have f2 := block_free hyj 2; have hz := block_lt hyj; simp at q0 q1 q2)
                    clear hbr hyj
                    by_cases hjl : j < nd.kids.length
                    · have hj2 : (j : Int) < (nd.kids.length : Int) := by omega
                      obtain ⟨bb2, off2, rfl, hcell⟩ := HIJ.out.2.2 (by omega)
                      have hbb2 := cellK_lt (hcell j hjl)
                      obtain ⟨e0, e1, e2, e3⟩ := hcell j hjl
                      obtain ⟨yy, hlk, hyh, hym⟩ := HTN.out _ (List.getElem_mem hjl)
                      have hlv := live_of_look HSJ.out.s.inv hlk
                      have hgt := getA_live B A' nd.kids[j].1 wr HSJ.out.s.is HSJ.out.s.inv hlv.1
                      rw [hlv.2] at hgt
                      have HOY := Lib.hid (HSJ.out.s.inv.ok _ (lookI_some_mem hlk))
                      have HGT := Lib.hid hgt
                      have ch3 : (yy.h != nd.h - 1) = false := by rw [bne_eq_false_iff_eq]; exact hyh
                      have HYM := Lib.hid hym
                      clear hcell hlk hyh hym hlv hgt
                      simp only at HOY
                      generalize nd.kids[j] = kd at *
                      obtain ⟨kat, m0, m1, m2⟩ := kd
                      simp only at e0 e1 e2 e3 HYM HGT
                      go_wp2_with fail
                      refine (HGT.out).mono ?_; rintro e w7 ⟨v, rfl, hown, hb7⟩
                      obtain ⟨sl, rfl, hks⟩ := hown
                      obtain ⟨ao3, cap3, rfl, hik, -, -⟩ := hks.ks
                      have HB7 := Lib.hid (hb7.alloc hb7.size (.cells #[.int .i64 yy.h, .string yy.text, .slice ao3 yy.kids.length cap3] 36))
                      have hy7 := block_new w7 (.cells #[.int .i64 yy.h, .string yy.text, .slice ao3 yy.kids.length cap3] 36)
                      have HY7 := Lib.hid hy7
                      have HIK7 := Lib.hid (hik.later ((Below.refl _ _).alloc (Nat.le_refl _) (.cells #[.int .i64 yy.h, .string yy.text, .slice ao3 yy.kids.length cap3] 36)))
                      clear hb7 hks hik q0 q1 q2 f0 f1 f2 hz HGT
                      (have q0 := block_cell hy7 0; have q1 := block_cell hy7 1; have q2 := block_cell hy7 2; have f0 := block_free hy7 0; have f1 := block_free hy7 1; have f2 := block_free hy7 2; have hz := block_lt hy7; simp at q0 q1 q2)
                      clear hy7
                      go_wp2_with fail
                      refine (measure_any yy ao3 yy.kids.length cap3 _ HIK7.out).mono ?_; rintro e w8 ⟨rfl, hb8⟩
                      rw [HOY.out, HYM.out]
                      unfold aggM
                      simp only
                      have HB8 := Lib.hid (below_two HB7.out hb8)
                      have HY8 := Lib.hid (block_below hb8 HY7.out (block_lt HY7.out))
                      clear hb8 q0 q1 q2 f0 f1 f2 hz HIK7 HB7 HY7
                      go_wp2_with fail
                      have HB9 := Lib.hid (HB8.out.alloc HB8.out.size (.cells #[.int .i64 m0, .int .i64 m1, .int .i64 m2] 62))
                      have hy9 := block_alloc HY8.out (.cells #[.int .i64 m0, .int .i64 m1, .int .i64 m2] 62)
                      have hm9 := block_new w8 (.cells #[.int .i64 m0, .int .i64 m1, .int .i64 m2] 62)
                      generalize w8.alloc (.cells #[.int .i64 m0, .int .i64 m1, .int .i64 m2] 62) = w9 at *
                      have hx9 := block_below HB9.out HYJ.out (block_lt HYJ.out)
                      have x1 := (HB9.out.cell (p := ⟨bb2, _, none⟩) hbb2).trans e1
                      have x2 := (HB9.out.cell (p := ⟨bb2, _, none⟩) hbb2).trans e2
                      have x3 := (HB9.out.cell (p := ⟨bb2, _, none⟩) hbb2).trans e3
                      have p0 := block_cell hy9 0
                      have r0 := block_cell hm9 0
                      have r1 := block_cell hm9 1
                      have r2 := block_cell hm9 2
                      simp at p0 r0 r1 r2
                      (have q0 := block_cell hx9 0; have q1 := block_cell hx9 1; have q2 := block_cell hx9 2; have f0 := block_free hx9 0; have f1 := block_free hx9 1; have f2 := block_free hx9 2; have hz := block_lt hx9; simp at q0 q1 q2)
                      clear hy9 hm9 hx9 e0 e1 e2 e3
                      have HBE := Lib.hid (fun n => (HBJ.out.trans ((below_drewN HB9.out n).mono HBJ.out.size)))
                      go_quiet (fail)
                      go_wp2_with fail
                      go_roundw
                      case rel => exact ⟨j + 1, by omega, by go_num, HBE.out _⟩
                      case measure => simp [intOf]; omega
                    · obtain rfl : j = nd.kids.length := by omega
                      have HBF := Lib.hid (HB6.out.trans (HBJ.out.mono HB6.out.size))
                      go_wp2_with fail
                      go_roundw
                      case rel => exact ⟨i + 1, by omega, by go_num, HBF.out⟩
                      case measure => simp [intOf]; omega
                · obtain rfl : i = il := by omega
                  go_wp2_with fail
                  go_roundw
                  case rel => exact ⟨k + 1, A', L, by omega, by omega, by go_num, HSR.out, HTZ.out, by omega, hst1⟩
                  case measure => simp [intOf]; omega
          · as_aux_lemma =>
              have hpf : PF A (playS A L d) 0 0 0 := by rw [hS]; exact PF.refl A
              have hti : TI (playS A L d) := by rw [hS]; exact HTI.out
              clear hS
              rw [hr] at hp
              unfold PlayR at hp
              simp only at hp
              obtain ⟨A', hA'⟩ : ∃ A', A' = playS A L d := ⟨_, rfl⟩
              rw [← hA'] at hp hpf hti
              clear hA' hr
              have HP := Lib.hid hp
              have HPF := Lib.hid hpf
              have HTZ := Lib.hid hti
              clear hp hpf hti
              generalize nodeOf A h = xz at *
              refine (HP.out).mono ?_; rintro e w2 ⟨ao, c2, rfl, hks, hs2, hk2⟩
              have HS2 := Lib.hid ((HST.out.turn hk2 hs2).alloc (.cells #[.int .i64 xz.h, .string xz.text, .slice ao xz.kids.length c2] 36))
              clear hks hs2 hk2 HP
              go_wp2_with fail
              have HSZ := HS2
              clear HS2
              generalize w2.alloc (.cells #[.int .i64 xz.h, .string xz.text, .slice ao xz.kids.length c2] 36) = wz at *
              have hst1 : A'.st ≤ k + 1 := by have := HPF.out.st; omega
              have hn1 := parts_n HSZ.out.s.inv.f
              have hn2 := HSZ.out.s.inv.f.n2
              have hil16 : (slotsTo A'.x 1 A'.x.n).length ≤ 16384 := by omega
              clear hn1 hn2
              refine (handlesA_any B A' wz HSZ.out.s.is HSZ.out.s.inv.f).mono ?_; rintro e wh hh2
              obtain ⟨vl, rfl, hfl, hb⟩ := hh2.rs
              obtain ⟨il, hil⟩ : ∃ il, il = (slotsTo A'.x 1 A'.x.n).length := ⟨_, rfl⟩
              rw [← hil] at hfl hil16
              have HIL := Lib.hid hil
              obtain ⟨al, cl, rfl, -⟩ := id hfl
              have HL1 := Lib.hid (show Rs wh wz.heap.size 31 (.slice al il cl) il (fun i => .int .u64 (hsF A'.x i)) from hfl)
              have HS1 := Lib.hid (HSZ.out.below hb)
              clear hh2 hfl hb hil HSZ
              go_wp2_with fail
              go_loopw [16] (fun s16 wr => ∃ i : Nat, i ≤ il ∧ s16 = .int .i64 i ∧ Below wh.heap.size wh wr) (fun s16 _ => il - (intOf s16).toNat)
              case atStart => exact ⟨0, Nat.zero_le _, rfl, Below.refl _ _⟩
              case round =>
                obtain ⟨i, hin, rfl, hbr⟩ := hrel
                have HBR := Lib.hid hbr
                have HSR := Lib.hid (HS1.out.below hbr)
                have HLR := Lib.hid (show Rs wr wz.heap.size 31 (.slice al il cl) il (fun i => .int .u64 (hsF A'.x i)) from HL1.out.keep hbr (Nat.le_refl _))
                clear hbr
                by_cases hlt3 : i < il
                · have hj1 : (i : Int) < (il : Int) := by omega
                  obtain ⟨b, rfl, hcell⟩ := HLR.out.cell hlt3
                  have q0 : wr.cell? ⟨b, i, none⟩ = some (.int .u64 (hsF A'.x i)) := hcell
                  have hlv := hsF_live HSR.out.s.inv.f (i := i) (by rw [← HIL.out]; exact hlt3)
                  have hmem := (nodeOf_live HSR.out.s.inv hlv).1
                  have HOK := Lib.hid (HSR.out.s.inv.ok _ hmem)
                  have HTN := Lib.hid (HTZ.out _ hmem)
                  have HGT := Lib.hid (getA_live B A' (hsF A'.x i) wr HSR.out.s.is HSR.out.s.inv hlv)
                  clear hcell hlv hmem
                  simp only at HOK HTN
                  generalize nodeOf A' (hsF A'.x i) = nd at *
                  generalize hsF A'.x i = th at *
                  go_wp2_with fail
                  refine (HGT.out).mono ?_; rintro e w5 ⟨v, rfl, hown, hb5⟩
                  obtain ⟨sl, rfl, hks⟩ := hown
                  obtain ⟨ao2, cap2, rfl, hik, -, -⟩ := hks.ks
                  have HB5 := Lib.hid (HBR.out.trans ((hb5.alloc hb5.size (.cells #[.int .i64 nd.h, .string nd.text, .slice ao2 nd.kids.length cap2] 36)).mono HBR.out.size))
                  have HS5 := Lib.hid ((HSR.out.below hb5).alloc (.cells #[.int .i64 nd.h, .string nd.text, .slice ao2 nd.kids.length cap2] 36))
                  have hy5 := block_new w5 (.cells #[.int .i64 nd.h, .string nd.text, .slice ao2 nd.kids.length cap2] 36)
                  have HY5 := Lib.hid hy5
                  have HIK := Lib.hid (hik.later ((Below.refl _ _).alloc (Nat.le_refl _) (.cells #[.int .i64 nd.h, .string nd.text, .slice ao2 nd.kids.length cap2] 36)))
                  have hk4 := kids4 HOK.out
                  have hnh := ck_h HOK.out
                  clear hb5 hks hik q0 HGT HLR HSR
                  (have q0 := block_cell hy5 0; have q1 := block_cell hy5 1; have q2 := block_cell hy5 2; have f0 := block_free hy5 0; have f1 := block_free hy5 1; have f2 := block_free hy5 2; have hz := block_lt hy5; simp at q0 q1 q2)
                  clear hy5
                  go_wp2_with fail
                  refine (check_any nd ao2 nd.kids.length cap2 _ HIK.out).mono ?_; rintro e w6 ⟨rfl, hb6⟩
                  rw [HOK.out]
                  have HB6 := Lib.hid (HB5.out.trans (hb6.mono HB5.out.size))
                  have HS6 := Lib.hid (HS5.out.below hb6)
                  have HY6 := Lib.hid (block_below hb6 HY5.out (block_lt HY5.out))
                  have HIK6 := Lib.hid (HIK.out.later hb6)
                  clear hb6 q0 q1 q2 f0 f1 f2 hz HB5 HS5 HY5 HIK
                  go_wp2_with fail
                  obtain ⟨Y, hY⟩ : ∃ Y, Y = w5.heap.size := ⟨_, rfl⟩
                  rw [← hY] at HY6
                  rw [← hY]
                  clear hY
                  go_loopw [19] (fun s19 wr => ∃ j : Nat, j ≤ nd.kids.length ∧ s19 = .int .i64 j ∧ Below w6.heap.size w6 wr) (fun s19 _ => nd.kids.length - (intOf s19).toNat)
                  case atStart => exact ⟨0, Nat.zero_le _, rfl, Below.refl _ _⟩
                  case round =>
                    obtain ⟨j, hjn, rfl, hbr⟩ := hrel
                    have HBJ := Lib.hid hbr
                    have HSJ := Lib.hid (HS6.out.below hbr)
                    have HYJ := Lib.hid (block_below hbr HY6.out (block_lt HY6.out))
                    have HIJ := Lib.hid (HIK6.out.later hbr)
                    have hyj := HYJ.out
                    (have q0 := block_cell hyj 0; have q1 := block_cell hyj 1; have q2 := block_cell hyj 2; have f0 := block_free hyj 0; have f1 := block_free hyj 1; have f2 := block_free hyj 2; have hz := block_lt hyj; simp at q0 q1 q2)
                    clear hbr hyj
                    by_cases hjl : j < nd.kids.length
                    · have hj2 : (j : Int) < (nd.kids.length : Int) := by omega
                      obtain ⟨bb2, off2, rfl, hcell⟩ := HIJ.out.2.2 (by omega)
                      have hbb2 := cellK_lt (hcell j hjl)
                      obtain ⟨e0, e1, e2, e3⟩ := hcell j hjl
                      obtain ⟨yy, hlk, hyh, hym⟩ := HTN.out _ (List.getElem_mem hjl)
                      have hlv := live_of_look HSJ.out.s.inv hlk
                      have hgt := getA_live B A' nd.kids[j].1 wr HSJ.out.s.is HSJ.out.s.inv hlv.1
                      rw [hlv.2] at hgt
                      have HOY := Lib.hid (HSJ.out.s.inv.ok _ (lookI_some_mem hlk))
                      have HGT := Lib.hid hgt
                      have ch3 : (yy.h != nd.h - 1) = false := by rw [bne_eq_false_iff_eq]; exact hyh
                      have HYM := Lib.hid hym
                      clear hcell hlk hyh hym hlv hgt
                      simp only at HOY
                      generalize nd.kids[j] = kd at *
                      obtain ⟨kat, m0, m1, m2⟩ := kd
                      simp only at e0 e1 e2 e3 HYM HGT
                      go_wp2_with fail
                      refine (HGT.out).mono ?_; rintro e w7 ⟨v, rfl, hown, hb7⟩
                      obtain ⟨sl, rfl, hks⟩ := hown
                      obtain ⟨ao3, cap3, rfl, hik, -, -⟩ := hks.ks
                      have HB7 := Lib.hid (hb7.alloc hb7.size (.cells #[.int .i64 yy.h, .string yy.text, .slice ao3 yy.kids.length cap3] 36))
                      have hy7 := block_new w7 (.cells #[.int .i64 yy.h, .string yy.text, .slice ao3 yy.kids.length cap3] 36)
                      have HY7 := Lib.hid hy7
                      have HIK7 := Lib.hid (hik.later ((Below.refl _ _).alloc (Nat.le_refl _) (.cells #[.int .i64 yy.h, .string yy.text, .slice ao3 yy.kids.length cap3] 36)))
                      clear hb7 hks hik q0 q1 q2 f0 f1 f2 hz HGT
                      (have q0 := block_cell hy7 0; have q1 := block_cell hy7 1; have q2 := block_cell hy7 2; have f0 := block_free hy7 0; have f1 := block_free hy7 1; have f2 := block_free hy7 2; have hz := block_lt hy7; simp at q0 q1 q2)
                      clear hy7
                      go_wp2_with fail
                      refine (measure_any yy ao3 yy.kids.length cap3 _ HIK7.out).mono ?_; rintro e w8 ⟨rfl, hb8⟩
                      rw [HOY.out, HYM.out]
                      unfold aggM
                      simp only
                      have HB8 := Lib.hid (below_two HB7.out hb8)
                      have HY8 := Lib.hid (block_below hb8 HY7.out (block_lt HY7.out))
                      clear hb8 q0 q1 q2 f0 f1 f2 hz HIK7 HB7 HY7
                      go_wp2_with fail
                      have HB9 := Lib.hid (HB8.out.alloc HB8.out.size (.cells #[.int .i64 m0, .int .i64 m1, .int .i64 m2] 62))
                      have hy9 := block_alloc HY8.out (.cells #[.int .i64 m0, .int .i64 m1, .int .i64 m2] 62)
                      have hm9 := block_new w8 (.cells #[.int .i64 m0, .int .i64 m1, .int .i64 m2] 62)
                      generalize w8.alloc (.cells #[.int .i64 m0, .int .i64 m1, .int .i64 m2] 62) = w9 at *
                      have hx9 := block_below HB9.out HYJ.out (block_lt HYJ.out)
                      have x1 := (HB9.out.cell (p := ⟨bb2, _, none⟩) hbb2).trans e1
                      have x2 := (HB9.out.cell (p := ⟨bb2, _, none⟩) hbb2).trans e2
                      have x3 := (HB9.out.cell (p := ⟨bb2, _, none⟩) hbb2).trans e3
                      have p0 := block_cell hy9 0
                      have r0 := block_cell hm9 0
                      have r1 := block_cell hm9 1
                      have r2 := block_cell hm9 2
                      simp at p0 r0 r1 r2
                      (have q0 := block_cell hx9 0; have q1 := block_cell hx9 1; have q2 := block_cell hx9 2; have f0 := block_free hx9 0; have f1 := block_free hx9 1; have f2 := block_free hx9 2; have hz := block_lt hx9; simp at q0 q1 q2)
                      clear hy9 hm9 hx9 e0 e1 e2 e3
                      have HBE := Lib.hid (fun n => (HBJ.out.trans ((below_drewN HB9.out n).mono HBJ.out.size)))
                      go_quiet (fail)
                      go_wp2_with fail
                      go_roundw
                      case rel => exact ⟨j + 1, by omega, by go_num, HBE.out _⟩
                      case measure => simp [intOf]; omega
                    · obtain rfl : j = nd.kids.length := by omega
                      have HBF := Lib.hid (HB6.out.trans (HBJ.out.mono HB6.out.size))
                      go_wp2_with fail
                      go_roundw
                      case rel => exact ⟨i + 1, by omega, by go_num, HBF.out⟩
                      case measure => simp [intOf]; omega
                · obtain rfl : i = il := by omega
                  go_wp2_with fail
                  go_roundw
                  case rel => exact ⟨k + 1, A', L, by omega, by omega, by go_num, HSR.out, HTZ.out, by omega, hst1⟩
                  case measure => simp [intOf]; omega
          · as_aux_lemma =>
              have hpf : PF A (playS A L d) 0 0 1 := by rw [hS]; exact ⟨rfl, rfl, rfl, rfl, rfl⟩
              have hti : TI (playS A L d) := by rw [hS]; exact HTI.out.same rfl
              clear hS
              rw [hr] at hp
              unfold PlayR at hp
              simp only at hp
              obtain ⟨A', hA'⟩ : ∃ A', A' = playS A L d := ⟨_, rfl⟩
              rw [← hA'] at hp hpf hti
              clear hA' hr
              have HP := Lib.hid hp
              have HPF := Lib.hid hpf
              have HTZ := Lib.hid hti
              clear hp hpf hti
              unfold noN at HP
              simp only [List.length_nil] at HP
              refine (HP.out).mono ?_; rintro e w2 ⟨ao, c2, rfl, hks, hs2, hk2⟩
              have HS2 := Lib.hid ((HST.out.turn hk2 hs2).alloc (.cells #[.int .i64 0, .string ⟨#[]⟩, .slice ao 0 c2] 36))
              clear hks hs2 hk2 HP
              go_wp2_with fail
              have HSZ := HS2
              clear HS2
              generalize w2.alloc (.cells #[.int .i64 0, .string ⟨#[]⟩, .slice ao 0 c2] 36) = wz at *
              have hst1 : A'.st ≤ k + 1 := by have := HPF.out.st; omega
              have hn1 := parts_n HSZ.out.s.inv.f
              have hn2 := HSZ.out.s.inv.f.n2
              have hil16 : (slotsTo A'.x 1 A'.x.n).length ≤ 16384 := by omega
              clear hn1 hn2
              refine (handlesA_any B A' wz HSZ.out.s.is HSZ.out.s.inv.f).mono ?_; rintro e wh hh2
              obtain ⟨vl, rfl, hfl, hb⟩ := hh2.rs
              obtain ⟨il, hil⟩ : ∃ il, il = (slotsTo A'.x 1 A'.x.n).length := ⟨_, rfl⟩
              rw [← hil] at hfl hil16
              have HIL := Lib.hid hil
              obtain ⟨al, cl, rfl, -⟩ := id hfl
              have HL1 := Lib.hid (show Rs wh wz.heap.size 31 (.slice al il cl) il (fun i => .int .u64 (hsF A'.x i)) from hfl)
              have HS1 := Lib.hid (HSZ.out.below hb)
              clear hh2 hfl hb hil HSZ
              go_wp2_with fail
              go_loopw [16] (fun s16 wr => ∃ i : Nat, i ≤ il ∧ s16 = .int .i64 i ∧ Below wh.heap.size wh wr) (fun s16 _ => il - (intOf s16).toNat)
              case atStart => exact ⟨0, Nat.zero_le _, rfl, Below.refl _ _⟩
              case round =>
                obtain ⟨i, hin, rfl, hbr⟩ := hrel
                have HBR := Lib.hid hbr
                have HSR := Lib.hid (HS1.out.below hbr)
                have HLR := Lib.hid (show Rs wr wz.heap.size 31 (.slice al il cl) il (fun i => .int .u64 (hsF A'.x i)) from HL1.out.keep hbr (Nat.le_refl _))
                clear hbr
                by_cases hlt3 : i < il
                · have hj1 : (i : Int) < (il : Int) := by omega
                  obtain ⟨b, rfl, hcell⟩ := HLR.out.cell hlt3
                  have q0 : wr.cell? ⟨b, i, none⟩ = some (.int .u64 (hsF A'.x i)) := hcell
                  have hlv := hsF_live HSR.out.s.inv.f (i := i) (by rw [← HIL.out]; exact hlt3)
                  have hmem := (nodeOf_live HSR.out.s.inv hlv).1
                  have HOK := Lib.hid (HSR.out.s.inv.ok _ hmem)
                  have HTN := Lib.hid (HTZ.out _ hmem)
                  have HGT := Lib.hid (getA_live B A' (hsF A'.x i) wr HSR.out.s.is HSR.out.s.inv hlv)
                  clear hcell hlv hmem
                  simp only at HOK HTN
                  generalize nodeOf A' (hsF A'.x i) = nd at *
                  generalize hsF A'.x i = th at *
                  go_wp2_with fail
                  refine (HGT.out).mono ?_; rintro e w5 ⟨v, rfl, hown, hb5⟩
                  obtain ⟨sl, rfl, hks⟩ := hown
                  obtain ⟨ao2, cap2, rfl, hik, -, -⟩ := hks.ks
                  have HB5 := Lib.hid (HBR.out.trans ((hb5.alloc hb5.size (.cells #[.int .i64 nd.h, .string nd.text, .slice ao2 nd.kids.length cap2] 36)).mono HBR.out.size))
                  have HS5 := Lib.hid ((HSR.out.below hb5).alloc (.cells #[.int .i64 nd.h, .string nd.text, .slice ao2 nd.kids.length cap2] 36))
                  have hy5 := block_new w5 (.cells #[.int .i64 nd.h, .string nd.text, .slice ao2 nd.kids.length cap2] 36)
                  have HY5 := Lib.hid hy5
                  have HIK := Lib.hid (hik.later ((Below.refl _ _).alloc (Nat.le_refl _) (.cells #[.int .i64 nd.h, .string nd.text, .slice ao2 nd.kids.length cap2] 36)))
                  have hk4 := kids4 HOK.out
                  have hnh := ck_h HOK.out
                  clear hb5 hks hik q0 HGT HLR HSR
                  (have q0 := block_cell hy5 0; have q1 := block_cell hy5 1; have q2 := block_cell hy5 2; have f0 := block_free hy5 0; have f1 := block_free hy5 1; have f2 := block_free hy5 2; have hz := block_lt hy5; simp at q0 q1 q2)
                  clear hy5
                  go_wp2_with fail
                  refine (check_any nd ao2 nd.kids.length cap2 _ HIK.out).mono ?_; rintro e w6 ⟨rfl, hb6⟩
                  rw [HOK.out]
                  have HB6 := Lib.hid (HB5.out.trans (hb6.mono HB5.out.size))
                  have HS6 := Lib.hid (HS5.out.below hb6)
                  have HY6 := Lib.hid (block_below hb6 HY5.out (block_lt HY5.out))
                  have HIK6 := Lib.hid (HIK.out.later hb6)
                  clear hb6 q0 q1 q2 f0 f1 f2 hz HB5 HS5 HY5 HIK
                  go_wp2_with fail
                  obtain ⟨Y, hY⟩ : ∃ Y, Y = w5.heap.size := ⟨_, rfl⟩
                  rw [← hY] at HY6
                  rw [← hY]
                  clear hY
                  go_loopw [19] (fun s19 wr => ∃ j : Nat, j ≤ nd.kids.length ∧ s19 = .int .i64 j ∧ Below w6.heap.size w6 wr) (fun s19 _ => nd.kids.length - (intOf s19).toNat)
                  case atStart => exact ⟨0, Nat.zero_le _, rfl, Below.refl _ _⟩
                  case round =>
                    obtain ⟨j, hjn, rfl, hbr⟩ := hrel
                    have HBJ := Lib.hid hbr
                    have HSJ := Lib.hid (HS6.out.below hbr)
                    have HYJ := Lib.hid (block_below hbr HY6.out (block_lt HY6.out))
                    have HIJ := Lib.hid (HIK6.out.later hbr)
                    have hyj := HYJ.out
                    (have q0 := block_cell hyj 0; have q1 := block_cell hyj 1; have q2 := block_cell hyj 2; have f0 := block_free hyj 0; have f1 := block_free hyj 1; have f2 := block_free hyj 2; have hz := block_lt hyj; simp at q0 q1 q2)
                    clear hbr hyj
                    by_cases hjl : j < nd.kids.length
                    · have hj2 : (j : Int) < (nd.kids.length : Int) := by omega
                      obtain ⟨bb2, off2, rfl, hcell⟩ := HIJ.out.2.2 (by omega)
                      have hbb2 := cellK_lt (hcell j hjl)
                      obtain ⟨e0, e1, e2, e3⟩ := hcell j hjl
                      obtain ⟨yy, hlk, hyh, hym⟩ := HTN.out _ (List.getElem_mem hjl)
                      have hlv := live_of_look HSJ.out.s.inv hlk
                      have hgt := getA_live B A' nd.kids[j].1 wr HSJ.out.s.is HSJ.out.s.inv hlv.1
                      rw [hlv.2] at hgt
                      have HOY := Lib.hid (HSJ.out.s.inv.ok _ (lookI_some_mem hlk))
                      have HGT := Lib.hid hgt
                      have ch3 : (yy.h != nd.h - 1) = false := by rw [bne_eq_false_iff_eq]; exact hyh
                      have HYM := Lib.hid hym
                      clear hcell hlk hyh hym hlv hgt
                      simp only at HOY
                      generalize nd.kids[j] = kd at *
                      obtain ⟨kat, m0, m1, m2⟩ := kd
                      simp only at e0 e1 e2 e3 HYM HGT
                      go_wp2_with fail
                      refine (HGT.out).mono ?_; rintro e w7 ⟨v, rfl, hown, hb7⟩
                      obtain ⟨sl, rfl, hks⟩ := hown
                      obtain ⟨ao3, cap3, rfl, hik, -, -⟩ := hks.ks
                      have HB7 := Lib.hid (hb7.alloc hb7.size (.cells #[.int .i64 yy.h, .string yy.text, .slice ao3 yy.kids.length cap3] 36))
                      have hy7 := block_new w7 (.cells #[.int .i64 yy.h, .string yy.text, .slice ao3 yy.kids.length cap3] 36)
                      have HY7 := Lib.hid hy7
                      have HIK7 := Lib.hid (hik.later ((Below.refl _ _).alloc (Nat.le_refl _) (.cells #[.int .i64 yy.h, .string yy.text, .slice ao3 yy.kids.length cap3] 36)))
                      clear hb7 hks hik q0 q1 q2 f0 f1 f2 hz HGT
                      (have q0 := block_cell hy7 0; have q1 := block_cell hy7 1; have q2 := block_cell hy7 2; have f0 := block_free hy7 0; have f1 := block_free hy7 1; have f2 := block_free hy7 2; have hz := block_lt hy7; simp at q0 q1 q2)
                      clear hy7
                      go_wp2_with fail
                      refine (measure_any yy ao3 yy.kids.length cap3 _ HIK7.out).mono ?_; rintro e w8 ⟨rfl, hb8⟩
                      rw [HOY.out, HYM.out]
                      unfold aggM
                      simp only
                      have HB8 := Lib.hid (below_two HB7.out hb8)
                      have HY8 := Lib.hid (block_below hb8 HY7.out (block_lt HY7.out))
                      clear hb8 q0 q1 q2 f0 f1 f2 hz HIK7 HB7 HY7
                      go_wp2_with fail
                      have HB9 := Lib.hid (HB8.out.alloc HB8.out.size (.cells #[.int .i64 m0, .int .i64 m1, .int .i64 m2] 62))
                      have hy9 := block_alloc HY8.out (.cells #[.int .i64 m0, .int .i64 m1, .int .i64 m2] 62)
                      have hm9 := block_new w8 (.cells #[.int .i64 m0, .int .i64 m1, .int .i64 m2] 62)
                      generalize w8.alloc (.cells #[.int .i64 m0, .int .i64 m1, .int .i64 m2] 62) = w9 at *
                      have hx9 := block_below HB9.out HYJ.out (block_lt HYJ.out)
                      have x1 := (HB9.out.cell (p := ⟨bb2, _, none⟩) hbb2).trans e1
                      have x2 := (HB9.out.cell (p := ⟨bb2, _, none⟩) hbb2).trans e2
                      have x3 := (HB9.out.cell (p := ⟨bb2, _, none⟩) hbb2).trans e3
                      have p0 := block_cell hy9 0
                      have r0 := block_cell hm9 0
                      have r1 := block_cell hm9 1
                      have r2 := block_cell hm9 2
                      simp at p0 r0 r1 r2
                      (have q0 := block_cell hx9 0; have q1 := block_cell hx9 1; have q2 := block_cell hx9 2; have f0 := block_free hx9 0; have f1 := block_free hx9 1; have f2 := block_free hx9 2; have hz := block_lt hx9; simp at q0 q1 q2)
                      clear hy9 hm9 hx9 e0 e1 e2 e3
                      have HBE := Lib.hid (fun n => (HBJ.out.trans ((below_drewN HB9.out n).mono HBJ.out.size)))
                      go_quiet (fail)
                      go_wp2_with fail
                      go_roundw
                      case rel => exact ⟨j + 1, by omega, by go_num, HBE.out _⟩
                      case measure => simp [intOf]; omega
                    · obtain rfl : j = nd.kids.length := by omega
                      have HBF := Lib.hid (HB6.out.trans (HBJ.out.mono HB6.out.size))
                      go_wp2_with fail
                      go_roundw
                      case rel => exact ⟨i + 1, by omega, by go_num, HBF.out⟩
                      case measure => simp [intOf]; omega
                · obtain rfl : i = il := by omega
                  go_wp2_with fail
                  go_roundw
                  case rel => exact ⟨k + 1, A', L, by omega, by omega, by go_num, HSR.out, HTZ.out, by omega, hst1⟩
                  case measure => simp [intOf]; omega
      · have hk2 : ¬ ((k : Int) < 40) := by omega
        go_wp2_with fail
        refine (awake13_any _).mono ?_; rintro e w6 ⟨rfl, hb⟩
        have HB := Lib.hid (below_two HST.out.s.low hb)
        clear hb
        go_wp2_with fail
        go_ret
        exact ⟨rfl, HB.out⟩
    · obtain rfl : k = len := by omega
      go_wp2_with fail
      refine (awake13_any _).mono ?_; rintro e w6 ⟨rfl, hb⟩
      have HB := Lib.hid (below_two HST.out.s.low hb)
      clear hb
      go_wp2_with fail
      go_ret
      exact ⟨rfl, HB.out⟩
end Go.Proofs.Ytfgkbnnojogjpaa
