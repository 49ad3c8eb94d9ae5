/- The arena: the law ArenaCounts. -/
import Derived.Test.YtfgkbnnojogjpaaQo
import Derived.IntWalk
namespace Go.Proofs.Ytfgkbnnojogjpaa
open Go.RowKit
set_option linter.unusedVariables false

/-- an arena of its own and the known nodes -/
structure St (w0 w : World) (B : PB) (A : AS) (v : Value) (L : List Kn) : Prop where
  s : SoloA w0 w B A
  a : AllK w0.heap.size w v L
theorem St.below {w0 w w' : World} {B : PB} {A : AS} {v : Value} {L : List Kn} (h : St w0 w B A v L) (k : Below w.heap.size w w') : St w0 w' B A v L := ⟨h.s.below k, h.a.below k⟩
theorem St.alloc {w0 w : World} {B : PB} {A : AS} {v : Value} {L : List Kn} (h : St w0 w B A v L) (o : Obj) : St w0 (w.alloc o) B A v L := h.below ((Below.refl _ _).alloc (Nat.le_refl _) o)
theorem St.turn {w0 w w' : World} {B : PB} {A A' : AS} {v : Value} {L : List Kn} (h : St w0 w B A v L) (k : KeepA B w w') (s : SoloA w0 w' B A') : St w0 w' B A' v L := ⟨s, h.a.turn h.s.is h.s.ge k⟩
theorem St.grow {w0 w w' : World} {B : PB} {A : AS} {v v' : Value} {L : List Kn} {k : Kn} (h : St w0 w B A v L) (hg : w.grownBy w' v.ownBlock) (hown : w'.ownsRow w0.heap.size 50 4 v' (L.length + 1) (flatR fKn L ++ flatR fKn [k])) (hk : KnOK w0.heap.size w k) : St w0 w' B A v' (L ++ [k]) := ⟨h.s.grown h.a hg, h.a.grow hg hown hk⟩
theorem St.far {w0 w w' : World} {B : PB} {A : AS} {v : Value} {L : List Kn} (h : St w0 w B A v L) (hg : w.grownBy w' v.ownBlock) {S : Nat} {cs : Array Value} {T : TypeId} (hc : w.heap[S]? = some (.cells cs T (0, 0))) (hT : T ≠ 50) : w'.heap[S]? = some (.cells cs T (0, 0)) :=
  (hg.block S (block_lt hc) (fun e => by
    obtain ⟨-, cur, hq⟩ := own_typ4 h.a.1 e.symm
    rw [hc] at hq; injection hq with hq; injection hq with _ hq; exact hT hq)).trans hc
theorem St.set {w0 w : World} {B : PB} {A : AS} {v : Value} {L : List Kn} (h : St w0 w B A v L) {S i : Nat} {cs : Array Value} (hS : w0.heap.size ≤ S) (hc : w.heap[S]? = some (.cells cs 38 (0, 0))) (x : Value) : St w0 (w.setCell ⟨S, i, none⟩ x) B A v L :=
  ⟨h.s.set hS (h.s.is.nownT hc (by decide) (by decide) (by decide) (by decide) (by decide)) (notKb hc (by decide)) x, h.a.set hS hc (by decide) (by decide) x⟩
def wantV (n : Int) (f l g : Int) (A : AS) : Array Value := #[.int .i64 n, .int .i64 f, .int .i64 l, .int .i64 g, .int .i64 A.al, .int .i64 A.fr, .int .i64 A.st]

theorem statsN {w0 w : World} {B : PB} {A : AS} {a c : Nat} (h : SoloA w0 w B A) (hn : A.x.n = a + 1) (hm : A.x.most = c + 1) : ∃ m il wd : Nat, stats A = .agg #[.int .i64 (1 + (a : Int)), .int .i64 m, .int .i64 il, .int .i64 wd, .int .i64 A.al, .int .i64 A.fr, .int .i64 A.st] ∧ A.x.m = m ∧ (slotsTo A.x 1 A.x.n).length = il ∧ (slotsTo A.x 2 A.x.n).length = wd ∧ m + il + wd = a + 1 ∧ A.al = A.fr + il ∧ wd ≤ A.fr ∧ A.al ≤ (a + 1) * (c + 1) := by
  have h1 := parts_n h.inv.f
  have h2 := h.cnt.facts h.inv.f
  refine ⟨_, _, _, ?_, rfl, rfl, rfl, by rw [← hn]; exact h1, h2.1, h2.2.1, by rw [← hn, ← hm]; exact h2.2.2⟩
  unfold stats
  rw [h.inv.len, show (A.x.n : Int) = 1 + (a : Int) by omega]
theorem wantV_al {n f l g : Int} {A A' : AS} (h : PF A A' 1 0 0) : (wantV n f l g A).setIfInBounds 4 (.int .i64 ((A.al : Int) + 1)) = wantV n f l g A' := by
  unfold wantV; rw [h.al, h.fr, h.st]; rfl
theorem wantV_fr {n f l g : Int} {A A' : AS} (h : PF A A' 0 1 0) : (wantV n f l g A).setIfInBounds 5 (.int .i64 ((A.fr : Int) + 1)) = wantV n f l g A' := by
  unfold wantV; rw [h.al, h.fr, h.st]; rfl
theorem wantV_st {n f l g : Int} {A A' : AS} (h : PF A A' 0 0 1) : (wantV n f l g A).setIfInBounds 6 (.int .i64 ((A.st : Int) + 1)) = wantV n f l g A' := by
  unfold wantV; rw [h.al, h.fr, h.st]; rfl
theorem wantV_no {n f l g : Int} {A A' : AS} (h : PF A A' 0 0 0) : wantV n f l g A = wantV n f l g A' := by
  unfold wantV; rw [h.al, h.fr, h.st]; rfl

set_option maxRecDepth 100000 in
set_option maxHeartbeats 8000000 in
theorem counts_any (n g : Int) (ao : Option Addr) (len cap : Nat) (l : List De) (w : World) (hr : Deeds w ao len l) (hlen : len ≤ 9223372036854775807) :
    Calls Try.prog 4 #[.int .i64 n, .int .i64 g, .slice ao len cap] w fun e w' => e = .returned (.bool true) ∧ Below w.heap.size w w' := by
  obtain ⟨i0, hi, hz0, hz1, hz2⟩ := info_parts infoKn
  obtain ⟨a, ha, hna⟩ := mod_nat n 12 (by decide)
  obtain ⟨c, hc, hgc⟩ := mod_nat g 3 (by decide)
  have M1 := Lib.hid (mod13_as n 12 a (by decide) (by decide) hna)
  have M2 := Lib.hid (mod13_as g 3 c (by decide) (by decide) hgc)
  have NA := Lib.hid (newA_at a c ha hc)
  have HR := Lib.hid hr
  have ha1 : (a : Int) < 12 := by omega
  have hc1 : (c : Int) < 3 := by omega
  clear hna hgc hr
  go_enter Try.func4, Try.ntmps4
  go_wp2_with fail
  refine (M1.out _).mono ?_; rintro e w1 ⟨rfl, rfl⟩
  go_wp2_with fail
  refine (M2.out _).mono ?_; rintro e w1 ⟨rfl, rfl⟩
  go_wp2_with fail
  refine (NA.out _).mono ?_; rintro e w1 ⟨B, rfl, hs⟩
  have HS1 := Lib.hid (St.alloc (⟨hs, AllK.nil _ _⟩ : St w w1 B (newA (a + 1) (c + 1)) (.slice none 0 0) []) (.cells #[.int .i64 (1 + (a : Int)), .int .i64 0, .int .i64 0, .int .i64 0, .int .i64 0, .int .i64 0, .int .i64 0] 38))
  have HX1 := Lib.hid (block_new w1 (.cells #[.int .i64 (1 + (a : Int)), .int .i64 0, .int .i64 0, .int .i64 0, .int .i64 0, .int .i64 0, .int .i64 0] 38))
  have HLS := Lib.hid hs.low.size
  clear hs M1 M2 NA
  go_wp2_with fail
  generalize w1.heap.size = S at *
  go_loopw [11, 13] (fun v i wr => ∃ (k : Nat) (A : AS) (L : List Kn) (f0 l0 g0 : Int), k ≤ len ∧ k ≤ 60 ∧ i = .int .i64 k ∧ St w wr B A v L ∧ A.x.n = a + 1 ∧ A.x.most = c + 1 ∧ L.length ≤ k ∧ A.st ≤ k ∧ wr.heap[S]? = some (.cells (wantV (1 + (a : Int)) f0 l0 g0 A) 38 (0, 0))) (fun _ i _ => len - (intOf i).toNat)
  case atStart => exact ⟨0, _, [], 0, 0, 0, Nat.zero_le _, Nat.zero_le _, rfl, HS1.out, rfl, rfl, Nat.le_refl _, Nat.le_refl _, HX1.out⟩
  case round =>
    obtain ⟨k, A, L, f0, l0, g0, hk, hk60, rfl, hst, hn, hmo, hll, hsk, hx⟩ := hrel
    have HST := Lib.hid hst
    have HX := Lib.hid hx
    have HNN := Lib.hid hn
    have HMO := Lib.hid hmo
    clear hst hx hn hmo HS1 HX1
    by_cases hlt : k < len
    · have hk1 : (k : Int) < (len : Int) := by omega
      by_cases hlt60 : k < 60
      · have hk2 : (k : Int) < 60 := by omega
        obtain ⟨bb, off, d, rfl, hdo, e0, e1, e2, e3, e4, e5, e6, -, -⟩ := HR.out.cell HST.out.s.low hlt
        have hp := play_any w B A L u11 d wr HST.out.s hdo HST.out.a (by omega) (by omega)
        have HDO := Lib.hid hdo
        clear hdo
        have h6 := play6 HST.out.s.inv L d
        rcases h6 with ⟨h, x, hr, -, hpf, -, hck, -, hh⟩ | ⟨x, e, hr, he, hS, -⟩ | ⟨h, -, -, hr, -, hpf, -⟩ | ⟨h, -, -, hr, hS, -⟩ | ⟨h, -, -, hr, hS, -⟩ | ⟨h, -, -, hr, hS, -⟩
        · rw [hr] at hp
          unfold PlayR at hp
          simp only at hp
          obtain ⟨A', hA'⟩ : ∃ A', A' = playS A L d := ⟨_, rfl⟩
          rw [← hA'] at hp hpf
          clear hA' hr
          have HP := Lib.hid hp
          have HPF := Lib.hid hpf
          clear hp hpf
          have HCK := Lib.hid hck
          have HH := Lib.hid hh
          clear hck hh
          go_wp2_with fail
          refine (HP.out).mono ?_; rintro e w2 ⟨ao, c2, rfl, hks, hs2, hk2⟩
          have HX2 := Lib.hid (block_alloc ((hk2.2 S (block_lt HX.out) (HST.out.s.is.nownT HX.out (by decide) (by decide) (by decide) (by decide) (by decide))).trans HX.out) (.cells #[.int .i64 x.h, .string x.text, .slice ao x.kids.length c2] 36))
          have HS2 := Lib.hid ((HST.out.turn hk2 hs2).alloc (.cells #[.int .i64 x.h, .string x.text, .slice ao x.kids.length c2] 36))
          have HK2 := Lib.hid ((hks.later ((Below.refl _ _).alloc (Nat.le_refl _) (.cells #[.int .i64 x.h, .string x.text, .slice ao x.kids.length c2] 36))).later ((Below.refl _ _).alloc (Nat.le_refl _) (.cells #[.int .u64 h, .int .i64 x.h, .string x.text, .slice ao x.kids.length c2] 50)))
          have hn2 := block_new w2 (.cells #[.int .i64 x.h, .string x.text, .slice ao x.kids.length c2] 36)
          have HN3 := Lib.hid (block_new' (w2.alloc (.cells #[.int .i64 x.h, .string x.text, .slice ao x.kids.length c2] 36)) (.cells #[.int .u64 h, .int .i64 x.h, .string x.text, .slice ao x.kids.length c2] 50) (w2.heap.size + 1) (by simp))
          have HSW := Lib.hid (HS2.out.alloc (.cells #[.int .u64 h, .int .i64 x.h, .string x.text, .slice ao x.kids.length c2] 50))
          have HXW := Lib.hid (block_alloc HX2.out (.cells #[.int .u64 h, .int .i64 x.h, .string x.text, .slice ao x.kids.length c2] 50))
          have HZW := Lib.hid (show w.heap.size ≤ ((w2.alloc (.cells #[.int .i64 x.h, .string x.text, .slice ao x.kids.length c2] 36)).alloc (.cells #[.int .u64 h, .int .i64 x.h, .string x.text, .slice ao x.kids.length c2] 50)).heap.size from HSW.out.s.low.size)
          (have q0 := block_cell hn2 0; have q1 := block_cell hn2 1; have q2 := block_cell hn2 2; have f0 := block_free hn2 0; have f1 := block_free hn2 1; have f2 := block_free hn2 2; have hz := block_lt hn2; simp at q0 q1 q2)
          clear hn2 HX2 HS2
          clear hks hs2 hk2 HP
          go_wp2_with (at_builtin; refine wpList_append_own _ rfl _ _ 43 rfl w.heap.size 50 i0 (.agg #[.int .u64 0, .int .i64 0, .string ⟨#[]⟩, .slice none 0 0]) 4 56 Try.underlying43 hi hz0 hz1 hz2 rfl (by decide) _ L.length (flatR fKn L) rfl HSW.out.a.1 ⟨w2.heap.size + 1, 0, none⟩ 1 _ (flatR fKn [⟨h, x, ao, c2⟩]) rfl rfl (newsKn (k := ⟨h, x, ao, c2⟩) HN3.out) (fKn_one _) ?c3 ?c4 ?c5 ?_)
          case c3 => unfold maxLen; omega
          case c4 => omega
          case c5 => exact HZW.out
          intro v' w3 hown hgrow _
          have HS3 := Lib.hid (HSW.out.grow (k := ⟨h, x, ao, c2⟩) hgrow hown (KnOK.mk HK2.out HCK.out HH.out))
          have hx3 := HSW.out.far hgrow HXW.out (by decide)
          have HX3 := Lib.hid hx3
          unfold wantV at hx3
          (have z0 := block_cell hx3 4; have g0 := block_free hx3 4; have hzz := block_lt hx3; simp at z0)
          clear hown hgrow hx3 HSW HXW HN3 HK2
          have hal : A.al ≤ 1152921504606846976 := HST.out.s.al.1
          go_wp2_with fail
          have HZ := Lib.hid (HS3.out.set (i := 4) HLS.out HX3.out (.int .i64 ((A.al : Int) + 1)))
          have HXZ := Lib.hid (block_setCell HX3.out 4 (.int .i64 ((A.al : Int) + 1)))
          rw [wantV_al HPF.out] at HXZ
          generalize w3.setCell ⟨S, 4, none⟩ (.int .i64 ((A.al : Int) + 1)) = wz at *
          clear q0 q1 q2 z0 g0 hzz HS3 HX3
          have hst1 : A'.st ≤ k + 1 := by have := HPF.out.st; omega
          have HPN := Lib.hid (HPF.out.n.trans HNN.out)
          have HPM := Lib.hid (HPF.out.m.trans HMO.out)
          obtain ⟨m, il, wd, hq, hm, hil, hwd, k1, k2, k3, k4⟩ := statsN HZ.out.s HPN.out HPM.out
          have HQ := Lib.hid hq
          have HM := Lib.hid hm
          have HIL := Lib.hid hil
          have HWD := Lib.hid hwd
          have K1 := Lib.hid k1
          have K2 := Lib.hid k2
          have K3 := Lib.hid k3
          have K4 := Lib.hid k4
          have hb1 : A'.al ≤ 1152921504606846976 ∧ A'.fr ≤ 1152921504606846976 := HZ.out.s.al
          have hb2 : m ≤ 12 ∧ il ≤ 12 ∧ wd ≤ 12 := by omega
          clear hq hm hil hwd k1 k2 k3 k4
          refine (statsA_any B A' wz HZ.out.s.is HZ.out.s.inv.f).mono ?_; rintro e w5 ⟨rfl, hb⟩
          have HS5 := Lib.hid (HZ.out.below hb)
          have HX5 := Lib.hid (block_below hb HXZ.out (block_lt HXZ.out))
          clear hb HZ HXZ
          rw [HQ.out]
          go_wp2_with fail
          have HS6 := Lib.hid (HS5.out.alloc (.cells #[.int .i64 (1 + (a : Int)), .int .i64 m, .int .i64 il, .int .i64 wd, .int .i64 A'.al, .int .i64 A'.fr, .int .i64 A'.st] 38))
          have HX6 := Lib.hid (block_alloc HX5.out (.cells #[.int .i64 (1 + (a : Int)), .int .i64 m, .int .i64 il, .int .i64 wd, .int .i64 A'.al, .int .i64 A'.fr, .int .i64 A'.st] 38))
          have HY6 := Lib.hid (block_new w5 (.cells #[.int .i64 (1 + (a : Int)), .int .i64 m, .int .i64 il, .int .i64 wd, .int .i64 A'.al, .int .i64 A'.fr, .int .i64 A'.st] 38))
          have hSR : S < w5.heap.size := block_lt HX5.out
          clear HS5 HX5 HQ
          refine (slotsA_any B A' _ HS6.out.s.is HS6.out.s.inv.f).mono ?_; rintro e w7 ⟨va, vb, rfl, hfa, hfb, hb⟩
          obtain ⟨aa, ca, rfl, -⟩ := hfa
          obtain ⟨ab, cb, rfl, -⟩ := hfb
          rw [HM.out, HWD.out]
          have HS7 := Lib.hid (HS6.out.below hb)
          have HX7 := Lib.hid (block_below hb HX6.out (block_lt HX6.out))
          have HY7 := Lib.hid (block_below hb HY6.out (block_lt HY6.out))
          generalize w5.heap.size = R at *
          clear hb HS6 HX6 HY6
          go_wp2_with fail
          refine (handlesA_any B A' w7 HS7.out.s.is HS7.out.s.inv.f).mono ?_; rintro e w8 hh
          obtain ⟨vc, rfl, hfc, hb⟩ := hh.rs
          obtain ⟨ac, cc, rfl, -⟩ := hfc
          rw [HIL.out]
          have HS8 := Lib.hid (HS7.out.below hb)
          have hx8 := block_below hb HX7.out (block_lt HX7.out)
          have hy8 := block_below hb HY7.out (block_lt HY7.out)
          have HX8 := Lib.hid hx8
          unfold wantV at hx8
          clear hb hh HS7 HX7 HY7
          (have z0 := block_cell hx8 0; have z1 := block_cell hx8 1; have z2 := block_cell hx8 2; have z3 := block_cell hx8 3; have z4 := block_cell hx8 4; have z5 := block_cell hx8 5; have z6 := block_cell hx8 6; have g1 := block_free hx8 1; have g2 := block_free hx8 2; have g3 := block_free hx8 3; have hzz := block_lt hx8; simp at z0 z1 z2 z3 z4 z5 z6)
          (have q0 := block_cell hy8 0; have q1 := block_cell hy8 1; have q2 := block_cell hy8 2; have q3 := block_cell hy8 3; have q4 := block_cell hy8 4; have q5 := block_cell hy8 5; have q6 := block_cell hy8 6; have f0 := block_free hy8 0; have f1 := block_free hy8 1; have f2 := block_free hy8 2; have f3 := block_free hy8 3; have f4 := block_free hy8 4; have f5 := block_free hy8 5; have f6 := block_free hy8 6; have hz := block_lt hy8; simp at q0 q1 q2 q3 q4 q5 q6)
          clear hx8 hy8
          have hsr2 : ¬ S = R := by omega
          have hsr3 : ¬ R = S := by omega
          have nn1 : (((m : Int) + il + wd) != 1 + (a : Int)) = false := by rw [bne_eq_false_iff_eq]; have := K1.out; omega
          have nn2 : ((il : Int) != (A'.al : Int) - A'.fr) = false := by rw [bne_eq_false_iff_eq]; have := K2.out; omega
          have nn3 : decide (A'.fr < wd) = false := decide_eq_false (by have := K3.out; omega)
          have hml : (1 + (a : Int)) * (1 + (c : Int)) = ((a + 1) * (c + 1) : Nat) := by rw [Int.natCast_mul]; congr 1 <;> omega
          have hmb : (a + 1) * (c + 1) ≤ 12 * 3 := Nat.mul_le_mul (by omega) (by omega)
          have nn5 : IntKind.i64.wrap ((1 + (a : Int)) * (1 + (c : Int))) = (1 + (a : Int)) * (1 + (c : Int)) := IntWalk.i64_in _ (by rw [hml]; omega)
          have nn4 : decide ((1 + (a : Int)) * (1 + (c : Int)) < (A'.al : Int)) = false := decide_eq_false (by rw [hml]; have := K4.out; omega)
          clear hml hmb
          have HX9 := Lib.hid (block_setCell HX8.out 1 (.int .i64 (m : Int)))
          have HS9 := Lib.hid (HS8.out.set (i := 1) HLS.out HX8.out (.int .i64 (m : Int)))
          have HX10 := Lib.hid (block_setCell HX9.out 3 (.int .i64 (wd : Int)))
          have HS10 := Lib.hid (HS9.out.set (i := 3) HLS.out HX9.out (.int .i64 (wd : Int)))
          have HX11 := Lib.hid (block_setCell HX10.out 2 (.int .i64 (il : Int)))
          have HS11 := Lib.hid (HS10.out.set (i := 2) HLS.out HX10.out (.int .i64 (il : Int)))
          go_wp2_with fail
          go_roundw
          case rel => exact ⟨k + 1, A', L ++ [⟨h, x, ao, c2⟩], m, il, wd, by omega, by omega, by go_num, HS11.out, HPN.out, HPM.out, by rw [List.length_append]; simp; omega, hst1, HX11.out⟩
          case measure => simp [intOf]; omega
        · have he1 : (e == 0) = false := by simpa using he
          have hpf : PF A (playS A L d) 0 0 0 := by rw [hS]; exact PF.refl A
          clear hS
          rw [hr] at hp
          unfold PlayR at hp
          simp only at hp
          obtain ⟨A', hA'⟩ : ∃ A', A' = playS A L d := ⟨_, rfl⟩
          rw [← hA'] at hp hpf
          clear hA' hr
          have HP := Lib.hid hp
          have HPF := Lib.hid hpf
          clear hp hpf he
          go_wp2_with fail
          refine (HP.out).mono ?_; rintro e w2 ⟨ao, c2, rfl, hks, hs2, hk2⟩
          have HX2 := Lib.hid (block_alloc ((hk2.2 S (block_lt HX.out) (HST.out.s.is.nownT HX.out (by decide) (by decide) (by decide) (by decide) (by decide))).trans HX.out) (.cells #[.int .i64 x.h, .string x.text, .slice ao x.kids.length c2] 36))
          have HS2 := Lib.hid ((HST.out.turn hk2 hs2).alloc (.cells #[.int .i64 x.h, .string x.text, .slice ao x.kids.length c2] 36))
          clear hks hs2 hk2 HP
          go_wp2_with fail
          have HZ := HS2
          have HXZ := HX2
          rw [wantV_no HPF.out] at HXZ
          clear HS2 HX2
          generalize w2.alloc (.cells #[.int .i64 x.h, .string x.text, .slice ao x.kids.length c2] 36) = wz at *
          have hst1 : A'.st ≤ k + 1 := by have := HPF.out.st; omega
          have HPN := Lib.hid (HPF.out.n.trans HNN.out)
          have HPM := Lib.hid (HPF.out.m.trans HMO.out)
          obtain ⟨m, il, wd, hq, hm, hil, hwd, k1, k2, k3, k4⟩ := statsN HZ.out.s HPN.out HPM.out
          have HQ := Lib.hid hq
          have HM := Lib.hid hm
          have HIL := Lib.hid hil
          have HWD := Lib.hid hwd
          have K1 := Lib.hid k1
          have K2 := Lib.hid k2
          have K3 := Lib.hid k3
          have K4 := Lib.hid k4
          have hb1 : A'.al ≤ 1152921504606846976 ∧ A'.fr ≤ 1152921504606846976 := HZ.out.s.al
          have hb2 : m ≤ 12 ∧ il ≤ 12 ∧ wd ≤ 12 := by omega
          clear hq hm hil hwd k1 k2 k3 k4
          refine (statsA_any B A' wz HZ.out.s.is HZ.out.s.inv.f).mono ?_; rintro e w5 ⟨rfl, hb⟩
          have HS5 := Lib.hid (HZ.out.below hb)
          have HX5 := Lib.hid (block_below hb HXZ.out (block_lt HXZ.out))
          clear hb HZ HXZ
          rw [HQ.out]
          go_wp2_with fail
          have HS6 := Lib.hid (HS5.out.alloc (.cells #[.int .i64 (1 + (a : Int)), .int .i64 m, .int .i64 il, .int .i64 wd, .int .i64 A'.al, .int .i64 A'.fr, .int .i64 A'.st] 38))
          have HX6 := Lib.hid (block_alloc HX5.out (.cells #[.int .i64 (1 + (a : Int)), .int .i64 m, .int .i64 il, .int .i64 wd, .int .i64 A'.al, .int .i64 A'.fr, .int .i64 A'.st] 38))
          have HY6 := Lib.hid (block_new w5 (.cells #[.int .i64 (1 + (a : Int)), .int .i64 m, .int .i64 il, .int .i64 wd, .int .i64 A'.al, .int .i64 A'.fr, .int .i64 A'.st] 38))
          have hSR : S < w5.heap.size := block_lt HX5.out
          clear HS5 HX5 HQ
          refine (slotsA_any B A' _ HS6.out.s.is HS6.out.s.inv.f).mono ?_; rintro e w7 ⟨va, vb, rfl, hfa, hfb, hb⟩
          obtain ⟨aa, ca, rfl, -⟩ := hfa
          obtain ⟨ab, cb, rfl, -⟩ := hfb
          rw [HM.out, HWD.out]
          have HS7 := Lib.hid (HS6.out.below hb)
          have HX7 := Lib.hid (block_below hb HX6.out (block_lt HX6.out))
          have HY7 := Lib.hid (block_below hb HY6.out (block_lt HY6.out))
          generalize w5.heap.size = R at *
          clear hb HS6 HX6 HY6
          go_wp2_with fail
          refine (handlesA_any B A' w7 HS7.out.s.is HS7.out.s.inv.f).mono ?_; rintro e w8 hh
          obtain ⟨vc, rfl, hfc, hb⟩ := hh.rs
          obtain ⟨ac, cc, rfl, -⟩ := hfc
          rw [HIL.out]
          have HS8 := Lib.hid (HS7.out.below hb)
          have hx8 := block_below hb HX7.out (block_lt HX7.out)
          have hy8 := block_below hb HY7.out (block_lt HY7.out)
          have HX8 := Lib.hid hx8
          unfold wantV at hx8
          clear hb hh HS7 HX7 HY7
          (have z0 := block_cell hx8 0; have z1 := block_cell hx8 1; have z2 := block_cell hx8 2; have z3 := block_cell hx8 3; have z4 := block_cell hx8 4; have z5 := block_cell hx8 5; have z6 := block_cell hx8 6; have g1 := block_free hx8 1; have g2 := block_free hx8 2; have g3 := block_free hx8 3; have hzz := block_lt hx8; simp at z0 z1 z2 z3 z4 z5 z6)
          (have q0 := block_cell hy8 0; have q1 := block_cell hy8 1; have q2 := block_cell hy8 2; have q3 := block_cell hy8 3; have q4 := block_cell hy8 4; have q5 := block_cell hy8 5; have q6 := block_cell hy8 6; have f0 := block_free hy8 0; have f1 := block_free hy8 1; have f2 := block_free hy8 2; have f3 := block_free hy8 3; have f4 := block_free hy8 4; have f5 := block_free hy8 5; have f6 := block_free hy8 6; have hz := block_lt hy8; simp at q0 q1 q2 q3 q4 q5 q6)
          clear hx8 hy8
          have hsr2 : ¬ S = R := by omega
          have hsr3 : ¬ R = S := by omega
          have nn1 : (((m : Int) + il + wd) != 1 + (a : Int)) = false := by rw [bne_eq_false_iff_eq]; have := K1.out; omega
          have nn2 : ((il : Int) != (A'.al : Int) - A'.fr) = false := by rw [bne_eq_false_iff_eq]; have := K2.out; omega
          have nn3 : decide (A'.fr < wd) = false := decide_eq_false (by have := K3.out; omega)
          have hml : (1 + (a : Int)) * (1 + (c : Int)) = ((a + 1) * (c + 1) : Nat) := by rw [Int.natCast_mul]; congr 1 <;> omega
          have hmb : (a + 1) * (c + 1) ≤ 12 * 3 := Nat.mul_le_mul (by omega) (by omega)
          have nn5 : IntKind.i64.wrap ((1 + (a : Int)) * (1 + (c : Int))) = (1 + (a : Int)) * (1 + (c : Int)) := IntWalk.i64_in _ (by rw [hml]; omega)
          have nn4 : decide ((1 + (a : Int)) * (1 + (c : Int)) < (A'.al : Int)) = false := decide_eq_false (by rw [hml]; have := K4.out; omega)
          clear hml hmb
          have HX9 := Lib.hid (block_setCell HX8.out 1 (.int .i64 (m : Int)))
          have HS9 := Lib.hid (HS8.out.set (i := 1) HLS.out HX8.out (.int .i64 (m : Int)))
          have HX10 := Lib.hid (block_setCell HX9.out 3 (.int .i64 (wd : Int)))
          have HS10 := Lib.hid (HS9.out.set (i := 3) HLS.out HX9.out (.int .i64 (wd : Int)))
          have HX11 := Lib.hid (block_setCell HX10.out 2 (.int .i64 (il : Int)))
          have HS11 := Lib.hid (HS10.out.set (i := 2) HLS.out HX10.out (.int .i64 (il : Int)))
          go_wp2_with fail
          go_roundw
          case rel => exact ⟨k + 1, A', L, m, il, wd, by omega, by omega, by go_num, HS11.out, HPN.out, HPM.out, by omega, hst1, HX11.out⟩
          case measure => simp [intOf]; omega
        · rw [hr] at hp
          unfold PlayR at hp
          simp only at hp
          obtain ⟨A', hA'⟩ : ∃ A', A' = playS A L d := ⟨_, rfl⟩
          rw [← hA'] at hp hpf
          clear hA' hr
          have HP := Lib.hid hp
          have HPF := Lib.hid hpf
          clear hp hpf
          unfold noN at HP
          simp only [List.length_nil] at HP
          go_wp2_with fail
          refine (HP.out).mono ?_; rintro e w2 ⟨ao, c2, rfl, hks, hs2, hk2⟩
          have HX2 := Lib.hid ((hk2.2 S (block_lt HX.out) (HST.out.s.is.nownT HX.out (by decide) (by decide) (by decide) (by decide) (by decide))).trans HX.out)
          have HS2 := Lib.hid ((HST.out.turn hk2 hs2))
          clear hks hs2 hk2 HP
          (have z0 := block_cell HX2.out 5; have g0 := block_free HX2.out 5; have hzz := block_lt HX2.out; unfold wantV at z0; simp at z0)
          have hal : A.fr ≤ 1152921504606846976 := by have := HST.out.s.al.2; omega
          go_wp2_with fail
          have HZ := Lib.hid ((HS2.out.set (i := 5) HLS.out HX2.out (.int .i64 ((A.fr : Int) + 1))).alloc (.cells #[.int .i64 0, .string ⟨#[]⟩, .slice ao 0 c2] 36))
          have HXZ := Lib.hid (block_alloc (block_setCell HX2.out 5 (.int .i64 ((A.fr : Int) + 1))) (.cells #[.int .i64 0, .string ⟨#[]⟩, .slice ao 0 c2] 36))
          rw [wantV_fr HPF.out] at HXZ
          generalize (w2.setCell ⟨S, 5, none⟩ (.int .i64 ((A.fr : Int) + 1))).alloc (.cells #[.int .i64 0, .string ⟨#[]⟩, .slice ao 0 c2] 36) = wz at *
          clear z0 g0 hzz HS2 HX2
          have hst1 : A'.st ≤ k + 1 := by have := HPF.out.st; omega
          have HPN := Lib.hid (HPF.out.n.trans HNN.out)
          have HPM := Lib.hid (HPF.out.m.trans HMO.out)
          obtain ⟨m, il, wd, hq, hm, hil, hwd, k1, k2, k3, k4⟩ := statsN HZ.out.s HPN.out HPM.out
          have HQ := Lib.hid hq
          have HM := Lib.hid hm
          have HIL := Lib.hid hil
          have HWD := Lib.hid hwd
          have K1 := Lib.hid k1
          have K2 := Lib.hid k2
          have K3 := Lib.hid k3
          have K4 := Lib.hid k4
          have hb1 : A'.al ≤ 1152921504606846976 ∧ A'.fr ≤ 1152921504606846976 := HZ.out.s.al
          have hb2 : m ≤ 12 ∧ il ≤ 12 ∧ wd ≤ 12 := by omega
          clear hq hm hil hwd k1 k2 k3 k4
          refine (statsA_any B A' wz HZ.out.s.is HZ.out.s.inv.f).mono ?_; rintro e w5 ⟨rfl, hb⟩
          have HS5 := Lib.hid (HZ.out.below hb)
          have HX5 := Lib.hid (block_below hb HXZ.out (block_lt HXZ.out))
          clear hb HZ HXZ
          rw [HQ.out]
          go_wp2_with fail
          have HS6 := Lib.hid (HS5.out.alloc (.cells #[.int .i64 (1 + (a : Int)), .int .i64 m, .int .i64 il, .int .i64 wd, .int .i64 A'.al, .int .i64 A'.fr, .int .i64 A'.st] 38))
          have HX6 := Lib.hid (block_alloc HX5.out (.cells #[.int .i64 (1 + (a : Int)), .int .i64 m, .int .i64 il, .int .i64 wd, .int .i64 A'.al, .int .i64 A'.fr, .int .i64 A'.st] 38))
          have HY6 := Lib.hid (block_new w5 (.cells #[.int .i64 (1 + (a : Int)), .int .i64 m, .int .i64 il, .int .i64 wd, .int .i64 A'.al, .int .i64 A'.fr, .int .i64 A'.st] 38))
          have hSR : S < w5.heap.size := block_lt HX5.out
          clear HS5 HX5 HQ
          refine (slotsA_any B A' _ HS6.out.s.is HS6.out.s.inv.f).mono ?_; rintro e w7 ⟨va, vb, rfl, hfa, hfb, hb⟩
          obtain ⟨aa, ca, rfl, -⟩ := hfa
          obtain ⟨ab, cb, rfl, -⟩ := hfb
          rw [HM.out, HWD.out]
          have HS7 := Lib.hid (HS6.out.below hb)
          have HX7 := Lib.hid (block_below hb HX6.out (block_lt HX6.out))
          have HY7 := Lib.hid (block_below hb HY6.out (block_lt HY6.out))
          generalize w5.heap.size = R at *
          clear hb HS6 HX6 HY6
          go_wp2_with fail
          refine (handlesA_any B A' w7 HS7.out.s.is HS7.out.s.inv.f).mono ?_; rintro e w8 hh
          obtain ⟨vc, rfl, hfc, hb⟩ := hh.rs
          obtain ⟨ac, cc, rfl, -⟩ := hfc
          rw [HIL.out]
          have HS8 := Lib.hid (HS7.out.below hb)
          have hx8 := block_below hb HX7.out (block_lt HX7.out)
          have hy8 := block_below hb HY7.out (block_lt HY7.out)
          have HX8 := Lib.hid hx8
          unfold wantV at hx8
          clear hb hh HS7 HX7 HY7
          (have z0 := block_cell hx8 0; have z1 := block_cell hx8 1; have z2 := block_cell hx8 2; have z3 := block_cell hx8 3; have z4 := block_cell hx8 4; have z5 := block_cell hx8 5; have z6 := block_cell hx8 6; have g1 := block_free hx8 1; have g2 := block_free hx8 2; have g3 := block_free hx8 3; have hzz := block_lt hx8; simp at z0 z1 z2 z3 z4 z5 z6)
          (have q0 := block_cell hy8 0; have q1 := block_cell hy8 1; have q2 := block_cell hy8 2; have q3 := block_cell hy8 3; have q4 := block_cell hy8 4; have q5 := block_cell hy8 5; have q6 := block_cell hy8 6; have f0 := block_free hy8 0; have f1 := block_free hy8 1; have f2 := block_free hy8 2; have f3 := block_free hy8 3; have f4 := block_free hy8 4; have f5 := block_free hy8 5; have f6 := block_free hy8 6; have hz := block_lt hy8; simp at q0 q1 q2 q3 q4 q5 q6)
          clear hx8 hy8
          have hsr2 : ¬ S = R := by omega
          have hsr3 : ¬ R = S := by omega
          have nn1 : (((m : Int) + il + wd) != 1 + (a : Int)) = false := by rw [bne_eq_false_iff_eq]; have := K1.out; omega
          have nn2 : ((il : Int) != (A'.al : Int) - A'.fr) = false := by rw [bne_eq_false_iff_eq]; have := K2.out; omega
          have nn3 : decide (A'.fr < wd) = false := decide_eq_false (by have := K3.out; omega)
          have hml : (1 + (a : Int)) * (1 + (c : Int)) = ((a + 1) * (c + 1) : Nat) := by rw [Int.natCast_mul]; congr 1 <;> omega
          have hmb : (a + 1) * (c + 1) ≤ 12 * 3 := Nat.mul_le_mul (by omega) (by omega)
          have nn5 : IntKind.i64.wrap ((1 + (a : Int)) * (1 + (c : Int))) = (1 + (a : Int)) * (1 + (c : Int)) := IntWalk.i64_in _ (by rw [hml]; omega)
          have nn4 : decide ((1 + (a : Int)) * (1 + (c : Int)) < (A'.al : Int)) = false := decide_eq_false (by rw [hml]; have := K4.out; omega)
          clear hml hmb
          have HX9 := Lib.hid (block_setCell HX8.out 1 (.int .i64 (m : Int)))
          have HS9 := Lib.hid (HS8.out.set (i := 1) HLS.out HX8.out (.int .i64 (m : Int)))
          have HX10 := Lib.hid (block_setCell HX9.out 3 (.int .i64 (wd : Int)))
          have HS10 := Lib.hid (HS9.out.set (i := 3) HLS.out HX9.out (.int .i64 (wd : Int)))
          have HX11 := Lib.hid (block_setCell HX10.out 2 (.int .i64 (il : Int)))
          have HS11 := Lib.hid (HS10.out.set (i := 2) HLS.out HX10.out (.int .i64 (il : Int)))
          go_wp2_with fail
          go_roundw
          case rel => exact ⟨k + 1, A', L, m, il, wd, by omega, by omega, by go_num, HS11.out, HPN.out, HPM.out, by omega, hst1, HX11.out⟩
          case measure => simp [intOf]; omega
        · have hpf : PF A (playS A L d) 0 0 1 := by rw [hS]; exact ⟨rfl, rfl, rfl, rfl, rfl⟩
          clear hS
          rw [hr] at hp
          unfold PlayR at hp
          simp only at hp
          obtain ⟨A', hA'⟩ : ∃ A', A' = playS A L d := ⟨_, rfl⟩
          rw [← hA'] at hp hpf
          clear hA' hr
          have HP := Lib.hid hp
          have HPF := Lib.hid hpf
          clear hp hpf
          unfold noN at HP
          simp only [List.length_nil] at HP
          go_wp2_with fail
          refine (HP.out).mono ?_; rintro e w2 ⟨ao, c2, rfl, hks, hs2, hk2⟩
          have HX2 := Lib.hid ((hk2.2 S (block_lt HX.out) (HST.out.s.is.nownT HX.out (by decide) (by decide) (by decide) (by decide) (by decide))).trans HX.out)
          have HS2 := Lib.hid ((HST.out.turn hk2 hs2))
          clear hks hs2 hk2 HP
          (have z0 := block_cell HX2.out 6; have g0 := block_free HX2.out 6; have hzz := block_lt HX2.out; unfold wantV at z0; simp at z0)
          have hal : A.st ≤ 1152921504606846976 := by have := HST.out.s.al.2; omega
          go_wp2_with fail
          have HZ := Lib.hid ((HS2.out.set (i := 6) HLS.out HX2.out (.int .i64 ((A.st : Int) + 1))).alloc (.cells #[.int .i64 0, .string ⟨#[]⟩, .slice ao 0 c2] 36))
          have HXZ := Lib.hid (block_alloc (block_setCell HX2.out 6 (.int .i64 ((A.st : Int) + 1))) (.cells #[.int .i64 0, .string ⟨#[]⟩, .slice ao 0 c2] 36))
          rw [wantV_st HPF.out] at HXZ
          generalize (w2.setCell ⟨S, 6, none⟩ (.int .i64 ((A.st : Int) + 1))).alloc (.cells #[.int .i64 0, .string ⟨#[]⟩, .slice ao 0 c2] 36) = wz at *
          clear z0 g0 hzz HS2 HX2
          have hst1 : A'.st ≤ k + 1 := by have := HPF.out.st; omega
          have HPN := Lib.hid (HPF.out.n.trans HNN.out)
          have HPM := Lib.hid (HPF.out.m.trans HMO.out)
          obtain ⟨m, il, wd, hq, hm, hil, hwd, k1, k2, k3, k4⟩ := statsN HZ.out.s HPN.out HPM.out
          have HQ := Lib.hid hq
          have HM := Lib.hid hm
          have HIL := Lib.hid hil
          have HWD := Lib.hid hwd
          have K1 := Lib.hid k1
          have K2 := Lib.hid k2
          have K3 := Lib.hid k3
          have K4 := Lib.hid k4
          have hb1 : A'.al ≤ 1152921504606846976 ∧ A'.fr ≤ 1152921504606846976 := HZ.out.s.al
          have hb2 : m ≤ 12 ∧ il ≤ 12 ∧ wd ≤ 12 := by omega
          clear hq hm hil hwd k1 k2 k3 k4
          refine (statsA_any B A' wz HZ.out.s.is HZ.out.s.inv.f).mono ?_; rintro e w5 ⟨rfl, hb⟩
          have HS5 := Lib.hid (HZ.out.below hb)
          have HX5 := Lib.hid (block_below hb HXZ.out (block_lt HXZ.out))
          clear hb HZ HXZ
          rw [HQ.out]
          go_wp2_with fail
          have HS6 := Lib.hid (HS5.out.alloc (.cells #[.int .i64 (1 + (a : Int)), .int .i64 m, .int .i64 il, .int .i64 wd, .int .i64 A'.al, .int .i64 A'.fr, .int .i64 A'.st] 38))
          have HX6 := Lib.hid (block_alloc HX5.out (.cells #[.int .i64 (1 + (a : Int)), .int .i64 m, .int .i64 il, .int .i64 wd, .int .i64 A'.al, .int .i64 A'.fr, .int .i64 A'.st] 38))
          have HY6 := Lib.hid (block_new w5 (.cells #[.int .i64 (1 + (a : Int)), .int .i64 m, .int .i64 il, .int .i64 wd, .int .i64 A'.al, .int .i64 A'.fr, .int .i64 A'.st] 38))
          have hSR : S < w5.heap.size := block_lt HX5.out
          clear HS5 HX5 HQ
          refine (slotsA_any B A' _ HS6.out.s.is HS6.out.s.inv.f).mono ?_; rintro e w7 ⟨va, vb, rfl, hfa, hfb, hb⟩
          obtain ⟨aa, ca, rfl, -⟩ := hfa
          obtain ⟨ab, cb, rfl, -⟩ := hfb
          rw [HM.out, HWD.out]
          have HS7 := Lib.hid (HS6.out.below hb)
          have HX7 := Lib.hid (block_below hb HX6.out (block_lt HX6.out))
          have HY7 := Lib.hid (block_below hb HY6.out (block_lt HY6.out))
          generalize w5.heap.size = R at *
          clear hb HS6 HX6 HY6
          go_wp2_with fail
          refine (handlesA_any B A' w7 HS7.out.s.is HS7.out.s.inv.f).mono ?_; rintro e w8 hh
          obtain ⟨vc, rfl, hfc, hb⟩ := hh.rs
          obtain ⟨ac, cc, rfl, -⟩ := hfc
          rw [HIL.out]
          have HS8 := Lib.hid (HS7.out.below hb)
          have hx8 := block_below hb HX7.out (block_lt HX7.out)
          have hy8 := block_below hb HY7.out (block_lt HY7.out)
          have HX8 := Lib.hid hx8
          unfold wantV at hx8
          clear hb hh HS7 HX7 HY7
          (have z0 := block_cell hx8 0; have z1 := block_cell hx8 1; have z2 := block_cell hx8 2; have z3 := block_cell hx8 3; have z4 := block_cell hx8 4; have z5 := block_cell hx8 5; have z6 := block_cell hx8 6; have g1 := block_free hx8 1; have g2 := block_free hx8 2; have g3 := block_free hx8 3; have hzz := block_lt hx8; simp at z0 z1 z2 z3 z4 z5 z6)
          (have q0 := block_cell hy8 0; have q1 := block_cell hy8 1; have q2 := block_cell hy8 2; have q3 := block_cell hy8 3; have q4 := block_cell hy8 4; have q5 := block_cell hy8 5; have q6 := block_cell hy8 6; have f0 := block_free hy8 0; have f1 := block_free hy8 1; have f2 := block_free hy8 2; have f3 := block_free hy8 3; have f4 := block_free hy8 4; have f5 := block_free hy8 5; have f6 := block_free hy8 6; have hz := block_lt hy8; simp at q0 q1 q2 q3 q4 q5 q6)
          clear hx8 hy8
          have hsr2 : ¬ S = R := by omega
          have hsr3 : ¬ R = S := by omega
          have nn1 : (((m : Int) + il + wd) != 1 + (a : Int)) = false := by rw [bne_eq_false_iff_eq]; have := K1.out; omega
          have nn2 : ((il : Int) != (A'.al : Int) - A'.fr) = false := by rw [bne_eq_false_iff_eq]; have := K2.out; omega
          have nn3 : decide (A'.fr < wd) = false := decide_eq_false (by have := K3.out; omega)
          have hml : (1 + (a : Int)) * (1 + (c : Int)) = ((a + 1) * (c + 1) : Nat) := by rw [Int.natCast_mul]; congr 1 <;> omega
          have hmb : (a + 1) * (c + 1) ≤ 12 * 3 := Nat.mul_le_mul (by omega) (by omega)
          have nn5 : IntKind.i64.wrap ((1 + (a : Int)) * (1 + (c : Int))) = (1 + (a : Int)) * (1 + (c : Int)) := IntWalk.i64_in _ (by rw [hml]; omega)
          have nn4 : decide ((1 + (a : Int)) * (1 + (c : Int)) < (A'.al : Int)) = false := decide_eq_false (by rw [hml]; have := K4.out; omega)
          clear hml hmb
          have HX9 := Lib.hid (block_setCell HX8.out 1 (.int .i64 (m : Int)))
          have HS9 := Lib.hid (HS8.out.set (i := 1) HLS.out HX8.out (.int .i64 (m : Int)))
          have HX10 := Lib.hid (block_setCell HX9.out 3 (.int .i64 (wd : Int)))
          have HS10 := Lib.hid (HS9.out.set (i := 3) HLS.out HX9.out (.int .i64 (wd : Int)))
          have HX11 := Lib.hid (block_setCell HX10.out 2 (.int .i64 (il : Int)))
          have HS11 := Lib.hid (HS10.out.set (i := 2) HLS.out HX10.out (.int .i64 (il : Int)))
          go_wp2_with fail
          go_roundw
          case rel => exact ⟨k + 1, A', L, m, il, wd, by omega, by omega, by go_num, HS11.out, HPN.out, HPM.out, by omega, hst1, HX11.out⟩
          case measure => simp [intOf]; omega
        · have hpf : PF A (playS A L d) 0 0 0 := by rw [hS]; exact PF.refl A
          clear hS
          rw [hr] at hp
          unfold PlayR at hp
          simp only at hp
          obtain ⟨A', hA'⟩ : ∃ A', A' = playS A L d := ⟨_, rfl⟩
          rw [← hA'] at hp hpf
          clear hA' hr
          have HP := Lib.hid hp
          have HPF := Lib.hid hpf
          clear hp hpf
          generalize nodeOf A h = xx at *
          go_wp2_with fail
          refine (HP.out).mono ?_; rintro e w2 ⟨ao, c2, rfl, hks, hs2, hk2⟩
          have HX2 := Lib.hid (block_alloc ((hk2.2 S (block_lt HX.out) (HST.out.s.is.nownT HX.out (by decide) (by decide) (by decide) (by decide) (by decide))).trans HX.out) (.cells #[.int .i64 xx.h, .string xx.text, .slice ao xx.kids.length c2] 36))
          have HS2 := Lib.hid ((HST.out.turn hk2 hs2).alloc (.cells #[.int .i64 xx.h, .string xx.text, .slice ao xx.kids.length c2] 36))
          clear hks hs2 hk2 HP
          go_wp2_with fail
          have HZ := HS2
          have HXZ := HX2
          rw [wantV_no HPF.out] at HXZ
          clear HS2 HX2
          generalize w2.alloc (.cells #[.int .i64 xx.h, .string xx.text, .slice ao xx.kids.length c2] 36) = wz at *
          have hst1 : A'.st ≤ k + 1 := by have := HPF.out.st; omega
          have HPN := Lib.hid (HPF.out.n.trans HNN.out)
          have HPM := Lib.hid (HPF.out.m.trans HMO.out)
          obtain ⟨m, il, wd, hq, hm, hil, hwd, k1, k2, k3, k4⟩ := statsN HZ.out.s HPN.out HPM.out
          have HQ := Lib.hid hq
          have HM := Lib.hid hm
          have HIL := Lib.hid hil
          have HWD := Lib.hid hwd
          have K1 := Lib.hid k1
          have K2 := Lib.hid k2
          have K3 := Lib.hid k3
          have K4 := Lib.hid k4
          have hb1 : A'.al ≤ 1152921504606846976 ∧ A'.fr ≤ 1152921504606846976 := HZ.out.s.al
          have hb2 : m ≤ 12 ∧ il ≤ 12 ∧ wd ≤ 12 := by omega
          clear hq hm hil hwd k1 k2 k3 k4
          refine (statsA_any B A' wz HZ.out.s.is HZ.out.s.inv.f).mono ?_; rintro e w5 ⟨rfl, hb⟩
          have HS5 := Lib.hid (HZ.out.below hb)
          have HX5 := Lib.hid (block_below hb HXZ.out (block_lt HXZ.out))
          clear hb HZ HXZ
          rw [HQ.out]
          go_wp2_with fail
          have HS6 := Lib.hid (HS5.out.alloc (.cells #[.int .i64 (1 + (a : Int)), .int .i64 m, .int .i64 il, .int .i64 wd, .int .i64 A'.al, .int .i64 A'.fr, .int .i64 A'.st] 38))
          have HX6 := Lib.hid (block_alloc HX5.out (.cells #[.int .i64 (1 + (a : Int)), .int .i64 m, .int .i64 il, .int .i64 wd, .int .i64 A'.al, .int .i64 A'.fr, .int .i64 A'.st] 38))
          have HY6 := Lib.hid (block_new w5 (.cells #[.int .i64 (1 + (a : Int)), .int .i64 m, .int .i64 il, .int .i64 wd, .int .i64 A'.al, .int .i64 A'.fr, .int .i64 A'.st] 38))
          have hSR : S < w5.heap.size := block_lt HX5.out
          clear HS5 HX5 HQ
          refine (slotsA_any B A' _ HS6.out.s.is HS6.out.s.inv.f).mono ?_; rintro e w7 ⟨va, vb, rfl, hfa, hfb, hb⟩
          obtain ⟨aa, ca, rfl, -⟩ := hfa
          obtain ⟨ab, cb, rfl, -⟩ := hfb
          rw [HM.out, HWD.out]
          have HS7 := Lib.hid (HS6.out.below hb)
          have HX7 := Lib.hid (block_below hb HX6.out (block_lt HX6.out))
          have HY7 := Lib.hid (block_below hb HY6.out (block_lt HY6.out))
          generalize w5.heap.size = R at *
          clear hb HS6 HX6 HY6
          go_wp2_with fail
          refine (handlesA_any B A' w7 HS7.out.s.is HS7.out.s.inv.f).mono ?_; rintro e w8 hh
          obtain ⟨vc, rfl, hfc, hb⟩ := hh.rs
          obtain ⟨ac, cc, rfl, -⟩ := hfc
          rw [HIL.out]
          have HS8 := Lib.hid (HS7.out.below hb)
          have hx8 := block_below hb HX7.out (block_lt HX7.out)
          have hy8 := block_below hb HY7.out (block_lt HY7.out)
          have HX8 := Lib.hid hx8
          unfold wantV at hx8
          clear hb hh HS7 HX7 HY7
          (have z0 := block_cell hx8 0; have z1 := block_cell hx8 1; have z2 := block_cell hx8 2; have z3 := block_cell hx8 3; have z4 := block_cell hx8 4; have z5 := block_cell hx8 5; have z6 := block_cell hx8 6; have g1 := block_free hx8 1; have g2 := block_free hx8 2; have g3 := block_free hx8 3; have hzz := block_lt hx8; simp at z0 z1 z2 z3 z4 z5 z6)
          (have q0 := block_cell hy8 0; have q1 := block_cell hy8 1; have q2 := block_cell hy8 2; have q3 := block_cell hy8 3; have q4 := block_cell hy8 4; have q5 := block_cell hy8 5; have q6 := block_cell hy8 6; have f0 := block_free hy8 0; have f1 := block_free hy8 1; have f2 := block_free hy8 2; have f3 := block_free hy8 3; have f4 := block_free hy8 4; have f5 := block_free hy8 5; have f6 := block_free hy8 6; have hz := block_lt hy8; simp at q0 q1 q2 q3 q4 q5 q6)
          clear hx8 hy8
          have hsr2 : ¬ S = R := by omega
          have hsr3 : ¬ R = S := by omega
          have nn1 : (((m : Int) + il + wd) != 1 + (a : Int)) = false := by rw [bne_eq_false_iff_eq]; have := K1.out; omega
          have nn2 : ((il : Int) != (A'.al : Int) - A'.fr) = false := by rw [bne_eq_false_iff_eq]; have := K2.out; omega
          have nn3 : decide (A'.fr < wd) = false := decide_eq_false (by have := K3.out; omega)
          have hml : (1 + (a : Int)) * (1 + (c : Int)) = ((a + 1) * (c + 1) : Nat) := by rw [Int.natCast_mul]; congr 1 <;> omega
          have hmb : (a + 1) * (c + 1) ≤ 12 * 3 := Nat.mul_le_mul (by omega) (by omega)
          have nn5 : IntKind.i64.wrap ((1 + (a : Int)) * (1 + (c : Int))) = (1 + (a : Int)) * (1 + (c : Int)) := IntWalk.i64_in _ (by rw [hml]; omega)
          have nn4 : decide ((1 + (a : Int)) * (1 + (c : Int)) < (A'.al : Int)) = false := decide_eq_false (by rw [hml]; have := K4.out; omega)
          clear hml hmb
          have HX9 := Lib.hid (block_setCell HX8.out 1 (.int .i64 (m : Int)))
          have HS9 := Lib.hid (HS8.out.set (i := 1) HLS.out HX8.out (.int .i64 (m : Int)))
          have HX10 := Lib.hid (block_setCell HX9.out 3 (.int .i64 (wd : Int)))
          have HS10 := Lib.hid (HS9.out.set (i := 3) HLS.out HX9.out (.int .i64 (wd : Int)))
          have HX11 := Lib.hid (block_setCell HX10.out 2 (.int .i64 (il : Int)))
          have HS11 := Lib.hid (HS10.out.set (i := 2) HLS.out HX10.out (.int .i64 (il : Int)))
          go_wp2_with fail
          go_roundw
          case rel => exact ⟨k + 1, A', L, m, il, wd, by omega, by omega, by go_num, HS11.out, HPN.out, HPM.out, by omega, hst1, HX11.out⟩
          case measure => simp [intOf]; omega
        · have hpf : PF A (playS A L d) 0 0 1 := by rw [hS]; exact ⟨rfl, rfl, rfl, rfl, rfl⟩
          clear hS
          rw [hr] at hp
          unfold PlayR at hp
          simp only at hp
          obtain ⟨A', hA'⟩ : ∃ A', A' = playS A L d := ⟨_, rfl⟩
          rw [← hA'] at hp hpf
          clear hA' hr
          have HP := Lib.hid hp
          have HPF := Lib.hid hpf
          clear hp hpf
          unfold noN at HP
          simp only [List.length_nil] at HP
          go_wp2_with fail
          refine (HP.out).mono ?_; rintro e w2 ⟨ao, c2, rfl, hks, hs2, hk2⟩
          have HX2 := Lib.hid ((hk2.2 S (block_lt HX.out) (HST.out.s.is.nownT HX.out (by decide) (by decide) (by decide) (by decide) (by decide))).trans HX.out)
          have HS2 := Lib.hid ((HST.out.turn hk2 hs2))
          clear hks hs2 hk2 HP
          (have z0 := block_cell HX2.out 6; have g0 := block_free HX2.out 6; have hzz := block_lt HX2.out; unfold wantV at z0; simp at z0)
          have hal : A.st ≤ 1152921504606846976 := by have := HST.out.s.al.2; omega
          go_wp2_with fail
          have HZ := Lib.hid ((HS2.out.set (i := 6) HLS.out HX2.out (.int .i64 ((A.st : Int) + 1))).alloc (.cells #[.int .i64 0, .string ⟨#[]⟩, .slice ao 0 c2] 36))
          have HXZ := Lib.hid (block_alloc (block_setCell HX2.out 6 (.int .i64 ((A.st : Int) + 1))) (.cells #[.int .i64 0, .string ⟨#[]⟩, .slice ao 0 c2] 36))
          rw [wantV_st HPF.out] at HXZ
          generalize (w2.setCell ⟨S, 6, none⟩ (.int .i64 ((A.st : Int) + 1))).alloc (.cells #[.int .i64 0, .string ⟨#[]⟩, .slice ao 0 c2] 36) = wz at *
          clear z0 g0 hzz HS2 HX2
          have hst1 : A'.st ≤ k + 1 := by have := HPF.out.st; omega
          have HPN := Lib.hid (HPF.out.n.trans HNN.out)
          have HPM := Lib.hid (HPF.out.m.trans HMO.out)
          obtain ⟨m, il, wd, hq, hm, hil, hwd, k1, k2, k3, k4⟩ := statsN HZ.out.s HPN.out HPM.out
          have HQ := Lib.hid hq
          have HM := Lib.hid hm
          have HIL := Lib.hid hil
          have HWD := Lib.hid hwd
          have K1 := Lib.hid k1
          have K2 := Lib.hid k2
          have K3 := Lib.hid k3
          have K4 := Lib.hid k4
          have hb1 : A'.al ≤ 1152921504606846976 ∧ A'.fr ≤ 1152921504606846976 := HZ.out.s.al
          have hb2 : m ≤ 12 ∧ il ≤ 12 ∧ wd ≤ 12 := by omega
          clear hq hm hil hwd k1 k2 k3 k4
          refine (statsA_any B A' wz HZ.out.s.is HZ.out.s.inv.f).mono ?_; rintro e w5 ⟨rfl, hb⟩
          have HS5 := Lib.hid (HZ.out.below hb)
          have HX5 := Lib.hid (block_below hb HXZ.out (block_lt HXZ.out))
          clear hb HZ HXZ
          rw [HQ.out]
          go_wp2_with fail
          have HS6 := Lib.hid (HS5.out.alloc (.cells #[.int .i64 (1 + (a : Int)), .int .i64 m, .int .i64 il, .int .i64 wd, .int .i64 A'.al, .int .i64 A'.fr, .int .i64 A'.st] 38))
          have HX6 := Lib.hid (block_alloc HX5.out (.cells #[.int .i64 (1 + (a : Int)), .int .i64 m, .int .i64 il, .int .i64 wd, .int .i64 A'.al, .int .i64 A'.fr, .int .i64 A'.st] 38))
          have HY6 := Lib.hid (block_new w5 (.cells #[.int .i64 (1 + (a : Int)), .int .i64 m, .int .i64 il, .int .i64 wd, .int .i64 A'.al, .int .i64 A'.fr, .int .i64 A'.st] 38))
          have hSR : S < w5.heap.size := block_lt HX5.out
          clear HS5 HX5 HQ
          refine (slotsA_any B A' _ HS6.out.s.is HS6.out.s.inv.f).mono ?_; rintro e w7 ⟨va, vb, rfl, hfa, hfb, hb⟩
          obtain ⟨aa, ca, rfl, -⟩ := hfa
          obtain ⟨ab, cb, rfl, -⟩ := hfb
          rw [HM.out, HWD.out]
          have HS7 := Lib.hid (HS6.out.below hb)
          have HX7 := Lib.hid (block_below hb HX6.out (block_lt HX6.out))
          have HY7 := Lib.hid (block_below hb HY6.out (block_lt HY6.out))
          generalize w5.heap.size = R at *
          clear hb HS6 HX6 HY6
          go_wp2_with fail
          refine (handlesA_any B A' w7 HS7.out.s.is HS7.out.s.inv.f).mono ?_; rintro e w8 hh
          obtain ⟨vc, rfl, hfc, hb⟩ := hh.rs
          obtain ⟨ac, cc, rfl, -⟩ := hfc
          rw [HIL.out]
          have HS8 := Lib.hid (HS7.out.below hb)
          have hx8 := block_below hb HX7.out (block_lt HX7.out)
          have hy8 := block_below hb HY7.out (block_lt HY7.out)
          have HX8 := Lib.hid hx8
          unfold wantV at hx8
          clear hb hh HS7 HX7 HY7
          (have z0 := block_cell hx8 0; have z1 := block_cell hx8 1; have z2 := block_cell hx8 2; have z3 := block_cell hx8 3; have z4 := block_cell hx8 4; have z5 := block_cell hx8 5; have z6 := block_cell hx8 6; have g1 := block_free hx8 1; have g2 := block_free hx8 2; have g3 := block_free hx8 3; have hzz := block_lt hx8; simp at z0 z1 z2 z3 z4 z5 z6)
          (have q0 := block_cell hy8 0; have q1 := block_cell hy8 1; have q2 := block_cell hy8 2; have q3 := block_cell hy8 3; have q4 := block_cell hy8 4; have q5 := block_cell hy8 5; have q6 := block_cell hy8 6; have f0 := block_free hy8 0; have f1 := block_free hy8 1; have f2 := block_free hy8 2; have f3 := block_free hy8 3; have f4 := block_free hy8 4; have f5 := block_free hy8 5; have f6 := block_free hy8 6; have hz := block_lt hy8; simp at q0 q1 q2 q3 q4 q5 q6)
          clear hx8 hy8
          have hsr2 : ¬ S = R := by omega
          have hsr3 : ¬ R = S := by omega
          have nn1 : (((m : Int) + il + wd) != 1 + (a : Int)) = false := by rw [bne_eq_false_iff_eq]; have := K1.out; omega
          have nn2 : ((il : Int) != (A'.al : Int) - A'.fr) = false := by rw [bne_eq_false_iff_eq]; have := K2.out; omega
          have nn3 : decide (A'.fr < wd) = false := decide_eq_false (by have := K3.out; omega)
          have hml : (1 + (a : Int)) * (1 + (c : Int)) = ((a + 1) * (c + 1) : Nat) := by rw [Int.natCast_mul]; congr 1 <;> omega
          have hmb : (a + 1) * (c + 1) ≤ 12 * 3 := Nat.mul_le_mul (by omega) (by omega)
          have nn5 : IntKind.i64.wrap ((1 + (a : Int)) * (1 + (c : Int))) = (1 + (a : Int)) * (1 + (c : Int)) := IntWalk.i64_in _ (by rw [hml]; omega)
          have nn4 : decide ((1 + (a : Int)) * (1 + (c : Int)) < (A'.al : Int)) = false := decide_eq_false (by rw [hml]; have := K4.out; omega)
          clear hml hmb
          have HX9 := Lib.hid (block_setCell HX8.out 1 (.int .i64 (m : Int)))
          have HS9 := Lib.hid (HS8.out.set (i := 1) HLS.out HX8.out (.int .i64 (m : Int)))
          have HX10 := Lib.hid (block_setCell HX9.out 3 (.int .i64 (wd : Int)))
          have HS10 := Lib.hid (HS9.out.set (i := 3) HLS.out HX9.out (.int .i64 (wd : Int)))
          have HX11 := Lib.hid (block_setCell HX10.out 2 (.int .i64 (il : Int)))
          have HS11 := Lib.hid (HS10.out.set (i := 2) HLS.out HX10.out (.int .i64 (il : Int)))
          go_wp2_with fail
          go_roundw
          case rel => exact ⟨k + 1, A', L, m, il, wd, by omega, by omega, by go_num, HS11.out, HPN.out, HPM.out, by omega, hst1, HX11.out⟩
          case measure => simp [intOf]; omega
      · have hk2 : ¬ ((k : Int) < 60) := by omega
        go_wp2_with fail
        refine (awake13_any _).mono ?_; rintro e w6 ⟨rfl, hb⟩
        have HB := Lib.hid (below_two HST.out.s.low hb)
        clear hb
        go_wp2_with fail
        go_ret
        exact ⟨rfl, HB.out⟩
    · obtain rfl : k = len := by omega
      go_wp2_with fail
      refine (awake13_any _).mono ?_; rintro e w6 ⟨rfl, hb⟩
      have HB := Lib.hid (below_two HST.out.s.low hb)
      clear hb
      go_wp2_with fail
      go_ret
      exact ⟨rfl, HB.out⟩
end Go.Proofs.Ytfgkbnnojogjpaa
