/- The arena: play. -/
import Derived.Test.YtfgkbnnojogjpaaQm
namespace Go.Proofs.Ytfgkbnnojogjpaa
open Go.RowKit
set_option linter.unusedVariables false

theorem res_play {P : Program} {fn : Func} {p t u v : Tmp} {ty : TypeId} (hr : fn.results = #[.tmp t, .cell p ty, .tmp u, .tmp v]) {tmps : Array Value} {W : World} {b : Nat} {x0 x1 x2 : Value} {e : TypeId} {fr : Nat × Nat}
    (hg : (isAgg ty).run P W = .ok true W) (hs : (sizeOf ty).run P W = .ok 3 W) (ht : tmps.getD p undef = .pointer (some ⟨b, 0, none⟩))
    (hb : W.heap[b]? = some (.cells #[x0, x1, x2] e fr)) : (results fn tmps).run P W = .ok (.tuple #[tmps.getD t undef, .agg #[x0, x1, x2], tmps.getD u undef, tmps.getD v undef]) W := by
  have h0 : W.cell? ⟨b, 0, none⟩ = some x0 := block_cell hb 0
  have h1 : W.cell? ⟨b, 1, none⟩ = some x1 := block_cell hb 1
  have h2 : W.cell? ⟨b, 2, none⟩ = some x2 := block_cell hb 2
  have ht' : tmps[p]?.getD undef = .pointer (some ⟨b, 0, none⟩) := by simpa using ht
  simp only [results, hr]
  simp [ht', hg, hs, h0, h1, h2, go_sem]
theorem notKb {w : World} {q : Nat} {c : Array Value} {t : TypeId} {fr : Nat × Nat} (h : w.heap[q]? = some (.cells c t fr)) (ht : t ≠ 64) : ¬ Kb w q := fun ⟨cur, hc⟩ => by
  rw [h] at hc; injection hc with hc; injection hc with _ hc; exact ht hc
/-- a block of no arena's is written -/
theorem SoloA.set {w0 w : World} {B : PB} {A : AS} (h : SoloA w0 w B A) {b i : Nat} (hb : w0.heap.size ≤ b) (ho : ¬ B.own b) (hk : ¬ Kb w b) (v : Value) : SoloA w0 (w.setCell ⟨b, i, none⟩ v) B A :=
  ⟨h.is.keep fun q hq => Below.heap_setCell _ _ _ _ (fun e => by
    have e' : q = b := e
    rw [e'] at hq
    exact hq.elim ho hk), h.inv, h.cnt, h.ge, h.low.setCell hb v⟩
theorem KsOK.set {b0 : Nat} {w : World} {ao : Option Addr} {n c : Nat} {l : List Kid} (h : KsOK b0 w ao n c l) {b i : Nat} (hb : b0 ≤ b) (hk : ¬ Kb w b) (v : Value) : KsOK b0 (w.setCell ⟨b, i, none⟩ v) ao n c l := h.keep fun q _ hq => Below.heap_setCell _ _ _ _ (fun e => by
  have e' : q = b := e
  rw [e'] at hq
  rcases hq with hq | hq
  · omega
  · exact hk hq)
theorem KeepA.fresh {B : PB} {w w1 : World} (h : KeepA B w w1) {b i : Nat} (hb : w.heap.size ≤ b) (v : Value) : KeepA B w (w1.setCell ⟨b, i, none⟩ v) :=
  ⟨fun b0 h0 hg => (h.1 b0 h0 hg).setCell (Nat.le_trans h0 hb) v, fun q hq hn => (Below.heap_setCell _ _ _ _ (by show q ≠ b; omega)).trans (h.2 q hq hn)⟩
theorem AllK.set {b0 : Nat} {w : World} {v : Value} {L : List Kn} (h : AllK b0 w v L) {b i : Nat} {c : Array Value} {t : TypeId} {fr : Nat × Nat} (hb : b0 ≤ b) (hc : w.heap[b]? = some (.cells c t fr)) (ht : t ≠ 64) (ht2 : t ≠ 50) (x : Value) : AllK b0 (w.setCell ⟨b, i, none⟩ x) v L :=
  ⟨own_keep4 h.1 fun q hq => Below.heap_setCell _ _ _ _ (fun e => by
    have e' : q = b := e
    obtain ⟨-, cur, hq⟩ := own_typ4 h.1 hq
    rw [e', hc] at hq; injection hq with hq; injection hq with _ hq; exact ht2 hq), fun k hk => ⟨(h.2 k hk).1.set hb (notKb hc ht) x, (h.2 k hk).2⟩⟩
theorem SoloA.nown {w0 w : World} {B : PB} {A : AS} (h : SoloA w0 w B A) {b : Nat} (hb : w.heap.size ≤ b) : ¬ B.own b := fun ho => by
  have := h.is.lt (.inl ho)
  omega

/-- what play returns, and what it does -/
def playR (A : AS) (L : List Kn) (d : De) : Int × Nd × Int × Int :=
  match nodeD L d with
  | some x => ((allocR A x).1, x, 0, (allocR A x).2)
  | none => if d.k % 8 = 6 then (hD L d, noN, 2, getE A (hD L d)) else (hD L d, nodeOf A (hD L d), 1, getE A (hD L d))
def playS (A : AS) (L : List Kn) (d : De) : AS :=
  match nodeD L d with
  | some x => allocS A x
  | none => if d.k % 8 = 6 then freeS A (hD L d) else getS A (hD L d)
def PlayR (w0 w : World) (B : PB) (r : Int × Nd × Int × Int) (A' : AS) (e : Ending) (w' : World) : Prop :=
  ∃ ao c, e = .returned (.tuple #[.int .u64 r.1, .agg #[.int .i64 r.2.1.h, .string r.2.1.text, .slice ao r.2.1.kids.length c], .int .i64 r.2.2.1, .int .i64 r.2.2.2]) ∧ KsOK w0.heap.size w' ao r.2.1.kids.length c r.2.1.kids ∧ SoloA w0 w' B A' ∧ KeepA B w w'

theorem play_end {w0 w w2 : World} {B : PB} {A' : AS} {ao : Option Addr} {c : Nat} {x : Nd} {b : Nat} {cs : Array Value} (hs : SoloA w0 w2 B A') (hk : KsOK w0.heap.size w2 ao x.kids.length c x.kids) (hka : KeepA B w w2)
    (hz : w2.heap[b]? = some (.cells cs 36 (0, 0))) (hb : w0.heap.size ≤ b) (hb2 : w.heap.size ≤ b) (ho : ¬ B.own b) (v0 v1 v2 : Value) (n : Nat) :
    SoloA w0 ((((w2.setCell ⟨b, 0, none⟩ v0).setCell ⟨b, 1, none⟩ v1).setCell ⟨b, 2, none⟩ v2).drewN n) B A' ∧ KsOK w0.heap.size ((((w2.setCell ⟨b, 0, none⟩ v0).setCell ⟨b, 1, none⟩ v1).setCell ⟨b, 2, none⟩ v2).drewN n) ao x.kids.length c x.kids ∧
    KeepA B w ((((w2.setCell ⟨b, 0, none⟩ v0).setCell ⟨b, 1, none⟩ v1).setCell ⟨b, 2, none⟩ v2).drewN n) := by
  have k0 := notKb hz (by decide)
  have z1 := block_setCell hz 0 v0
  have k1 := notKb z1 (by decide)
  have z2 := block_setCell z1 1 v1
  have k2 := notKb z2 (by decide)
  exact ⟨(((hs.set hb ho k0 v0).set hb ho k1 v1).set hb ho k2 v2).drewN n, (((hk.set hb k0 v0).set hb k1 v1).set hb k2 v2).keep (fun _ _ _ => rfl), (((hka.fresh hb2 v0).fresh hb2 v1).fresh hb2 v2).drewN n⟩

set_option maxRecDepth 100000 in
set_option maxHeartbeats 1500000 in
theorem play_alloc (w0 : World) (B : PB) (A : AS) (L : List Kn) (vA : Value) (d : De) (w : World) (hs : SoloA w0 w B A) (hd : DeOK w0.heap.size w d) (hA : AllK w0.heap.size w vA L) (hLL : L.length ≤ 1000) (hst : A.st ≤ 100000000) (x : Nd) (hx : nodeD L d = some x) :
    Calls Try.prog 16 #[.pointer (some ⟨B.p, 0, none⟩), deV d, vA] w fun e w' => PlayR w0 w B (playR A L d) (playS A L d) e w' := by
  have HR := Lib.hid (show playR A L d = ((allocR A x).1, x, 0, (allocR A x).2) by unfold playR; rw [hx])
  have HRS := Lib.hid (show playS A L d = allocS A x by unfold playS; rw [hx])
  have HNP := Lib.hid (hs.nown (b := w.heap.size + 1) (by omega))
  have HNB := Lib.hid (hs.nown (b := w.heap.size) (by omega))
  have HLW := Lib.hid hs.low.size
  have hb2 := ((Below.refl w.heap.size w).alloc (Nat.le_refl _) (.cells #[.int .i64 d.k, .string d.t, .slice d.la d.l.length d.lc, .int .i64 d.x.h, .string d.x.text, .slice d.xa d.x.kids.length d.xc, .int .u64 d.h] 48)).alloc (by simp) (.cells #[.int .i64 0, .string ⟨#[]⟩, .slice none 0 0] 36)
  have HB2 := Lib.hid hb2
  have HN := Lib.hid (node_any w0.heap.size L vA d _ (hd.later hb2) (hA.below hb2) hLL)
  have HDB := Lib.hid (block_alloc (block_new w (.cells #[.int .i64 d.k, .string d.t, .slice d.la d.l.length d.lc, .int .i64 d.x.h, .string d.x.text, .slice d.xa d.x.kids.length d.xc, .int .u64 d.h] 48)) (.cells #[.int .i64 0, .string ⟨#[]⟩, .slice none 0 0] 36))
  have HRB := Lib.hid (block_new' (w.alloc (.cells #[.int .i64 d.k, .string d.t, .slice d.la d.l.length d.lc, .int .i64 d.x.h, .string d.x.text, .slice d.xa d.x.kids.length d.xc, .int .u64 d.h] 48)) (.cells #[.int .i64 0, .string ⟨#[]⟩, .slice none 0 0] 36) (w.heap.size + 1) (by simp))
  have HS := Lib.hid hs
  have HD := Lib.hid hd
  have HA := Lib.hid hA
  clear hs hd hA hb2
  go_enter Try.func16, Try.ntmps16
  unfold deV
  go_wp2_with fail
  refine (HN.out).mono ?_; rintro e w1 ⟨ao, c, rfl, hks, hb⟩
  rw [hx] at hks ⊢
  simp only [Option.getD_some, Option.isSome_some] at hks ⊢
  unfold aggN
  have HB1 := Lib.hid (HB2.out.trans (hb.mono (by simp; omega)))
  have hz1 := block_below hb HRB.out (by simp)
  have HZ1 := Lib.hid hz1
  have HK := Lib.hid hks
  (have q0 := block_cell hz1 0; have q1 := block_cell hz1 1; have q2 := block_cell hz1 2; have f0 := block_free hz1 0; have f1 := block_free hz1 1; have f2 := block_free hz1 2; have hz := block_lt hz1; simp at q0 q1 q2)
  clear hks hb hz1 hx HN HD HA
  go_wp2_with fail
  have hbx : Below w1.heap.size w1 (w1.alloc (.cells #[.int .i64 x.h, .string x.text, .slice ao x.kids.length c] 36)) := (Below.refl _ _).alloc (Nat.le_refl _) _
  have HS2 := Lib.hid ((HS.out.below HB1.out).below hbx)
  have HK2 := Lib.hid (HK.out.later hbx)
  have HX2 := Lib.hid (block_new w1 (.cells #[.int .i64 x.h, .string x.text, .slice ao x.kids.length c] 36))
  have HZ2 := Lib.hid (block_alloc HZ1.out (.cells #[.int .i64 x.h, .string x.text, .slice ao x.kids.length c] 36))
  have HKA2 := Lib.hid (((KeepA.refl B w).below HB1.out).below hbx)
  have HNX := Lib.hid ((HS.out.below HB1.out).nown (b := w1.heap.size) (Nat.le_refl _))
  clear hbx HK HZ1
  refine (soloAlloc w0 B A x ao x.kids.length c _ HK2.out.1 HK2.out.2.1 (HK2.out.sep HS2.out.is HS2.out.ge) HS2.out).mono ?_; rintro e w2 ⟨rfl, hs2, hk2⟩
  have hz2 := (hk2.2 _ (block_lt HZ2.out) HNP.out).trans HZ2.out
  have hx2 := (hk2.2 _ (block_lt HX2.out) HNX.out).trans HX2.out
  have HZ3 := Lib.hid hz2
  have HS3 := Lib.hid hs2
  have HK3 := Lib.hid (HK2.out.turn HS2.out.is HS2.out.ge hk2)
  have HKA3 := Lib.hid (HKA2.out.trans hk2)
  clear q0 q1 q2 f0 f1 f2 hz hs2 hk2
  (have z0 := block_cell hz2 0; have z1 := block_cell hz2 1; have z2 := block_cell hz2 2; have g0 := block_free hz2 0; have g1 := block_free hz2 1; have g2 := block_free hz2 2; have hzz := block_lt hz2; simp at z0 z1 z2)
  (have q0 := block_cell hx2 0; have q1 := block_cell hx2 1; have q2 := block_cell hx2 2; have f0 := block_free hx2 0; have f1 := block_free hx2 1; have f2 := block_free hx2 2; have hz := block_lt hx2; simp at q0 q1 q2)
  clear hz2 hx2 HZ2 HX2 HS2 HK2 HKA2
  go_wp2_with fail
  go_region
  go_wp2_with fail
  have hfin := play_end HS3.out HK3.out HKA3.out HZ3.out (by have := HLW.out; omega) (by omega) HNP.out (.int .i64 x.h) (.string x.text) (.slice ao x.kids.length c) 1
  have hb0 := block_setCell (block_setCell (block_setCell HZ3.out 0 (.int .i64 x.h)) 1 (.string x.text)) 2 (.slice ao x.kids.length c)
  exact bodyPost_ret (res_play Try.results16 (Try.isAgg36 _) (Try.sizeOf36 _) rfl hb0) rfl (by rw [HR.out, HRS.out]; exact ⟨ao, c, rfl, hfin.2.1, hfin.1, hfin.2.2⟩)

set_option maxRecDepth 100000 in
set_option maxHeartbeats 1500000 in
theorem play_free (w0 : World) (B : PB) (A : AS) (L : List Kn) (vA : Value) (d : De) (w : World) (hs : SoloA w0 w B A) (hd : DeOK w0.heap.size w d) (hA : AllK w0.heap.size w vA L) (hLL : L.length ≤ 1000) (hst : A.st ≤ 100000000) (hx : nodeD L d = none) (ha : d.k % 8 = 6) :
    Calls Try.prog 16 #[.pointer (some ⟨B.p, 0, none⟩), deV d, vA] w fun e w' => PlayR w0 w B (playR A L d) (playS A L d) e w' := by
  have HR := Lib.hid (show playR A L d = (hD L d, noN, 2, getE A (hD L d)) by unfold playR; rw [hx]; simp only; rw [if_pos ha])
  have HRS := Lib.hid (show playS A L d = freeS A (hD L d) by unfold playS; rw [hx]; simp only; rw [if_pos ha])
  have HM := Lib.hid (mod8 ha)
  clear ha
  have HNP := Lib.hid (hs.nown (b := w.heap.size + 1) (by omega))
  have HNB := Lib.hid (hs.nown (b := w.heap.size) (by omega))
  have HLW := Lib.hid hs.low.size
  have hb2 := ((Below.refl w.heap.size w).alloc (Nat.le_refl _) (.cells #[.int .i64 d.k, .string d.t, .slice d.la d.l.length d.lc, .int .i64 d.x.h, .string d.x.text, .slice d.xa d.x.kids.length d.xc, .int .u64 d.h] 48)).alloc (by simp) (.cells #[.int .i64 0, .string ⟨#[]⟩, .slice none 0 0] 36)
  have HB2 := Lib.hid hb2
  have HN := Lib.hid (node_any w0.heap.size L vA d _ (hd.later hb2) (hA.below hb2) hLL)
  have HDB := Lib.hid (block_alloc (block_new w (.cells #[.int .i64 d.k, .string d.t, .slice d.la d.l.length d.lc, .int .i64 d.x.h, .string d.x.text, .slice d.xa d.x.kids.length d.xc, .int .u64 d.h] 48)) (.cells #[.int .i64 0, .string ⟨#[]⟩, .slice none 0 0] 36))
  have HRB := Lib.hid (block_new' (w.alloc (.cells #[.int .i64 d.k, .string d.t, .slice d.la d.l.length d.lc, .int .i64 d.x.h, .string d.x.text, .slice d.xa d.x.kids.length d.xc, .int .u64 d.h] 48)) (.cells #[.int .i64 0, .string ⟨#[]⟩, .slice none 0 0] 36) (w.heap.size + 1) (by simp))
  have HS := Lib.hid hs
  have HD := Lib.hid hd
  have HA := Lib.hid hA
  clear hs hd hA hb2
  go_enter Try.func16, Try.ntmps16
  unfold deV
  go_wp2_with fail
  refine (HN.out).mono ?_; rintro e w1 ⟨ao, c, rfl, hks, hb⟩
  rw [hx] at hks ⊢
  simp only [Option.getD_none, Option.isSome_none] at hks ⊢
  unfold aggN noN
  simp only [List.length_nil]
  have HB1 := Lib.hid (HB2.out.trans (hb.mono (by simp; omega)))
  have HZ1 := Lib.hid (block_below hb HRB.out (by simp))
  have hd1 := block_below hb HDB.out (by simp; omega)
  have HD1 := Lib.hid hd1
  (have q0 := block_cell hd1 0; have q1 := block_cell hd1 1; have q2 := block_cell hd1 2; have q3 := block_cell hd1 3; have q4 := block_cell hd1 4; have q5 := block_cell hd1 5; have q6 := block_cell hd1 6; have f0 := block_free hd1 0; have f1 := block_free hd1 1; have f2 := block_free hd1 2; have f3 := block_free hd1 3; have f4 := block_free hd1 4; have f5 := block_free hd1 5; have f6 := block_free hd1 6; have hz := block_lt hd1; simp at q0 q1 q2 q3 q4 q5 q6)
  clear hks hb hd1 hx HN
  go_wp2_with fail
  have hbx : Below w.heap.size w (w1.alloc (.cells #[.int .i64 0, .string ⟨#[]⟩, .slice ao 0 c] 36)) := HB1.out.alloc HB1.out.size _
  have HBX := Lib.hid hbx
  refine (hand_any w0.heap.size L vA d _ (HD.out.later hbx) (HA.out.below hbx) hLL).mono ?_; rintro e w2 ⟨rfl, hb⟩
  have HRG := Lib.hid (hD_in HD.out HA.out.2)
  have hd2 := block_below hb (block_alloc HD1.out (.cells #[.int .i64 0, .string ⟨#[]⟩, .slice ao 0 c] 36)) (by have := block_lt HD1.out; simp; omega)
  have hz2 := block_below hb (block_alloc HZ1.out (.cells #[.int .i64 0, .string ⟨#[]⟩, .slice ao 0 c] 36)) (by have := block_lt HZ1.out; simp; omega)
  have HZ2 := Lib.hid hz2
  have HS2 := Lib.hid ((HS.out.below HBX.out).below hb)
  have HKA2 := Lib.hid (((KeepA.refl B w).below HBX.out).below hb)
  clear q0 q1 q2 q3 q4 q5 q6 f0 f1 f2 f3 f4 f5 f6 hz hb hbx HD HA
  (have q0 := block_cell hd2 0; have q1 := block_cell hd2 1; have q2 := block_cell hd2 2; have q3 := block_cell hd2 3; have q4 := block_cell hd2 4; have q5 := block_cell hd2 5; have q6 := block_cell hd2 6; have f0 := block_free hd2 0; have f1 := block_free hd2 1; have f2 := block_free hd2 2; have f3 := block_free hd2 3; have f4 := block_free hd2 4; have f5 := block_free hd2 5; have f6 := block_free hd2 6; have hz := block_lt hd2; simp at q0 q1 q2 q3 q4 q5 q6)
  (have z0 := block_cell hz2 0; have z1 := block_cell hz2 1; have z2 := block_cell hz2 2; have g0 := block_free hz2 0; have g1 := block_free hz2 1; have g2 := block_free hz2 2; have hzz := block_lt hz2; simp at z0 z1 z2)
  clear hd2 hz2
  generalize hD L d = hd at *
  go_wp2_with fail
  refine (HM.out _).mono ?_; rintro e w3 ⟨rfl, rfl⟩
  go_wp2_with fail
  refine (soloFree w0 B A hd _ HRG.out.1 HRG.out.2 HS2.out (by omega)).mono ?_; rintro e w3 ⟨rfl, hs3, hk3⟩
  have hz3 := (hk3.2 _ (block_lt HZ2.out) HNP.out).trans HZ2.out
  have HZ3 := Lib.hid hz3
  have HS3 := Lib.hid hs3
  have HKA3 := Lib.hid (HKA2.out.trans hk3)
  clear q0 q1 q2 q3 q4 q5 q6 f0 f1 f2 f3 f4 f5 f6 hz hs3 hk3 z0 z1 z2 g0 g1 g2 hzz HZ2 HS2 HKA2
  (have z0 := block_cell hz3 0; have z1 := block_cell hz3 1; have z2 := block_cell hz3 2; have g0 := block_free hz3 0; have g1 := block_free hz3 1; have g2 := block_free hz3 2; have hzz := block_lt hz3; simp at z0 z1 z2)
  clear hz3
  go_wp2_with fail
  have hfin := play_end (x := noN) HS3.out (KsOK.nil _ _) HKA3.out HZ3.out (by have := HLW.out; omega) (by omega) HNP.out (.int .i64 0) (.string ⟨#[]⟩) (.slice none 0 0) 0
  have hb0 := block_setCell (block_setCell (block_setCell HZ3.out 0 (.int .i64 0)) 1 (.string ⟨#[]⟩)) 2 (.slice none 0 0)
  exact bodyPost_ret (res_play Try.results16 (Try.isAgg36 _) (Try.sizeOf36 _) rfl hb0) rfl (by rw [HR.out, HRS.out]; exact ⟨none, 0, rfl, hfin.2.1, hfin.1, hfin.2.2⟩)

set_option maxRecDepth 100000 in
set_option maxHeartbeats 1500000 in
theorem play_get (w0 : World) (B : PB) (A : AS) (L : List Kn) (vA : Value) (d : De) (w : World) (hs : SoloA w0 w B A) (hd : DeOK w0.heap.size w d) (hA : AllK w0.heap.size w vA L) (hLL : L.length ≤ 1000) (hst : A.st ≤ 100000000) (hx : nodeD L d = none) (ha : d.k % 8 ≠ 6) :
    Calls Try.prog 16 #[.pointer (some ⟨B.p, 0, none⟩), deV d, vA] w fun e w' => PlayR w0 w B (playR A L d) (playS A L d) e w' := by
  have HR := Lib.hid (show playR A L d = (hD L d, nodeOf A (hD L d), 1, getE A (hD L d)) by unfold playR; rw [hx]; simp only; rw [if_neg ha])
  have HRS := Lib.hid (show playS A L d = getS A (hD L d) by unfold playS; rw [hx]; simp only; rw [if_neg ha])
  have HM := Lib.hid (mod8 (n := d.k) rfl)
  have ha2 : (d.k % 8 == 6) = false := by simpa using ha
  clear ha
  have HNP := Lib.hid (hs.nown (b := w.heap.size + 1) (by omega))
  have HNB := Lib.hid (hs.nown (b := w.heap.size) (by omega))
  have HLW := Lib.hid hs.low.size
  have hb2 := ((Below.refl w.heap.size w).alloc (Nat.le_refl _) (.cells #[.int .i64 d.k, .string d.t, .slice d.la d.l.length d.lc, .int .i64 d.x.h, .string d.x.text, .slice d.xa d.x.kids.length d.xc, .int .u64 d.h] 48)).alloc (by simp) (.cells #[.int .i64 0, .string ⟨#[]⟩, .slice none 0 0] 36)
  have HB2 := Lib.hid hb2
  have HN := Lib.hid (node_any w0.heap.size L vA d _ (hd.later hb2) (hA.below hb2) hLL)
  have HDB := Lib.hid (block_alloc (block_new w (.cells #[.int .i64 d.k, .string d.t, .slice d.la d.l.length d.lc, .int .i64 d.x.h, .string d.x.text, .slice d.xa d.x.kids.length d.xc, .int .u64 d.h] 48)) (.cells #[.int .i64 0, .string ⟨#[]⟩, .slice none 0 0] 36))
  have HRB := Lib.hid (block_new' (w.alloc (.cells #[.int .i64 d.k, .string d.t, .slice d.la d.l.length d.lc, .int .i64 d.x.h, .string d.x.text, .slice d.xa d.x.kids.length d.xc, .int .u64 d.h] 48)) (.cells #[.int .i64 0, .string ⟨#[]⟩, .slice none 0 0] 36) (w.heap.size + 1) (by simp))
  have HS := Lib.hid hs
  have HD := Lib.hid hd
  have HA := Lib.hid hA
  clear hs hd hA hb2
  go_enter Try.func16, Try.ntmps16
  unfold deV
  go_wp2_with fail
  refine (HN.out).mono ?_; rintro e w1 ⟨ao, c, rfl, hks, hb⟩
  rw [hx] at hks ⊢
  simp only [Option.getD_none, Option.isSome_none] at hks ⊢
  unfold aggN noN
  simp only [List.length_nil]
  have HB1 := Lib.hid (HB2.out.trans (hb.mono (by simp; omega)))
  have HZ1 := Lib.hid (block_below hb HRB.out (by simp))
  have hd1 := block_below hb HDB.out (by simp; omega)
  have HD1 := Lib.hid hd1
  (have q0 := block_cell hd1 0; have q1 := block_cell hd1 1; have q2 := block_cell hd1 2; have q3 := block_cell hd1 3; have q4 := block_cell hd1 4; have q5 := block_cell hd1 5; have q6 := block_cell hd1 6; have f0 := block_free hd1 0; have f1 := block_free hd1 1; have f2 := block_free hd1 2; have f3 := block_free hd1 3; have f4 := block_free hd1 4; have f5 := block_free hd1 5; have f6 := block_free hd1 6; have hz := block_lt hd1; simp at q0 q1 q2 q3 q4 q5 q6)
  clear hks hb hd1 hx HN
  go_wp2_with fail
  have hbx : Below w.heap.size w (w1.alloc (.cells #[.int .i64 0, .string ⟨#[]⟩, .slice ao 0 c] 36)) := HB1.out.alloc HB1.out.size _
  have HBX := Lib.hid hbx
  refine (hand_any w0.heap.size L vA d _ (HD.out.later hbx) (HA.out.below hbx) hLL).mono ?_; rintro e w2 ⟨rfl, hb⟩
  have HRG := Lib.hid (hD_in HD.out HA.out.2)
  have hd2 := block_below hb (block_alloc HD1.out (.cells #[.int .i64 0, .string ⟨#[]⟩, .slice ao 0 c] 36)) (by have := block_lt HD1.out; simp; omega)
  have hz2 := block_below hb (block_alloc HZ1.out (.cells #[.int .i64 0, .string ⟨#[]⟩, .slice ao 0 c] 36)) (by have := block_lt HZ1.out; simp; omega)
  have HZ2 := Lib.hid hz2
  have HS2 := Lib.hid ((HS.out.below HBX.out).below hb)
  have HKA2 := Lib.hid (((KeepA.refl B w).below HBX.out).below hb)
  clear q0 q1 q2 q3 q4 q5 q6 f0 f1 f2 f3 f4 f5 f6 hz hb hbx HD HA
  (have q0 := block_cell hd2 0; have q1 := block_cell hd2 1; have q2 := block_cell hd2 2; have q3 := block_cell hd2 3; have q4 := block_cell hd2 4; have q5 := block_cell hd2 5; have q6 := block_cell hd2 6; have f0 := block_free hd2 0; have f1 := block_free hd2 1; have f2 := block_free hd2 2; have f3 := block_free hd2 3; have f4 := block_free hd2 4; have f5 := block_free hd2 5; have f6 := block_free hd2 6; have hz := block_lt hd2; simp at q0 q1 q2 q3 q4 q5 q6)
  (have z0 := block_cell hz2 0; have z1 := block_cell hz2 1; have z2 := block_cell hz2 2; have g0 := block_free hz2 0; have g1 := block_free hz2 1; have g2 := block_free hz2 2; have hzz := block_lt hz2; simp at z0 z1 z2)
  clear hd2 hz2
  generalize hD L d = hd at *
  go_wp2_with fail
  refine (HM.out _).mono ?_; rintro e w3 ⟨rfl, rfl⟩
  go_wp2_with fail
  refine (soloGet w0 B A hd _ HS2.out (by omega)).mono ?_; rintro e w3 ⟨v, rfl, hown, hs3, hk3⟩
  have hz3 := (hk3.2 _ (block_lt HZ2.out) HNP.out).trans HZ2.out
  obtain ⟨s, rfl, hks⟩ := hown
  obtain ⟨ao', c', rfl, hok⟩ := hks.ok (b0 := w0.heap.size)
  have HZ3 := Lib.hid hz3
  have HS3 := Lib.hid hs3
  have HK3 := Lib.hid hok
  have HKA3 := Lib.hid (HKA2.out.trans hk3)
  clear q0 q1 q2 q3 q4 q5 q6 f0 f1 f2 f3 f4 f5 f6 hz hs3 hk3 z0 z1 z2 g0 g1 g2 hzz HZ2 HS2 HKA2 hks hok
  (have z0 := block_cell hz3 0; have z1 := block_cell hz3 1; have z2 := block_cell hz3 2; have g0 := block_free hz3 0; have g1 := block_free hz3 1; have g2 := block_free hz3 2; have hzz := block_lt hz3; simp at z0 z1 z2)
  clear hz3
  go_wp2_with fail
  have hfin := play_end HS3.out HK3.out HKA3.out HZ3.out (by have := HLW.out; omega) (by omega) HNP.out (.int .i64 (nodeOf A hd).h) (.string (nodeOf A hd).text) (.slice ao' (nodeOf A hd).kids.length c') 0
  have hb0 := block_setCell (block_setCell (block_setCell HZ3.out 0 (.int .i64 (nodeOf A hd).h)) 1 (.string (nodeOf A hd).text)) 2 (.slice ao' (nodeOf A hd).kids.length c')
  rw [World.drewN_zero] at hfin
  have HF := Lib.hid hfin
  have HB0 := Lib.hid hb0
  clear z0 z1 z2 g0 g1 g2 hzz hfin HZ3 HS3 HK3 HKA3
  simp only [List.setIfInBounds_toArray, List.set_cons_zero, List.set_cons_succ] at hb0
  generalize (((w3.setCell ⟨w.heap.size + 1, 0, none⟩ (.int .i64 (nodeOf A hd).h)).setCell ⟨w.heap.size + 1, 1, none⟩ (.string (nodeOf A hd).text)).setCell ⟨w.heap.size + 1, 2, none⟩ (.slice ao' (nodeOf A hd).kids.length c')) = w4 at *
  (have z0 := block_cell hb0 0; have z1 := block_cell hb0 1; have z2 := block_cell hb0 2; have g0 := block_free hb0 0; have g1 := block_free hb0 1; have g2 := block_free hb0 2; have hzz := block_lt hb0; simp at z0 z1 z2)
  clear hb0
  go_region
  go_wp2_with fail
  have hfin := play_end HF.out.1 HF.out.2.1 HF.out.2.2 HB0.out (by have := HLW.out; omega) (by omega) HNP.out (.int .i64 (nodeOf A hd).h) (.string (nodeOf A hd).text) (.slice ao' (nodeOf A hd).kids.length c') 1
  have hb0 := block_setCell (block_setCell (block_setCell HB0.out 0 (.int .i64 (nodeOf A hd).h)) 1 (.string (nodeOf A hd).text)) 2 (.slice ao' (nodeOf A hd).kids.length c')
  exact bodyPost_ret (res_play Try.results16 (Try.isAgg36 _) (Try.sizeOf36 _) rfl hb0) rfl (by rw [HR.out, HRS.out]; exact ⟨ao', c', rfl, hfin.2.1, hfin.1, hfin.2.2⟩)

theorem play_any (w0 : World) (B : PB) (A : AS) (L : List Kn) (vA : Value) (d : De) (w : World) (hs : SoloA w0 w B A) (hd : DeOK w0.heap.size w d) (hA : AllK w0.heap.size w vA L) (hLL : L.length ≤ 1000) (hst : A.st ≤ 100000000) :
    Calls Try.prog 16 #[.pointer (some ⟨B.p, 0, none⟩), deV d, vA] w fun e w' => PlayR w0 w B (playR A L d) (playS A L d) e w' := by
  cases hx : nodeD L d with
  | some x => exact play_alloc w0 B A L vA d w hs hd hA hLL hst x hx
  | none =>
    by_cases ha : d.k % 8 = 6
    · exact play_free w0 B A L vA d w hs hd hA hLL hst hx ha
    · exact play_get w0 B A L vA d w hs hd hA hLL hst hx ha
end Go.Proofs.Ytfgkbnnojogjpaa
