/- The arena's reference: Get, Free. -/
import Derived.Test.YtfgkbnnojogjpaaQx
namespace Go.Proofs.Ytfgkbnnojogjpaa
open Go.RowKit
set_option linter.unusedVariables false

/-- a block of the call's own is written -/
theorem IsB.setN {w : World} {b0 : Nat} {C : CB} {A : AS} {v : Value} {M : List Kn} (h : IsB w b0 C A v M) {S i : Nat} {cs : Array Value} (hS : b0 ≤ S) (hc : w.heap[S]? = some (.cells cs 36 (0, 0))) (z : Value) : IsB (w.setCell ⟨S, i, none⟩ z) b0 C A v M :=
  h.keep fun q hq hcase => Below.heap_setCell _ _ _ _ (fun e => by
    have e : q = S := e
    subst e
    rcases hcase with hf | ⟨cur, hi⟩ | hl | ⟨cur, hi⟩
    · obtain ⟨h0, ⟨l0, ⟨c1, l1, _⟩, ⟨c2, l2, _⟩, ⟨c3, l3, _⟩, _⟩, -, -⟩ := h
      rcases hf with rfl | rfl | rfl | rfl | rfl
      · rw [h0] at hc; injection hc with hc; injection hc with _ hc; revert hc; decide
      · rw [l0] at hc; injection hc with hc; injection hc with _ hc; revert hc; decide
      · rw [l1] at hc; injection hc with hc; injection hc with _ hc; revert hc; decide
      · rw [l2] at hc; injection hc with hc; injection hc with _ hc; revert hc; decide
      · rw [l3] at hc; injection hc with hc; injection hc with _ hc; revert hc; decide
    · rw [hi] at hc; injection hc with hc; injection hc with _ hc; revert hc; decide
    · omega
    · rw [hi] at hc; injection hc with hc; injection hc with _ hc; revert hc; decide)
theorem KeepB.fresh {b0 : Nat} {C : CB} {w w1 : World} (h : KeepB b0 C w w1) (h0 : b0 ≤ w.heap.size) {S i : Nat} (hS : w.heap.size ≤ S) (z : Value) : KeepB b0 C w (w1.setCell ⟨S, i, none⟩ z) :=
  ⟨h.1.setCell (Nat.le_trans h0 hS) z, fun q hq hf hi => (Below.heap_setCell _ _ _ _ (by show q ≠ S; omega)).trans (h.2 q hq hf hi)⟩
theorem getB_end {w w2 : World} {b0 : Nat} {C : CB} {A : AS} {v : Value} {M : List Kn} {ao : Option Addr} {c : Nat} {x : Nd} {cs : Array Value} (hb : IsB w2 b0 C A v M) (hk : KsOK b0 w2 ao x.kids.length c x.kids) (hkb : KeepB b0 C w w2) (h0 : b0 ≤ w.heap.size)
    (hz : w2.heap[w.heap.size]? = some (.cells cs 36 (0, 0))) (v0 v1 v2 : Value) :
    IsB (((w2.setCell ⟨w.heap.size, 0, none⟩ v0).setCell ⟨w.heap.size, 1, none⟩ v1).setCell ⟨w.heap.size, 2, none⟩ v2) b0 C A v M ∧ KsOK b0 (((w2.setCell ⟨w.heap.size, 0, none⟩ v0).setCell ⟨w.heap.size, 1, none⟩ v1).setCell ⟨w.heap.size, 2, none⟩ v2) ao x.kids.length c x.kids ∧ KeepB b0 C w (((w2.setCell ⟨w.heap.size, 0, none⟩ v0).setCell ⟨w.heap.size, 1, none⟩ v1).setCell ⟨w.heap.size, 2, none⟩ v2) := by
  have k0 := notKb hz (by decide)
  have z1 := block_setCell hz 0 v0
  have k1 := notKb z1 (by decide)
  have z2 := block_setCell z1 1 v1
  have k2 := notKb z2 (by decide)
  exact ⟨((hb.setN h0 hz v0).setN h0 z1 v1).setN h0 z2 v2, ((hk.set h0 k0 v0).set h0 k1 v1).set h0 k2 v2, ((hkb.fresh h0 (Nat.le_refl _) v0).fresh h0 (Nat.le_refl _) v1).fresh h0 (Nat.le_refl _) v2⟩
def RefG (b0 : Nat) (C : CB) (v : Value) (M : List Kn) (w : World) (x : Nd) (er : Int) (A' : AS) (e : Ending) (w' : World) : Prop :=
  ∃ a c, e = .returned (.tuple #[.agg #[.int .i64 x.h, .string x.text, .slice a x.kids.length c], .int .i64 er]) ∧ KsOK b0 w' a x.kids.length c x.kids ∧ IsB w' b0 C A' v M ∧ KeepB b0 C w w'

set_option maxRecDepth 100000 in
set_option maxHeartbeats 6000000 in
theorem refGetA (C : CB) (A : AS) (v : Value) (M : List Kn) (b0 : Nat) (h : Int) (w : World) (hb : IsB w b0 C A v M) (hi : AInv A) (hC : ∀ q, C.fix q → b0 ≤ q) (h0 : b0 ≤ w.heap.size) (hst : A.st ≤ 1000000000) :
    Calls Try.prog 30 #[.pointer (some ⟨C.p, 0, none⟩), .int .u64 h] w fun e w' => RefG b0 C v M w (nodeOf A h) (getE A h) (getS A h) e w' := by
  have hs := hb.small hi
  have HB := Lib.hid hb
  have HCF := Lib.hid hC
  have HH0 := Lib.hid h0
  have HKB := Lib.hid (KeepB.refl b0 C w)
  have hb1 := hb.alloc (.cells #[.int .i64 0, .string ⟨#[]⟩, .slice none 0 0] 36)
  by_cases hl : liveL A.x h
  · obtain ⟨i, hil, hh, hlk, hj⟩ := hb1.find hi hl
    have HFD := Lib.hid (refFind_yes C A v M b0 h _ hb1 i hil hh hj (by omega))
    have HE := Lib.hid (show getE A h = 0 from if_pos hl)
    have HSS := Lib.hid (show getS A h = A from if_pos hl)
    have HNN := Lib.hid (show nodeOf A h = M[i].x by unfold nodeOf; rw [hlk]; rfl)
    obtain ⟨aoM, cM, rfl⟩ := own4_slice hb.a.1
    obtain ⟨bM, rfl, hbM, s0, s1, s2, s3⟩ := own4_at hb.a.1 hil
    have HKN := Lib.hid (hb.a.2 _ (List.getElem_mem hil))
    have hp := hb.p
    unfold cellsB at hp
    (have c1 := block_cell hp 1; have hpz := block_lt hp; simp at c1)
    have hil1 : (i : Int) < (M.length : Int) := by omega
    have hi0 : (0 : Int) ≤ (i : Int) := by omega
    have hii : decide ((i : Int) < 0) = false := decide_eq_false (by omega)
    rw [HE.out, HSS.out, HNN.out]
    clear hb hb1 hi hC h0 hl hh hlk hj hp s0 HNN HE HSS
    generalize M[i] = kn at *
    obtain ⟨hkk, nd, la, lc⟩ := kn
    simp only at s1 s2 s3
    have hn4 := kids4 HKN.out.2.1
    simp only at hn4
    have HK1 := Lib.hid (HKN.out.1.later ((Below.refl w.heap.size w).alloc (Nat.le_refl _) (.cells #[.int .i64 0, .string ⟨#[]⟩, .slice none 0 0] 36)))
    have HZ1 := Lib.hid (block_new w (.cells #[.int .i64 0, .string ⟨#[]⟩, .slice none 0 0] 36))
    have HBL := Lib.hid ((Below.refl w.heap.size w).alloc (Nat.le_refl _) (.cells #[.int .i64 0, .string ⟨#[]⟩, .slice none 0 0] 36))
    simp only at HK1
    clear HKN
    go_enter Try.func30, Try.ntmps30
    go_wp2_with fail
    refine (HFD.out).mono ?_; rintro e w1 ⟨rfl, rfl⟩
    go_wp2_with fail
    refine (copyNode_any nd la nd.kids.length lc _ HK1.out.1 (by omega)).mono ?_; rintro e w2 ⟨v2, rfl, ⟨s, rfl, hks⟩, hb2⟩
    obtain ⟨a2, c2, rfl, hok⟩ := hks.ok (b0 := b0)
    have hz2 := block_below hb2 HZ1.out (block_lt HZ1.out)
    have HZ2 := Lib.hid hz2
    have HB2 := Lib.hid ((HB.out.alloc (.cells #[.int .i64 0, .string ⟨#[]⟩, .slice none 0 0] 36)).below hb2)
    have HBL2 := Lib.hid (below_two HBL.out hb2)
    have HOK := Lib.hid hok
    clear hks hb2 hok s1 s2 s3 c1 hpz
    (have q0 := block_cell hz2 0; have q1 := block_cell hz2 1; have q2 := block_cell hz2 2; have f0 := block_free hz2 0; have f1 := block_free hz2 1; have f2 := block_free hz2 2; have hz := block_lt hz2; simp at q0 q1 q2)
    clear hz2
    go_wp2_with fail
    obtain ⟨k1, k2, k3⟩ := getB_end HB2.out HOK.out (KeepB.of_below HH0.out HBL2.out) HH0.out HZ2.out (.int .i64 nd.h) (.string nd.text) (.slice a2 nd.kids.length c2)
    have hb0 := block_setCell (block_setCell (block_setCell HZ2.out 0 (.int .i64 nd.h)) 1 (.string nd.text)) 2 (.slice a2 nd.kids.length c2)
    exact bodyPost_ret (res3_tmp Try.results30 (Try.isAgg36 _) (Try.sizeOf36 _) rfl hb0) rfl ⟨a2, c2, rfl, k2, k1, k3⟩
  · have HFD := Lib.hid (refFind_no C A v M b0 h _ hb1 (hb1.lost hi hl) (by omega))
    have HE := Lib.hid (show getE A h = 10 from if_neg hl)
    have HSS := Lib.hid (show getS A h = { A with st := A.st + 1 } from if_neg hl)
    have hp := hb.p
    unfold cellsB at hp
    (have q0 := block_cell hp 0; have q1 := block_cell hp 1; have q2 := block_cell hp 2; have q3 := block_cell hp 3; have q4 := block_cell hp 4; have q5 := block_cell hp 5; have q6 := block_cell hp 6; have q7 := block_cell hp 7; have q8 := block_cell hp 8; have f0 := block_free hp 0; have f1 := block_free hp 1; have f2 := block_free hp 2; have f3 := block_free hp 3; have f4 := block_free hp 4; have f5 := block_free hp 5; have f6 := block_free hp 6; have f7 := block_free hp 7; have f8 := block_free hp 8; have hz := block_lt hp; simp at q0 q1 q2 q3 q4 q5 q6 q7 q8)
    rw [HE.out, HSS.out, (nodeOf_dead hi hl).1]
    clear hb hb1 hi hC h0 hl hp HE HSS
    go_enter Try.func30, Try.ntmps30
    go_wp2_with fail
    refine (HFD.out).mono ?_; rintro e w1 ⟨rfl, rfl⟩
    go_wp2_with fail
    have hB1 := HB.out.setP (A' := { A with st := A.st + 1 }) (v' := v) (HCF.out _ (.inl rfl)) 8 (.int .i64 ((A.st : Int) + 1)) rfl rfl HB.out.a rfl
    have hb0 := block_new' (w.setCell ⟨C.p, 8, none⟩ (.int .i64 ((A.st : Int) + 1))) (.cells #[.int .i64 0, .string ⟨#[]⟩, .slice none 0 0] 36) w.heap.size (by simp [World.setCell])
    have hK1 : KeepB b0 C w ((w.setCell ⟨C.p, 8, none⟩ (.int .i64 ((A.st : Int) + 1))).alloc (.cells #[.int .i64 0, .string ⟨#[]⟩, .slice none 0 0] 36)) := (HKB.out.setP HCF.out 8 _).trans (KeepB.of_below (by simpa using HH0.out) ((Below.refl _ _).alloc (Nat.le_refl _) _))
    exact bodyPost_ret (res3_tmp Try.results30 (Try.isAgg36 _) (Try.sizeOf36 _) rfl hb0) rfl ⟨none, 0, rfl, KsOK.nil _ _, hB1.alloc _, hK1⟩

/-! ### Free -/
theorem flatK_drop : ∀ (i : Nat) (M : List Kn), (flatR fKn M).drop (i * 4) = flatR fKn (M.drop i)
  | 0, M => by simp
  | i + 1, [] => by simp [flatR]
  | i + 1, k :: M => by
    have h1 : flatR fKn (k :: M) = fKn k ++ flatR fKn M := by unfold flatR; rw [List.flatMap_cons]
    rw [h1, List.drop_succ_cons, ← flatK_drop i M, show (i + 1) * 4 = (fKn k).length + i * 4 by rw [fKn_len]; omega, List.drop_append, List.drop_of_length_le (by omega), Nat.add_sub_cancel_left, List.nil_append]
theorem own4_news {w : World} {b0 : Nat} {T : TypeId} {b n c : Nat} {M : List Kn} (h : w.ownsRow b0 T 4 (.slice (some ⟨b, 0, none⟩) n c) M.length (flatR fKn M)) (i m : Nat) :
    ∀ j u, (flatR fKn ((M.drop i).take m))[j]? = some u → w.cell? ((⟨b, i * 4, none⟩ : Addr).add j) = some u := by
  intro j u hj
  have h1 : (flatR fKn (M.drop i))[j]? = some u := by
    have e : M.drop i = (M.drop i).take m ++ (M.drop i).drop m := (List.take_append_drop _ _).symm
    rw [e, flatR_app, List.getElem?_append_left (List.getElem?_eq_some_iff.1 hj).1]
    exact hj
  rw [← flatK_drop, List.getElem?_drop] at h1
  have := h.cells (g := b) rfl _ _ h1
  rw [add_to] at this ⊢
  rw [← this]
  simp
theorem own4_news0 {w : World} {b0 : Nat} {T : TypeId} {b n c : Nat} {M : List Kn} (h : w.ownsRow b0 T 4 (.slice (some ⟨b, 0, none⟩) n c) M.length (flatR fKn M)) (m : Nat) :
    ∀ j u, (flatR fKn (M.take m))[j]? = some u → w.cell? ((⟨b, 0, none⟩ : Addr).add j) = some u := by
  have := own4_news h 0 m
  simpa using this
theorem fKn_all (M : List Kn) : ∀ u ∈ flatR fKn M, u.oneCell' = true := flatR_all (fun k => by
  have := fKn_one k
  rwa [flatR_one] at this) M
end Go.Proofs.Ytfgkbnnojogjpaa
