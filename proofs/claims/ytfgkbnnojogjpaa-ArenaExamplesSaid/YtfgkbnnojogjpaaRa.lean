/- The arena's reference: Free. -/
import Derived.Test.YtfgkbnnojogjpaaQy
namespace Go.Proofs.Ytfgkbnnojogjpaa
open Go.RowKit
set_option linter.unusedVariables false

theorem own_le {w : World} {B B' s : Nat} {t : TypeId} {v : Value} {n : Nat} {l : List Value} (h : w.ownsRow B t s v n l) (hB : B' ≤ B) : w.ownsRow B' t s v n l := by
  obtain ⟨h0, h | ⟨g, cap', cur, h1, hg, h2, h3⟩⟩ := h
  · exact ⟨h0, .inl h⟩
  · exact ⟨h0, .inr ⟨g, cap', cur, h1, Nat.le_trans hB hg, h2, h3⟩⟩
/-- the items are laid anew -/
theorem IsB.setM {w : World} {b0 : Nat} {C : CB} {A A' : AS} {v v' : Value} {M M' : List Kn} (h : IsB w b0 C A v M) (hC : b0 ≤ C.p) (ha : AllI b0 w v' M') (hx : A'.x = A.x) (he : toIt M' = A'.it) (hc : (cellsB C v A).setIfInBounds 1 v' = cellsB C v' A') :
    IsB (w.setCell ⟨C.p, 1, none⟩ v') b0 C A' v' M' := by
  obtain ⟨k1, k2, k3⟩ := core_set h.p h.l ha hC 1 v'
  rw [hc] at k3
  exact ⟨k3, by rw [hx]; exact k1, k2, he⟩
theorem toIt_cut {M : List Kn} {i : Nat} (hi : i < M.length) {h : Int} (hh : M[i].h = h) (hj : ∀ j (hj : j < M.length), j < i → M[j].h ≠ h) : toIt (M.take i ++ M.drop (i + 1)) = delI (toIt M) h := by
  have e : M = M.take i ++ (M[i] :: M.drop (i + 1)) := by rw [List.getElem_cons_drop, List.take_append_drop]
  have h2 : ∀ k ∈ M.take i, k.h ≠ h := fun k hk => by
    obtain ⟨j, hj1, rfl⟩ := List.getElem_of_mem hk
    rw [List.getElem_take]
    rw [List.length_take] at hj1
    exact hj j (by omega) (by omega)
  have e2 : toIt M = toIt (M.take i) ++ ((M[i].h, M[i].x) :: toIt (M.drop (i + 1))) := by
    conv => lhs; rw [e]
    unfold toIt
    rw [List.map_append, List.map_cons]
  rw [e2]
  unfold delI
  rw [List.eraseP_append_right]
  · rw [List.eraseP_cons_of_pos (by simpa using hh)]
    unfold toIt
    rw [List.map_append]
  · intro b hb
    obtain ⟨k, hk, rfl⟩ := List.mem_map.1 hb
    simpa using h2 k hk
theorem giveR_yes {x : FL} {h : Int} (hl : liveL x h) : (giveR x h).2 = 0 := by
  unfold giveR
  rw [if_pos hl]

/-- the items without one, in new memory: what the struct's store leaves -/
theorem freeB_end {w w1 w2 : World} {b0 i : Nat} {C : CB} {A : AS} {v v1 v2 : Value} {M : List Kn} {h : Int} (hb : IsB w b0 C A v M) (hC : ∀ q, C.fix q → b0 ≤ q) (h0 : b0 ≤ w.heap.size) (hbw : Below w.heap.size w w1)
    (ho : w1.ownsRow w.heap.size 101 4 v1 i (flatR fKn (M.take i))) (hown : w2.ownsRow w.heap.size 101 4 v2 (i + (M.length - (i + 1))) (flatR fKn (M.take i) ++ flatR fKn ((M.drop (i + 1)).take (M.length - (i + 1))))) (hg : w1.grownBy w2 v1.ownBlock)
    (ha : AllI b0 w v M) (hi : i < M.length) (hcut : toIt (M.take i ++ M.drop (i + 1)) = delI (toIt M) h) :
    IsB w2 b0 C A v M ∧ Below w.heap.size w w2 ∧ AllI b0 w2 v2 (M.take i ++ M.drop (i + 1)) ∧ toIt (M.take i ++ M.drop (i + 1)) = delI A.it h := by
  have hb2 : Below w.heap.size w w2 := hbw.grown hg hbw.size fun q hq => (own_typ4 ho hq).1
  have et : (M.drop (i + 1)).take (M.length - (i + 1)) = M.drop (i + 1) := List.take_of_length_le (by rw [List.length_drop]; exact Nat.le_refl _)
  rw [et, ← flatR_app] at hown
  refine ⟨hb.below hb2, hb2, ⟨?_, fun k hk => ?_⟩, by rw [hcut, hb.e]⟩
  · rw [show (M.take i ++ M.drop (i + 1)).length = i + (M.length - (i + 1)) by rw [List.length_append, List.length_take, List.length_drop, Nat.min_eq_left (by omega)]]
    exact own_le hown h0
  · have hm : k ∈ M := by
      rcases List.mem_append.1 hk with hk | hk
      · exact List.mem_of_mem_take hk
      · exact List.mem_of_mem_drop hk
    exact ⟨(ha.2 k hm).1.later hb2, (ha.2 k hm).2⟩

set_option maxRecDepth 100000 in
set_option maxHeartbeats 6000000 in
theorem refFreeA (C : CB) (A : AS) (v : Value) (M : List Kn) (b0 : Nat) (h : Int) (w : World) (hb : IsB w b0 C A v M) (hi : AInv A) (hC : ∀ q, C.fix q → b0 ≤ q) (h0 : b0 ≤ w.heap.size) (hst : A.st ≤ 1000000000) (hfr : A.fr ≤ 1152921504606846976) (hcs : C.lb.cs ≤ maxLen) (hr0 : 0 ≤ h) (hr1 : h ≤ 18446744073709551615) :
    Calls Try.prog 29 #[.pointer (some ⟨C.p, 0, none⟩), .int .u64 h] w fun e w' => RefR b0 C w (.int .i64 (getE A h)) (freeS A h) e w' := by
  obtain ⟨i0, hi0, hz0, hz1, hz2⟩ := info_parts infoIt
  have hs := hb.small hi
  have HB := Lib.hid hb
  have HCF := Lib.hid hC
  have HH0 := Lib.hid h0
  have HKB := Lib.hid (KeepB.refl b0 C w)
  by_cases hl : liveL A.x h
  · obtain ⟨i, hil, hh, hlk, hj⟩ := hb.find hi hl
    have HFD := Lib.hid (refFind_yes C A v M b0 h w hb i hil hh hj (by omega))
    have HE := Lib.hid (show getE A h = 0 from if_pos hl)
    have HSS := Lib.hid (freeS_yes hl)
    have HCUT := Lib.hid (toIt_cut hil hh hj)
    have HGR := Lib.hid (giveR_yes hl)
    have HFI := Lib.hid hi.f
    obtain ⟨aoM, cM, rfl⟩ := own4_slice hb.a.1
    obtain ⟨bM, rfl, hbM, -, -, -, -⟩ := own4_at hb.a.1 hil
    have HN0 := Lib.hid (own4_news0 hb.a.1 i)
    have HN1 := Lib.hid (own4_news hb.a.1 (i + 1) (M.length - (i + 1)))
    have HOW := Lib.hid hb.a
    have hp := hb.p
    unfold cellsB at hp
    (have q0 := block_cell hp 0; have q1 := block_cell hp 1; have q2 := block_cell hp 2; have q3 := block_cell hp 3; have q4 := block_cell hp 4; have q5 := block_cell hp 5; have q6 := block_cell hp 6; have q7 := block_cell hp 7; have q8 := block_cell hp 8; have f0 := block_free hp 0; have f1 := block_free hp 1; have f2 := block_free hp 2; have f3 := block_free hp 3; have f4 := block_free hp 4; have f5 := block_free hp 5; have f6 := block_free hp 6; have f7 := block_free hp 7; have f8 := block_free hp 8; have hz := block_lt hp; simp at q0 q1 q2 q3 q4 q5 q6 q7 q8)
    have hcap : M.length ≤ cM := by
      obtain ⟨-, ⟨h, -⟩ | ⟨g, cap', cur, k1, hg, k2, k3, -⟩⟩ := hb.a.1
      · cases h
      · injection k1 with k1 k4 k5
        omega
    have hil1 : (i : Int) < (M.length : Int) := by omega
    have hi0' : (0 : Int) ≤ (i : Int) := by omega
    have hii : decide ((i : Int) < 0) = false := decide_eq_false (by omega)
    rw [HE.out, HSS.out]
    clear hb hi hC h0 hl hh hlk hj hp HE HSS
    have HL0 := Lib.hid (show (flatR fKn (M.take i)).length = i * 4 by rw [flatR_len fKn_len, List.length_take, Nat.min_eq_left (by omega)])
    have HL1 := Lib.hid (show (flatR fKn ((M.drop (i + 1)).take (M.length - (i + 1)))).length = (M.length - (i + 1)) * 4 by rw [flatR_len fKn_len, List.length_take, List.length_drop, Nat.min_self])
    go_enter Try.func29, Try.ntmps29
    go_wp2_with fail
    refine (HFD.out).mono ?_; rintro e w1 ⟨rfl, rfl⟩
    go_wp2_with (at_builtin; refine wpList_append_own _ rfl _ _ 92 rfl w.heap.size 101 i0 (.agg #[.int .u64 0, .int .i64 0, .string ⟨#[]⟩, .slice none 0 0]) 4 56 Try.underlying92 hi0 hz0 hz1 hz2 rfl (by decide) (.slice none 0 0) 0 [] rfl (World.ownsRow_nil _ _ _ _) ⟨bM, 0, none⟩ i cM (flatR fKn (M.take i)) rfl HL0.out HN0.out (fKn_all _) ?c3 ?c4 ?c5 ?_)
    case c3 => unfold maxLen; omega
    case c4 => omega
    case c5 => exact Nat.le_refl _
    intro v1 w1 hown hgrow _
    have HBW := Lib.hid ((Below.refl w.heap.size w).grown hgrow (Nat.le_refl _) fun q hq => by cases hq)
    have HO1 := Lib.hid (show w1.ownsRow w.heap.size 101 4 v1 i (flatR fKn (M.take i)) by simpa using hown)
    have HN1B := Lib.hid (fun j u hj => (HBW.out.cell (p := (⟨bM, (i + 1) * 4, none⟩ : Addr).add j) (by rw [add_to]; exact hbM)).trans (HN1.out j u hj))
    have hp1 := (HB.out.below HBW.out).p
    unfold cellsB at hp1
    clear q0 q1 q2 q3 q4 q5 q6 q7 q8 f0 f1 f2 f3 f4 f5 f6 f7 f8 hz hown hgrow
    (have q0 := block_cell hp1 0; have q1 := block_cell hp1 1; have q2 := block_cell hp1 2; have q3 := block_cell hp1 3; have q4 := block_cell hp1 4; have q5 := block_cell hp1 5; have q6 := block_cell hp1 6; have q7 := block_cell hp1 7; have q8 := block_cell hp1 8; have f0 := block_free hp1 0; have f1 := block_free hp1 1; have f2 := block_free hp1 2; have f3 := block_free hp1 3; have f4 := block_free hp1 4; have f5 := block_free hp1 5; have f6 := block_free hp1 6; have f7 := block_free hp1 7; have f8 := block_free hp1 8; have hz := block_lt hp1; simp at q0 q1 q2 q3 q4 q5 q6 q7 q8)
    clear hp1
    by_cases hce : i + 1 = cM
    · have hce2 : cM - (i + 1) = 0 := by omega
      go_wp2_with (at_builtin; refine wpList_append_own _ rfl _ _ 92 rfl w.heap.size 101 i0 (.agg #[.int .u64 0, .int .i64 0, .string ⟨#[]⟩, .slice none 0 0]) 4 56 Try.underlying92 hi0 hz0 hz1 hz2 rfl (by decide) v1 i (flatR fKn (M.take i)) rfl HO1.out ⟨bM, 0, none⟩ 0 _ [] rfl rfl (fun j u hj => by simp at hj) (fun u hu => nomatch hu) ?d3 ?d4 ?d5 ?_)
      case d3 => unfold maxLen; omega
      case d4 => omega
      case d5 => exact HBW.out.size
      intro v2 w2 hown hgrow _
      have e0 : M.length - (i + 1) = 0 := by omega
      have HFN := Lib.hid (freeB_end HB.out HCF.out HH0.out HBW.out HO1.out (by rw [e0]; simpa [flatR] using hown) hgrow HOW.out (by omega) HCUT.out)
      clear q0 q1 q2 q3 q4 q5 q6 q7 q8 f0 f1 f2 f3 f4 f5 f6 f7 f8 hz hown hgrow HOW HO1 HBW HN0 HN1 HL0 HL1
      have hp2 := HFN.out.1.p
      unfold cellsB at hp2
      (have q0 := block_cell hp2 0; have q1 := block_cell hp2 1; have q2 := block_cell hp2 2; have q3 := block_cell hp2 3; have q4 := block_cell hp2 4; have q5 := block_cell hp2 5; have q6 := block_cell hp2 6; have q7 := block_cell hp2 7; have q8 := block_cell hp2 8; have f0 := block_free hp2 0; have f1 := block_free hp2 1; have f2 := block_free hp2 2; have f3 := block_free hp2 3; have f4 := block_free hp2 4; have f5 := block_free hp2 5; have f6 := block_free hp2 6; have f7 := block_free hp2 7; have f8 := block_free hp2 8; have hz := block_lt hp2; simp at q0 q1 q2 q3 q4 q5 q6 q7 q8)
      clear hp2
      obtain ⟨M2, hM2⟩ : ∃ M2, M2 = M.take i ++ M.drop (i + 1) := ⟨_, rfl⟩
      rw [← hM2] at HFN
      obtain ⟨a2, c2, e2⟩ := own4_slice HFN.out.2.2.1.1
      subst e2
      have HB3 := Lib.hid (HFN.out.1.setM (A' := { A with it := delI A.it h }) (HCF.out _ (.inl rfl)) HFN.out.2.2.1 rfl HFN.out.2.2.2 rfl)
      have HK3 := Lib.hid ((KeepB.of_below HH0.out HFN.out.2.1).setP HCF.out 1 (.slice a2 M2.length c2))
      clear hM2 HCUT
      go_wp2_with fail
      refine (refGive_any C.lb A.x h _ hr0 hr1 HB3.out.l HFI.out hcs).mono ?_; rintro e w4 ⟨rfl, hl4, hk4⟩
      have HB4 := Lib.hid (HB3.out.list (KeepB.of_list (Nat.le_trans HH0.out (Nat.le_trans HFN.out.2.1.size (by simp [World.setCell]))) HCF.out hk4) hl4 hk4)
      have HK4 := Lib.hid (HK3.out.trans (KeepB.of_list (Nat.le_trans HH0.out (Nat.le_trans HFN.out.2.1.size (by simp [World.setCell]))) HCF.out hk4))
      rw [HGR.out]
      have hp4 := HB4.out.p
      unfold cellsB at hp4
      clear q0 q1 q2 q3 q4 q5 q6 q7 q8 f0 f1 f2 f3 f4 f5 f6 f7 f8 hz hl4 hk4
      (have q0 := block_cell hp4 0; have q1 := block_cell hp4 1; have q2 := block_cell hp4 2; have q3 := block_cell hp4 3; have q4 := block_cell hp4 4; have q5 := block_cell hp4 5; have q6 := block_cell hp4 6; have q7 := block_cell hp4 7; have q8 := block_cell hp4 8; have f0 := block_free hp4 0; have f1 := block_free hp4 1; have f2 := block_free hp4 2; have f3 := block_free hp4 3; have f4 := block_free hp4 4; have f5 := block_free hp4 5; have f6 := block_free hp4 6; have f7 := block_free hp4 7; have f8 := block_free hp4 8; have hz := block_lt hp4; simp at q0 q1 q2 q3 q4 q5 q6 q7 q8)
      clear hp4
      go_wp2_with fail
      go_ret
      exact ⟨_, M2, rfl, HB4.out.setP (v' := .slice a2 M2.length c2) (HCF.out _ (.inl rfl)) 7 (.int .i64 ((A.fr : Int) + 1)) rfl rfl HB4.out.a rfl, HK4.out.setP HCF.out 7 _⟩
    · have hce2 : cM - (i + 1) ≠ 0 := by omega
      go_wp2_with (at_builtin; refine wpList_append_own _ rfl _ _ 92 rfl w.heap.size 101 i0 (.agg #[.int .u64 0, .int .i64 0, .string ⟨#[]⟩, .slice none 0 0]) 4 56 Try.underlying92 hi0 hz0 hz1 hz2 rfl (by decide) v1 i (flatR fKn (M.take i)) rfl HO1.out ⟨bM, (i + 1) * 4, none⟩ (M.length - (i + 1)) _ (flatR fKn ((M.drop (i + 1)).take (M.length - (i + 1)))) rfl HL1.out (HN1B.out) (fKn_all _) ?e3 ?e4 ?e5 ?_)
      case e3 => unfold maxLen; omega
      case e4 => omega
      case e5 => exact HBW.out.size
      intro v2 w2 hown hgrow _
      have HFN := Lib.hid (freeB_end HB.out HCF.out HH0.out HBW.out HO1.out hown hgrow HOW.out (by omega) HCUT.out)
      clear q0 q1 q2 q3 q4 q5 q6 q7 q8 f0 f1 f2 f3 f4 f5 f6 f7 f8 hz hown hgrow HOW HO1 HBW HN0 HN1 HL0 HL1
      have hp2 := HFN.out.1.p
      unfold cellsB at hp2
      (have q0 := block_cell hp2 0; have q1 := block_cell hp2 1; have q2 := block_cell hp2 2; have q3 := block_cell hp2 3; have q4 := block_cell hp2 4; have q5 := block_cell hp2 5; have q6 := block_cell hp2 6; have q7 := block_cell hp2 7; have q8 := block_cell hp2 8; have f0 := block_free hp2 0; have f1 := block_free hp2 1; have f2 := block_free hp2 2; have f3 := block_free hp2 3; have f4 := block_free hp2 4; have f5 := block_free hp2 5; have f6 := block_free hp2 6; have f7 := block_free hp2 7; have f8 := block_free hp2 8; have hz := block_lt hp2; simp at q0 q1 q2 q3 q4 q5 q6 q7 q8)
      clear hp2
      obtain ⟨M2, hM2⟩ : ∃ M2, M2 = M.take i ++ M.drop (i + 1) := ⟨_, rfl⟩
      rw [← hM2] at HFN
      obtain ⟨a2, c2, e2⟩ := own4_slice HFN.out.2.2.1.1
      subst e2
      have HB3 := Lib.hid (HFN.out.1.setM (A' := { A with it := delI A.it h }) (HCF.out _ (.inl rfl)) HFN.out.2.2.1 rfl HFN.out.2.2.2 rfl)
      have HK3 := Lib.hid ((KeepB.of_below HH0.out HFN.out.2.1).setP HCF.out 1 (.slice a2 M2.length c2))
      clear hM2 HCUT
      go_wp2_with fail
      refine (refGive_any C.lb A.x h _ hr0 hr1 HB3.out.l HFI.out hcs).mono ?_; rintro e w4 ⟨rfl, hl4, hk4⟩
      have HB4 := Lib.hid (HB3.out.list (KeepB.of_list (Nat.le_trans HH0.out (Nat.le_trans HFN.out.2.1.size (by simp [World.setCell]))) HCF.out hk4) hl4 hk4)
      have HK4 := Lib.hid (HK3.out.trans (KeepB.of_list (Nat.le_trans HH0.out (Nat.le_trans HFN.out.2.1.size (by simp [World.setCell]))) HCF.out hk4))
      rw [HGR.out]
      have hp4 := HB4.out.p
      unfold cellsB at hp4
      clear q0 q1 q2 q3 q4 q5 q6 q7 q8 f0 f1 f2 f3 f4 f5 f6 f7 f8 hz hl4 hk4
      (have q0 := block_cell hp4 0; have q1 := block_cell hp4 1; have q2 := block_cell hp4 2; have q3 := block_cell hp4 3; have q4 := block_cell hp4 4; have q5 := block_cell hp4 5; have q6 := block_cell hp4 6; have q7 := block_cell hp4 7; have q8 := block_cell hp4 8; have f0 := block_free hp4 0; have f1 := block_free hp4 1; have f2 := block_free hp4 2; have f3 := block_free hp4 3; have f4 := block_free hp4 4; have f5 := block_free hp4 5; have f6 := block_free hp4 6; have f7 := block_free hp4 7; have f8 := block_free hp4 8; have hz := block_lt hp4; simp at q0 q1 q2 q3 q4 q5 q6 q7 q8)
      clear hp4
      go_wp2_with fail
      go_ret
      exact ⟨_, M2, rfl, HB4.out.setP (v' := .slice a2 M2.length c2) (HCF.out _ (.inl rfl)) 7 (.int .i64 ((A.fr : Int) + 1)) rfl rfl HB4.out.a rfl, HK4.out.setP HCF.out 7 _⟩
  · have HFD := Lib.hid (refFind_no C A v M b0 h w hb (hb.lost hi hl) (by omega))
    have HE := Lib.hid (show getE A h = 10 from if_neg hl)
    have HSS := Lib.hid (freeS_no hl)
    have hp := hb.p
    unfold cellsB at hp
    (have q0 := block_cell hp 0; have q1 := block_cell hp 1; have q2 := block_cell hp 2; have q3 := block_cell hp 3; have q4 := block_cell hp 4; have q5 := block_cell hp 5; have q6 := block_cell hp 6; have q7 := block_cell hp 7; have q8 := block_cell hp 8; have f0 := block_free hp 0; have f1 := block_free hp 1; have f2 := block_free hp 2; have f3 := block_free hp 3; have f4 := block_free hp 4; have f5 := block_free hp 5; have f6 := block_free hp 6; have f7 := block_free hp 7; have f8 := block_free hp 8; have hz := block_lt hp; simp at q0 q1 q2 q3 q4 q5 q6 q7 q8)
    rw [HE.out, HSS.out]
    clear hb hi hC h0 hl hp HE HSS
    go_enter Try.func29, Try.ntmps29
    go_wp2_with fail
    refine (HFD.out).mono ?_; rintro e w1 ⟨rfl, rfl⟩
    go_wp2_with fail
    go_ret
    exact ⟨v, M, rfl, HB.out.setP (A' := { A with st := A.st + 1 }) (v' := v) (HCF.out _ (.inl rfl)) 8 (.int .i64 ((A.st : Int) + 1)) rfl rfl HB.out.a rfl, HKB.out.setP HCF.out 8 _⟩
end Go.Proofs.Ytfgkbnnojogjpaa
