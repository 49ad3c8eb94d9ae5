/- Text: the reader's methods: op. (printed by slim.py.) -/
import Derived.Test.YtdfkbahlngijcaaDoorQWh
import Derived.BigQuiet
namespace Go.Proofs.YtdfkbahlngijcaaDoor
open Go.RowKit
set_option linter.unusedVariables false

theorem infoOp7 : (Tryd.prog.info? 51).map (fun i => (i.zero, i.size, i.bytes)) = some (some (.agg #[.int .u8 0, .int .i64 0, .int .i64 0, .int .i64 0, .int .u32 0, .int .u8 0, .string ⟨#[]⟩]), 7, 56) := by kernel_rfl
def ParOp : Prop := ∀ (s : ByteArray) (w : World), s.size ≤ 1000000 → Calls Tryd.prog 23 #[.string s] w fun e w' => e = .returned (.tuple #[.agg (oC (parR s.data.toList).1), .int .i64 (parR s.data.toList).2]) ∧ Below w.heap.size w w'
def OpPost (B bR : Nat) (x : Rd) (n : Nat) (row : List UInt8) (w : World) (e : Ending) (w' : World) : Prop :=
  KeptR B bR w w' ∧ ((∃ y, opP x row = some y ∧ e = .returned (.bool true) ∧ RdS B bR y n w') ∨ (opP x row = none ∧ e = .returned (.bool false) ∧ RdS B bR x n w' ∧ Below w.heap.size w w'))
theorem RdS.later {B bR : Nat} {x : Rd} {n : Nat} {w w' : World} (h : RdS B bR x n w) (hb : Below w.heap.size w w') : RdS B bR x n w' := by
  obtain ⟨vP, vQ, ss, hM, hs⟩ := h
  exact ⟨vP, vQ, ss, hM.later hb, hs⟩
theorem addLast_app (l : List (List Ov)) (a : List Ov) (o : Ov) : addLast (l ++ [a]) o = l ++ [a ++ [o]] := by
  induction l with
  | nil => rfl
  | cons b r ih =>
    cases r with
    | nil => rfl
    | cons c t => exact congrArg (b :: ·) ih
def BsO (o : Ov) (v : Value) (u : World) : Prop := ∃ b9, v = .slice (some ⟨b9, 0, none⟩) 1 1 ∧ u.heap[b9]? = some (.cells (oC o) 51 (0, 0))
theorem Stab_BsO (o : Ov) : Stab (BsO o) := by
  rintro v w w' ⟨b, hv, h⟩ hb
  exact ⟨b, hv, block_below hb h (block_lt h)⟩
def AftO (B bR g cap : Nat) (c : Cf) (vQ : Value) (ln last : Int) (ss0 : List Pg) (s : Pg) (ps : List Int) (o : Ov) (w3 : World) (p : Nat) (vs : Nat → Value) (u : World) : Prop :=
  if p = 1 then ∃ gg c4 W, vs 6 = .slice (some ⟨gg, 0, none⟩) (s.n + 1) c4 ∧ RdM B bR c (.slice (some ⟨g, 0, none⟩) (ss0.length + 1) cap) vQ ln last (ss0 ++ [s]) ps W ∧ W.grownBy u (pgV s).ownBlock ∧ u.ownsRow B 51 7 (.slice (some ⟨gg, 0, none⟩) (s.n + 1) c4) (s.n + 1) (flatR fO s.l ++ fO o) ∧ ((pgV s).ownBlock = some gg ∨ W.heap.size ≤ gg) ∧ KeptR B bR w3 W ∧ B ≤ W.heap.size
  else ∃ vP y, RdM B bR c vP vQ ln last (ss0 ++ [y]) ps u ∧ y.l = s.l ++ [o] ∧ KeptR B bR w3 u
/-- the second write -/
theorem AftO.two {B bR g cap : Nat} {c : Cf} {vQ : Value} {ln last : Int} {ss0 : List Pg} {s : Pg} {ps : List Int} {o : Ov} {w3 u W : World} {gg c4 : Nat} (vs : Nat → Value) (hrm : RdM B bR c (.slice (some ⟨g, 0, none⟩) (ss0.length + 1) cap) vQ ln last (ss0 ++ [s]) ps W) (hgr : W.grownBy u (pgV s).ownBlock)
    (how : u.ownsRow B 51 7 (.slice (some ⟨gg, 0, none⟩) (s.n + 1) c4) (s.n + 1) (flatR fO s.l ++ fO o)) (hat : (pgV s).ownBlock = some gg ∨ W.heap.size ≤ gg) (hkr : KeptR B bR w3 W) (hBW : B ≤ W.heap.size) :
    (∃ x, u.cell? ⟨g, ss0.length, none⟩ = some x) ∧ u.frozen? ⟨g, ss0.length, none⟩ = false ∧ AftO B bR g cap c vQ ln last ss0 s ps o w3 2 vs (u.setCell ⟨g, ss0.length, none⟩ (.slice (some ⟨gg, 0, none⟩) (s.n + 1) c4)) := by
  have hsm : s ∈ ss0 ++ [s] := by simp
  have hP4 := own_away hrm.ownP hgr (fun q hq => own_not_own hrm.ownP (hrm.rows s hsm).1 (by decide) q hq)
  have hgB := (own_typ1 hP4 (q := g) rfl).1
  obtain ⟨-, cur, hgc⟩ := own_typ1 hP4 (q := g) rfl
  have hcell : u.cell? ⟨g, ss0.length, none⟩ = some (pgV s) := by
    have hfl : (flatR fPg ss0).length = ss0.length := by rw [flatR_len fPg_len]; omega
    have := hP4.cells (g := g) rfl ss0.length (pgV s) (by rw [flatR_app, flatR_one, List.getElem?_append_right (by rw [hfl]; exact Nat.le_refl _), hfl, Nat.sub_self]; rfl)
    rw [add_to] at this
    simpa using this
  have hBu : B ≤ u.heap.size := Nat.le_trans hBW hgr.size
  refine ⟨⟨_, hcell⟩, block_free hgc _, ?_⟩
  unfold AftO
  rw [if_neg (by decide)]
  refine ⟨_, _, RdM.op hrm hgr how ?_, rfl, (hkr.trans (KeptR.own hgr (hrm.rows s hsm).1 hBW)).trans (KeptR.set hgc (.inl hgB) hBu)⟩
  rcases hat with hat | hat
  · exact .inl (hat ▸ rfl)
  · exact .inr ⟨gg, rfl, hat⟩
set_option maxRecDepth 100000 in
set_option maxHeartbeats 2000000 in
theorem op_any (HPA : ParOp) (B bR : Nat) (x : Rd) (n : Nat) (row : List UInt8) (w : World) (hB : B ≤ w.heap.size) (h : RdS B bR x n w) (hl : row.length ≤ 1000000) (hN : x.ss.length ≤ 1000000) (hop : ∀ l ∈ x.ss, l.length ≤ 1000000) :
    Calls Tryd.prog 47 #[.pointer (some ⟨bR, 0, none⟩), .string ⟨row.toArray⟩] w (OpPost B bR x n row w) := by
  obtain ⟨i0, hi0, hz0, hz1, hz2⟩ := info_parts infoOp7
  have HNO := Lib.hid (show ∀ w', Below w.heap.size w w' → opP x row = none → OpPost B bR x n row w (.returned (.bool false)) w' from fun w' hb hn => ⟨KeptR.of_below hb hB, .inr ⟨hn, rfl, h.later hb, hb⟩⟩)
  have HYES := Lib.hid (show ∀ (w' : World) (y : Rd), KeptR B bR w w' → opP x row = some y → RdS B bR y n w' → OpPost B bR x n row w (.returned (.bool true)) w' from fun w' y hk hc hr => ⟨hk, .inl ⟨y, hc, rfl, hr⟩⟩)
  obtain ⟨vP, vQ, ss, hM, hss⟩ := h
  have c11 := rd_last hM
  have c8 := rd_P hM
  have HM := Lib.hid hM
  have HSS := Lib.hid hss
  have HSL := Lib.hid (show ss.length = x.ss.length by rw [← hss, List.length_map])
  have HP := Lib.hid (fun u => HPA ⟨row.toArray⟩ u (by show row.toArray.size ≤ _; rw [List.size_toArray]; exact hl))
  rw [show (⟨row.toArray⟩ : ByteArray).data.toList = row from List.toList_toArray ..] at HP
  have HOP := Lib.hid hop
  obtain ⟨ao, cap, rfl, hao⟩ := own_form hM.ownP
  generalize OpPost B bR x n row w = PP at *
  clear hM hss hl hop HPA
  by_cases h0 : ss.length = 0
  · as_aux_lemma =>
      have HX := Lib.hid (HNO.out w (Below.refl _ _) (by unfold opP; rw [if_neg (fun k => k.1 (List.eq_nil_of_length_eq_zero (by rw [← HSL.out]; exact h0)))]))
      rw [h0] at c8
      clear h0 hao
      go_enter Tryd.func47, Tryd.ntmps47
      go_wp2_with fail
      exact HX.out
  · by_cases hlt : x.last < 0
    · have hl2 : decide ((0 : Int) ≤ x.last) = false := decide_eq_false (by omega)
      have hz : ((ss.length : Int) == 0) = false := by rw [beq_eq_false_iff_ne]; omega
      have HCP := Lib.hid (show opP x row = match parO row with
          | some o => some { x with ss := addLast x.ss o }
          | none => none by unfold opP; rw [if_pos ⟨fun k => h0 (by rw [HSL.out, k]; rfl), hlt⟩]; cases parO row <;> rfl)
      have HLV := Lib.hid hlt
      have H0 := Lib.hid h0
      have HAO := Lib.hid hao
      clear hlt h0 hao
      rcases hpo : parO row with _ | o
      · as_aux_lemma =>
          rw [show parR row = (zeroO, 4) by unfold parR; rw [hpo]] at HP
          have HX := Lib.hid (show opP x row = none by rw [HCP.out, hpo])
          clear hpo
          go_enter Tryd.func47, Tryd.ntmps47
          go_wp2_with fail
          refine (HP.out w).mono ?_; rintro e1 w1 ⟨rfl, hb1⟩
          have HB1 := Lib.hid hb1
          clear hb1
          unfold oC zeroO
          go_wp2_with fail
          refine HNO.out _ ?_ HX.out
          exact HB1.out.alloc HB1.out.size _
      · rw [show parR row = (o, 0) by unfold parR; rw [hpo]] at HP
        have HX := Lib.hid (show opP x row = some { x with ss := addLast x.ss o } by rw [HCP.out, hpo])
        obtain ⟨ss0, s, rfl⟩ : ∃ ss0 s, ss = ss0 ++ [s] := ⟨ss.dropLast, ss.getLast (fun k => H0.out (by rw [k]; rfl)), (List.dropLast_concat_getLast _).symm⟩
        have HLS := Lib.hid (show (ss0 ++ [s]).length = ss0.length + 1 from List.length_append)
        rw [HLS.out] at c8 hz HM HAO
        obtain ⟨g, rfl⟩ := HAO.out (by omega)
        have hss0 : ss0.length ≤ 1000000 := by have := HSL.out; rw [HLS.out] at this; omega
        have hsub : ((ss0.length + 1 : Nat) : Int) - 1 = (ss0.length : Int) := by omega
        clear hpo HAO H0
        go_enter Tryd.func47, Tryd.ntmps47
        go_wp2_with fail
        refine (HP.out w).mono ?_; rintro e1 w1 ⟨rfl, hb1⟩
        have HB1 := Lib.hid hb1
        clear hb1
        have HB2 := Lib.hid (HB1.out.alloc HB1.out.size (.cells (oC o) 51))
        have HM2 := Lib.hid (HM.out.later HB2.out)
        have HBL := Lib.hid (block_new w1 (.cells (oC o) 51))
        unfold oC at HB2 HM2 HBL
        unfold oC
        go_upto_region 6 with (fail)
        generalize w1.alloc (.cells #[.int .u8 o.k, .int .i64 o.slot, .int .i64 o.at_, .int .i64 o.n, .int .u32 o.id, .int .u8 o.g, .string o.t] 51) = w2 at *
        generalize w1.heap.size = bO at *
        have d8 := rd_P HM2.out
        go_quiet (fail)
        have HB3 := Lib.hid (show Below w.heap.size w (w2.drewN nq) from HB2.out.trans ⟨rfl, rfl, rfl, Nat.le_refl _, fun _ _ => rfl⟩)
        have HM3 := Lib.hid (HM2.out.later (show Below w2.heap.size w2 (w2.drewN nq) from ⟨rfl, rfl, rfl, Nat.le_refl _, fun _ _ => rfl⟩))
        have HBO := Lib.hid (show (w2.drewN nq).heap[bO]? = some (.cells #[.int .u8 o.k, .int .i64 o.slot, .int .i64 o.at_, .int .i64 o.n, .int .u32 o.id, .int .u8 o.g, .string o.t] 51 (0, 0)) from HBL.out)
        clear d8 HBL HM2 HB2
        generalize w2.drewN nq = w3 at *
        have HD := Lib.hid (show w3.cell? ⟨g, ss0.length, none⟩ = some (.slice s.a s.n s.c) from by
          have hfl : (flatR fPg ss0).length = ss0.length := by rw [flatR_len fPg_len]; omega
          have := HM3.out.ownP.cells (g := g) rfl ss0.length (pgV s) (by rw [flatR_app, flatR_one, List.getElem?_append_right (by rw [hfl]; exact Nat.le_refl _), hfl, Nat.sub_self]; rfl)
          rw [add_to] at this
          simpa [pgV] using this)
        have HGL := Lib.hid (show g < w3.heap.size by obtain ⟨-, cur, hc⟩ := own_typ1 HM3.out.ownP (q := g) rfl; exact block_lt hc)
        have HBS := Lib.hid (show B ≤ w3.heap.size by have := HB3.out.size; omega)
        have HSN := Lib.hid (show s.n ≤ 1000000 by
          have h1 := (HM3.out.rows s (by simp)).2
          have h2 := HOP.out s.l (by rw [← HSS.out]; simp)
          omega)
        have HSO := Lib.hid ((HM3.out.rows s (by simp)).1)
        go_wp2_with fail
        go_upto_region 7 with (fail)
        -- R7 begin
        refine wp_region_plan [.pure, .make, .make, .make, .make, .make, .write 0, .pure, .write 1] [1, 2, 3, 4, 5] 2 (AftO B bR g cap x.c vQ n x.last ss0 s x.ps o w3) (by kernel_rfl) (by decide) (by kernel_rfl) (by kernel_rfl) (by kernel_rfl) (by kernel_rfl) (fun p vs vs' u h hE => by unfold AftO at hE ⊢; rw [← h 6 (by decide)] at hE; exact hE) ?_
        simp only [fill, Act.put, List.setIfInBounds_toArray, List.set_cons_zero, List.set_cons_succ, Nat.zero_add, Nat.reduceAdd, List.zip_cons_cons, List.zip_nil_right]
        apply OpsIs.pure
        · intro vs u hd
          clear hd
          go_wp2_with fail
          exact ⟨rfl, _, rfl, rfl, fun _ => rfl⟩
        apply OpsIs.eq
        · intro vs u hb hd
          clear hd
          go_wp2_with fail
          exact ⟨rfl, _, rfl, Below.refl _ _, rfl⟩
        apply OpsIs.eq
        · intro vs u hb hd
          have e1 := hd ⟨1, .data⟩ (by simp) (by decide)
          simp at e1
          clear hd
          simp only [e1]
          go_wp2_with fail
          exact ⟨rfl, _, rfl, Below.refl _ _, rfl⟩
        apply OpsIs.eq
        · intro vs u hb hd
          have e2 := hd ⟨2, .data⟩ (by simp) (by decide)
          simp at e2
          clear hd
          simp only [e2]
          have dg : u.cell? ⟨g, ss0.length, none⟩ = some (.slice s.a s.n s.c) := (hb.cell (p := ⟨g, ss0.length, none⟩) HGL.out).trans HD.out
          go_wp2_with fail
          exact ⟨rfl, _, rfl, Below.refl _ _, rfl⟩
        apply OpsIs.eq
        · intro vs u hb hd
          clear hd
          have q := block_below hb HBO.out (block_lt HBO.out)
          have p0 := block_cell q 0
          have p1 := block_cell q 1
          have p2 := block_cell q 2
          have p3 := block_cell q 3
          have p4 := block_cell q 4
          have p5 := block_cell q 5
          have p6 := block_cell q 6
          simp at p0 p1 p2 p3 p4 p5 p6
          clear q
          go_wp2_with fail
          exact ⟨rfl, _, rfl, Below.refl _ _, rfl⟩
        refine OpsIs.step (BsO o) (Stab_BsO _) ?_ ?_
        · intro vs u hb hd
          have e4 := hd ⟨4, .data⟩ (by simp) (by decide)
          simp at e4
          clear hd
          simp only [e4]
          go_wp2_with fail
          exact ⟨rfl, _, rfl, (Below.refl _ _).alloc (Nat.le_refl _) _, _, rfl, block_new _ _⟩
        refine OpsIs.first ?_ ?_
        · intro vs u hb hdis hd
          have e3 := hd 3 (by simp)
          simp at e3
          obtain ⟨b9, e5, hb9⟩ := hd 5 (by simp)
          clear hd
          simp only [e3, e5]
          have HUM := Lib.hid (HM3.out.later hb)
          have HOU := Lib.hid (own_below HSO.out hb)
          unfold pgV at HOU
          have HN9 := Lib.hid hb9
          unfold oC at HN9
          have HKU := Lib.hid (KeptR.of_below (bR := bR) hb HBS.out)
          have hBu : B ≤ u.heap.size := Nat.le_trans HBS.out hb.size
          have hsn := HSN.out
          clear hb9 hb
          go_wp2_with (at_builtin; go_loud (refine wpList_append_lies _ rfl _ _ 60 rfl B 51 i0 _ 7 56 Tryd.underlying60 hi0 hz0 hz1 hz2 rfl (by decide) _ s.n _ rfl HOU.out ⟨b9, 0, none⟩ 1 1 (fO o) rfl rfl (World.news_of_block (cs := #[_, _, _, _, _, _, _]) (t := 51) (fr := (0, 0)) HN9.out) (by simp [fO, Value.oneCell']) (by omega) (by unfold maxLen; omega) (by omega) (by omega) u.heap.size rfl ?c1))
          case c1 =>
            intro gg c4 w6 hown6 hgrow6 hat6 hlt6
            have HA6 := Lib.hid (show AftO B bR g cap x.c vQ n x.last ss0 s x.ps o w3 1 (upd vs 6 (.slice (some ⟨gg, 0, none⟩) (s.n + 1) c4)) w6 from by
              unfold AftO
              rw [if_pos rfl]
              refine ⟨gg, c4, u, rfl, HUM.out, hgrow6, hown6, ?_, HKU.out, hBu⟩
              rcases hat6 with h | h
              · exact .inl h
              · exact .inr (by omega))
            clear hown6 hgrow6 hat6 hlt6
            go_wp2_with fail
            exact ⟨rfl, _, rfl, HA6.out⟩
        apply OpsIs.pure
        · intro vs u hd
          obtain ⟨_, e0⟩ := hd ⟨0, .data⟩ (by simp) (by decide)
          simp at e0
          obtain ⟨_, e1⟩ := hd ⟨1, .phase⟩ (by simp) (by decide)
          simp at e1
          obtain ⟨_, e2⟩ := hd ⟨2, .phase⟩ (by simp) (by decide)
          simp at e2
          obtain ⟨_, e3⟩ := hd ⟨3, .phase⟩ (by simp) (by decide)
          simp at e3
          obtain ⟨_, e4⟩ := hd ⟨4, .phase⟩ (by simp) (by decide)
          simp at e4
          clear hd
          simp only [e0, e1, e2, e3, e4]
          go_wp2_with fail
          exact ⟨rfl, _, rfl, rfl, fun _ => rfl⟩
        refine OpsIs.next ?_ ?_
        · intro vs u hE hd
          obtain ⟨_, e7⟩ := hd ⟨7, .data⟩ (by simp) (by decide)
          simp at e7
          obtain ⟨_, e0⟩ := hd ⟨0, .phase⟩ (by simp) (by decide)
          simp at e0
          obtain ⟨_, e1⟩ := hd ⟨1, .phase⟩ (by simp) (by decide)
          simp at e1
          obtain ⟨_, e2⟩ := hd ⟨2, .phase⟩ (by simp) (by decide)
          simp at e2
          obtain ⟨_, e3⟩ := hd ⟨3, .phase⟩ (by simp) (by decide)
          simp at e3
          obtain ⟨_, e4⟩ := hd ⟨4, .phase⟩ (by simp) (by decide)
          simp at e4
          unfold AftO at hE
          rw [if_pos rfl] at hE
          obtain ⟨gg, c4, W, hv, hrm, hgr, how, hat, hkr, hBW⟩ := hE
          clear hd
          simp only [e7, e0, e1, e2, e3, e4, hv]
          obtain ⟨⟨x9, hx9⟩, hf9, ha9⟩ := AftO.two (upd vs 8 undef) hrm hgr how hat hkr hBW
          have HA9 := Lib.hid ha9
          clear hrm hgr how hat hkr hBW ha9
          go_wp2_with fail
          exact ⟨rfl, undef, rfl, HA9.out⟩
        refine OpsIs.done ?_
        intro vs u hE hS
        clear hS
        -- R7 end
        unfold AftO at hE
        rw [if_neg (by decide)] at hE
        obtain ⟨vP2, y, hrm, hy, hk⟩ := hE
        have HS := Lib.hid (show RdS B bR { x with ss := addLast x.ss o } n u from ⟨vP2, vQ, ss0 ++ [y], hrm, by
          show (ss0 ++ [y]).map (·.l) = addLast x.ss o
          rw [← HSS.out, List.map_append, List.map_append, List.map_cons, List.map_nil, List.map_cons, List.map_nil, addLast_app, hy]⟩)
        have HY := Lib.hid (HYES.out u _ ((KeptR.of_below HB3.out hB).trans hk) HX.out HS.out)
        clear hrm hy hk
        go_wp2_with fail
        exact HY.out
    · as_aux_lemma =>
        have hl2 : decide ((0 : Int) ≤ x.last) = true := decide_eq_true (by omega)
        have hz : ((ss.length : Int) == 0) = false := by rw [beq_eq_false_iff_ne]; omega
        have HX := Lib.hid (HNO.out w (Below.refl _ _) (by unfold opP; rw [if_neg (fun k => hlt k.2)]))
        clear h0 hao
        go_enter Tryd.func47, Tryd.ntmps47
        go_wp2_with fail
        exact HX.out
end Go.Proofs.YtdfkbahlngijcaaDoor

