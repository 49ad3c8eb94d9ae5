/- Text: the reader's methods: client. (printed by slim.py.) -/
import Derived.Test.YtdfkbahlngijcaaDoorQWg
namespace Go.Proofs.YtdfkbahlngijcaaDoor
open Go.RowKit
set_option linter.unusedVariables false

theorem infoOps : (Tryd.prog.info? 60).map (fun i => (i.zero, i.size, i.bytes)) = some (some (.slice none 0 0), 1, 24) := by kernel_rfl
def ClientPost (B bR : Nat) (x : Rd) (n : Nat) (ws : List (List UInt8)) (w : World) (e : Ending) (w' : World) : Prop :=
  KeptR B bR w w' ∧ ((∃ y, clientP x ws = some y ∧ e = .returned (.bool true) ∧ RdS B bR y n w') ∨ (clientP x ws = none ∧ e = .returned (.bool false) ∧ RdS B bR x n w' ∧ Below w.heap.size w w'))
theorem rd_last {B bR : Nat} {c : Cf} {vP vQ : Value} {ln last : Int} {ss : List Pg} {ps : List Int} {W : World} (h : RdM B bR c vP vQ ln last ss ps W) : W.cell? ⟨bR, 11, none⟩ = some (.int .i64 last) := (block_cell h.cells 11).trans rfl
theorem rd_P {B bR : Nat} {c : Cf} {vP vQ : Value} {ln last : Int} {ss : List Pg} {ps : List Int} {W : World} (h : RdM B bR c vP vQ ln last ss ps W) : W.cell? ⟨bR, 8, none⟩ = some vP := (block_cell h.cells 8).trans rfl
theorem rd_Q {B bR : Nat} {c : Cf} {vP vQ : Value} {ln last : Int} {ss : List Pg} {ps : List Int} {W : World} (h : RdM B bR c vP vQ ln last ss ps W) : W.cell? ⟨bR, 9, none⟩ = some vQ := (block_cell h.cells 9).trans rfl
theorem list2 {α : Type} (l : List α) (h : l.length = 2) : ∃ a b, l = [a, b] := by
  match l, h with
  | [a, b], _ => exact ⟨a, b, rfl⟩
set_option maxRecDepth 100000 in
set_option maxHeartbeats 2000000 in
theorem client_any (B bR : Nat) (x : Rd) (n b : Nat) (ws : List (List UInt8)) (w : World) (hB : B ≤ w.heap.size) (h : RdS B bR x n w) (hw : WdAt w b ws) (hlen : ws.length ≤ 1000000) (hwl : ∀ y ∈ ws, y.length ≤ 1000000) (hN : x.ss.length ≤ 1000000) :
    Calls Tryd.prog 46 #[.pointer (some ⟨bR, 0, none⟩), .slice (some ⟨b, 0, none⟩) ws.length ws.length] w (ClientPost B bR x n ws w) := by
  obtain ⟨i0, hi0, hz0, hz1, hz2⟩ := info_parts infoOps
  have HNO := Lib.hid (show clientP x ws = none → ClientPost B bR x n ws w (.returned (.bool false)) w from fun hn => ⟨KeptR.refl _ _ _, .inr ⟨hn, rfl, h, Below.refl _ _⟩⟩)
  by_cases h2 : ws.length = 2
  · obtain ⟨w0, w1, rfl⟩ := list2 ws h2
    have c0 : w.cell? ⟨b, 0, none⟩ = some (.string ⟨w0.toArray⟩) := hw.at (j := 0) (by simp)
    have c1 : w.cell? ⟨b, 1, none⟩ = some (.string ⟨w1.toArray⟩) := hw.at (j := 1) (by simp)
    by_cases hc : w0 = clientN
    · subst hc
      obtain ⟨vP, vQ, ss, hM, hss⟩ := h
      have c11 := rd_last hM
      have c8 := rd_P hM
      have HM := Lib.hid hM
      have HSS := Lib.hid hss
      have HSL := Lib.hid (show ss.length = x.ss.length by rw [← hss, List.length_map])
      have HYES := Lib.hid (show ∀ (w' : World) (y : Rd), KeptR B bR w w' → clientP x [clientN, w1] = some y → RdS B bR y n w' → ClientPost B bR x n [clientN, w1] w (.returned (.bool true)) w' from fun w' y hk hc hr => ⟨hk, .inl ⟨y, hc, rfl, hr⟩⟩)
      have HNU := Lib.hid (number_any ⟨w1.toArray⟩ w (by have := hwl w1 (by simp); show w1.toArray.size ≤ _; rw [List.size_toArray]; omega))
      rw [show (⟨w1.toArray⟩ : ByteArray).data.toList = w1 from List.toList_toArray ..] at HNU
      by_cases hl : x.last < 0
      · have hl2 : decide ((0 : Int) ≤ x.last) = false := decide_eq_false (by omega)
        have HCP := Lib.hid (show clientP x [clientN, w1] = match numW w1 with
            | some n => if n = x.ss.length then some { x with ss := x.ss ++ [[]] } else none
            | none => none by unfold clientP; rw [if_pos ⟨rfl, rfl, hl⟩]; rfl)
        have HLV := Lib.hid hl
        generalize ClientPost B bR x n [clientN, w1] w = PP at *
        unfold clientN at c0
        clear h2 hlen hM hss hw hwl hl
        rcases hnw : numW w1 with _ | m
        · as_aux_lemma =>
            rw [numR_none hnw] at HNU
            have HX := Lib.hid (HNO.out (by rw [HCP.out, hnw]))
            clear hnw
            go_enter Tryd.func46, Tryd.ntmps46
            go_wp2_with fail
            refine (HNU.out).mono ?_; rintro e1 w1 ⟨rfl, rfl⟩
            go_wp2_with fail
            exact HX.out
        · rw [numR_some hnw] at HNU
          by_cases hm : m = x.ss.length
          · as_aux_lemma =>
              subst hm
              have hmi : ((x.ss.length : Int) != (ss.length : Int)) = false := by rw [HSL.out]; simp
              have hmi2 : ((x.ss.length : Int) == (ss.length : Int)) = true := by rw [HSL.out]; simp
              have HX := Lib.hid (show clientP x [clientN, w1] = some { x with ss := x.ss ++ [[]] } by rw [HCP.out, hnw]; simp)
              obtain ⟨ao, cap, rfl, hao⟩ := own_form HM.out.ownP
              clear hnw hao
              go_enter Tryd.func46, Tryd.ntmps46
              go_wp2_with fail
              refine (HNU.out).mono ?_; rintro e1 w1 ⟨rfl, rfl⟩
              have hsl : ss.length ≤ 1000000 := by rw [HSL.out]; omega
              go_wp2_with (at_builtin; refine wpList_append_lies _ rfl _ _ 39 rfl B 60 i0 _ 1 24 Tryd.underlying39 hi0 hz0 hz1 hz2 rfl (by decide) _ ss.length _ rfl (HM.out.ownP.alloc _) ⟨w.heap.size, 0, none⟩ 1 1 [.slice none 0 0] rfl rfl (World.news_of_block (cs := #[_]) (t := 60) (fr := (0, 0)) (heap_alloc_new w _)) (by simp [Value.oneCell']) (by omega) (by unfold maxLen; omega) (by omega) (by simp; omega) (w.heap.size + 1) (by simp) ?c1)
              case c1 =>
                intro gg cap5 w5 hown5 hgrow5 hat5 hlt5
                have hal := HM.out.later (Below.alloc (Below.refl w.heap.size w) (Nat.le_refl _) (.cells #[.slice none 0 0] 60 (0, 0)))
                have hcl := hal.client hgrow5 hown5
                have hb0 : Below w.heap.size w (w.alloc (.cells #[.slice none 0 0] 60 (0, 0))) := Below.alloc (Below.refl w.heap.size w) (Nat.le_refl _) _
                have hc5 := keep_append hal.ownP hal.cells (by decide) hgrow5 hal.cells
                have hBa : B ≤ (w.alloc (.cells #[.slice none 0 0] 60 (0, 0))).heap.size := Nat.le_trans hB hb0.size
                have k1 := KeptR.of_below (bR := bR) hb0 hB
                have k2 := KeptR.own (bR := bR) hgrow5 hal.ownP hBa
                have hB5 : B ≤ w5.heap.size := Nat.le_trans hBa k2.size
                have k3 := KeptR.set (i := 8) (v := .slice (some ⟨gg, 0, none⟩) (ss.length + 1) cap5) hc5 (.inr rfl) hB5
                have HK := Lib.hid ((k1.trans k2).trans k3)
                have HS := Lib.hid (show RdS B bR { x with ss := x.ss ++ [[]] } n (w5.setCell ⟨bR, 8, none⟩ (.slice (some ⟨gg, 0, none⟩) (ss.length + 1) cap5)) from ⟨_, _, _, hcl, by rw [List.map_append, HSS.out]; rfl⟩)
                have HY := Lib.hid (HYES.out _ _ HK.out HX.out HS.out)
                have p8 : w5.cell? ⟨bR, 8, none⟩ = some (.slice ao ss.length cap) := (block_cell hc5 8).trans rfl
                have f8 := block_free hc5 8
                clear hal hcl hc5 k1 k2 k3 hown5 hgrow5 hat5 hlt5 hb0 hBa
                go_wp2_with fail
                exact HY.out
          · as_aux_lemma =>
              have HX := Lib.hid (HNO.out (by rw [HCP.out, hnw]; simp [hm]))
              have hmi : ((m : Int) != (ss.length : Int)) = true := by rw [HSL.out, bne_iff_ne]; omega
              have hmi2 : ((m : Int) == (ss.length : Int)) = false := by rw [HSL.out, beq_eq_false_iff_ne]; omega
              obtain ⟨ao, cap, rfl, hao⟩ := own_form HM.out.ownP
              clear hnw hao hm
              go_enter Tryd.func46, Tryd.ntmps46
              go_wp2_with fail
              refine (HNU.out).mono ?_; rintro e1 w1 ⟨rfl, rfl⟩
              go_wp2_with fail
              exact HX.out
      · as_aux_lemma =>
          have hl2 : decide ((0 : Int) ≤ x.last) = true := decide_eq_true (by omega)
          have HX := Lib.hid (HNO.out (by unfold clientP; rw [if_neg (fun k => hl k.2.2)]))
          generalize ClientPost B bR x n [clientN, w1] w = PP at *
          unfold clientN at c0
          clear h2 hlen hM hss hw hwl hl
          go_enter Tryd.func46, Tryd.ntmps46
          go_wp2_with fail
          exact HX.out
    · have HX := Lib.hid (HNO.out (by unfold clientP; rw [if_neg (fun k => hc k.2.1)]))
      have hb : ((⟨w0.toArray⟩ : ByteArray).toList == [99, 108, 105, 101, 110, 116]) = false := by
        rw [ByteArray.toList_eq, beq_eq_false_iff_ne]
        exact hc
      have hb2 : (w0 == [99, 108, 105, 101, 110, 116]) = false := by rw [beq_eq_false_iff_ne]; exact hc
      clear hc h hw hwl
      go_enter Tryd.func46, Tryd.ntmps46
      go_wp2_with fail
      go_ret
      exact HX.out
  · have HX := Lib.hid (HNO.out (by unfold clientP; rw [if_neg (fun k => h2 k.1)]))
    generalize ws.length = m at *
    have hb : ((m : Int) == 2) = false := by rw [beq_eq_false_iff_ne]; omega
    have hb2 : ((m : Int) != 2) = true := by rw [bne_iff_ne]; omega
    have hm9 : ¬ (m = 2) := h2
    have HM9 := Lib.hid hm9
    clear h2 h hw hwl hm9 HNO
    go_enter Tryd.func46, Tryd.ntmps46
    go_wp2_with fail
    go_ret
    exact HX.out
end Go.Proofs.YtdfkbahlngijcaaDoor

