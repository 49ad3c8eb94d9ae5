/- Text: results: the closure put. -/
import Derived.Test.YtdfkbahlngijcaaDoorTr
namespace Go.Proofs.YtdfkbahlngijcaaDoor
open Go.RowKit
set_option linter.unusedVariables false

def fS (x : List UInt8) : List Value := [.string ⟨x.toArray⟩]
theorem fS_len (x : List UInt8) : (fS x).length = 1 := rfl
theorem infoStr : (Tryd.prog.info? 9).map (fun i => (i.zero, i.size, i.bytes)) = some (some (.string ByteArray.empty), 1, 16) := by kernel_rfl
theorem flatS_one (x : List UInt8) : flatR fS [x] = fS x := by simp [flatR]
theorem flatS_app (a b : List (List UInt8)) : flatR fS (a ++ b) = flatR fS a ++ flatR fS b := by simp [flatR]
/-- the variable out: a slice of strings in a cell -/
structure OutS (B bO : Nat) (v : Value) (ws : List (List UInt8)) (w : World) : Prop where
  out : w.heap[bO]? = some (.cells #[v] 59 (0, 0))
  own : w.ownsRow B 9 1 v ws.length (flatR fS ws)
theorem OutS.below {B bO : Nat} {v : Value} {ws : List (List UInt8)} {w w' : World} (h : OutS B bO v ws w) (hb : Below w.heap.size w w') : OutS B bO v ws w' :=
  ⟨block_below hb h.out (block_lt h.out), own_below h.own hb⟩
/-- blocks of another type stay where a row of the call's own grows -/
theorem keep_append {w w1 w' : World} {B k n i : Nat} {t T : TypeId} {v : Value} {xs : List Value} {cs : Array Value} {fr : Nat × Nat} (h : w.ownsRow B t k v n xs) (hx : w.heap[i]? = some (.cells cs T fr)) (ht : t ≠ T) (hg : w1.grownBy w' v.ownBlock) (e : w1.heap[i]? = some (.cells cs T fr)) : w'.heap[i]? = some (.cells cs T fr) := by
  rw [hg.block i (block_lt e) (fun e' => by
    obtain ⟨-, c1, h1⟩ := own_typ1 h e'.symm
    rw [hx] at h1
    injection h1 with h1
    injection h1 with _ h2 _
    exact ht h2.symm)]
  exact e
theorem ne_of_ty {w : World} {b b' : Nat} {c c' : Array Value} {T T' : TypeId} {fr fr' : Nat × Nat} (h : w.heap[b]? = some (.cells c T fr)) (h' : w.heap[b']? = some (.cells c' T' fr')) (ht : T ≠ T') : b ≠ b' := by
  intro e
  subst e
  rw [h] at h'
  injection h' with h'
  injection h' with _ h2 _
  exact ht h2
theorem own_set {w : World} {B s n b : Nat} {t T : TypeId} {v : Value} {xs : List Value} {cs : Array Value} {fr : Nat × Nat} (h : w.ownsRow B t s v n xs) (hx : w.heap[b]? = some (.cells cs T fr)) (ht : t ≠ T) (i : Nat) (x : Value) : (w.setCell ⟨b, i, none⟩ x).ownsRow B t s v n xs := by
  obtain ⟨h0, h | ⟨g, cap', cur, h1, hg, h2, h3⟩⟩ := h
  · exact ⟨h0, .inl h⟩
  · exact ⟨h0, .inr ⟨g, cap', cur, h1, hg, block_setCell_other h2 (p := ⟨b, i, none⟩) (Ne.symm (ne_of_ty h2 hx ht)) x, h3⟩⟩
def PutPost (B bO : Nat) (ws : List (List UInt8)) (l : List Int) (w : World) (e : Ending) (w' : World) : Prop :=
  e = .returned (.bool (allOK l)) ∧ Below B w w' ∧ (allOK l = true → ∃ v, OutS B bO v (ws ++ l.map numL) w')
theorem allOK_at {l : List Int} {j : Nat} (h : j < l.length) : allOK (l.take (j + 1)) = (allOK (l.take j) && decide (numOK l[j])) := by
  unfold allOK
  rw [List.take_succ_eq_append_getElem h, List.all_append]
  simp
theorem allOK_no {l : List Int} {j : Nat} (h : j < l.length) (hn : ¬ numOK l[j]) : allOK l = false := by
  unfold allOK
  rw [List.all_eq_false]
  exact ⟨l[j], List.getElem_mem h, by simp [hn]⟩
theorem int_cell {w : World} {ba : Nat} {l : List Int} {t : TypeId} (h : w.heap[ba]? = some (.cells (l.map (Value.int .i64)).toArray t (0, 0))) {j : Nat} (hj : j < l.length) : w.cell? ⟨ba, j, none⟩ = some (.int .i64 l[j]) := by
  rw [block_cell h]
  simp [hj]

set_option maxRecDepth 100000 in
set_option maxHeartbeats 8000000 in
theorem put_any (B bO ba c : Nat) (v : Value) (ws : List (List UInt8)) (l : List Int) (w0 w : World) (hO : OutS B bO v ws w) (hA : w.heap[ba]? = some (.cells (l.map (Value.int .i64)).toArray 3 (0, 0))) (hB0 : w0.heap.size ≤ B) (hbo : B ≤ bO) (hBw : B ≤ w.heap.size) (hb0 : Below w0.heap.size w0 w) (ht : Tab w0) (hw : ws.length ≤ 100) (hl : l.length ≤ 100) :
    Calls Tryd.prog 28 #[.slice (some ⟨ba, 0, none⟩) l.length c, .pointer (some ⟨bO, 0, none⟩)] w (PutPost B bO ws l w) := by
  obtain ⟨i0, hi0, hz0, hz1, hz2⟩ := info_parts infoStr
  have HO := Lib.hid hO
  have HA := Lib.hid hA
  have HB0 := Lib.hid hb0
  have HT := Lib.hid ht
  have hpos : ∀ m : Nat, (0 : Int) ≤ (m : Int) := fun m => by omega
  clear hO hA hb0 ht
  go_enter Tryd.func28, Tryd.ntmps28
  go_wp2_with fail
  go_loopw [8] (fun s wr => ∃ (j : Nat) (v : Value), j ≤ l.length ∧ s = .int .i64 j ∧ allOK (l.take j) = true ∧ OutS B bO v (ws ++ (l.take j).map numL) wr ∧ wr.heap[ba]? = some (.cells (l.map (Value.int .i64)).toArray 3 (0, 0)) ∧ Below B w wr) (fun s _ => l.length - (intOf s).toNat)
  case atStart => exact ⟨0, v, Nat.zero_le _, rfl, rfl, by simpa using HO.out, HA.out, Below.refl _ _⟩
  case round =>
    obtain ⟨j, v1, hj, rfl, hok, hO1, hA1, hbr⟩ := hrel
    have HO1 := Lib.hid hO1
    have HA1 := Lib.hid hA1
    have HBR := Lib.hid hbr
    have HOK := Lib.hid hok
    have hszr := hbr.size
    have hlen : (ws ++ (l.take j).map numL).length ≤ 200 := by simp; omega
    have HTR := Lib.hid (fun (u : World) (hu : Below wr.heap.size wr u) => show Tab u from HT.out.below (HB0.out.trans ((HBR.out.mono hB0).trans (hu.mono (by have := HB0.out.size; omega)))))
    clear hO1 hbr hok
    by_cases hlt : j < l.length
    · have hj1 : (j : Int) < (l.length : Int) := by omega
      have hj0 : (0 : Int) ≤ (j : Int) := by omega
      have ca := int_cell hA1 hlt
      have HNO := Lib.hid (fun hn : ¬ numOK l[j] => allOK_no hlt hn)
      have HST := Lib.hid (allOK_at hlt)
      have HTK := Lib.hid (List.take_succ_eq_append_getElem hlt)
      clear hA1
      generalize l[j] = x at *
      by_cases h0 : x < 0
      · have HF := Lib.hid (HNO.out fun h => by have := h.1; omega)
        go_wp2_with fail
        go_ret
        exact ⟨by rw [HF.out] <;> rfl, HBR.out, fun h => by rw [HF.out] at h; cases h⟩
      · by_cases h1 : 9999999999 < x
        · have HF := Lib.hid (HNO.out fun h => by have := h.2; omega)
          go_wp2_with fail
          go_ret
          exact ⟨by rw [HF.out] <;> rfl, HBR.out, fun h => by rw [HF.out] at h; cases h⟩
        · obtain ⟨m, rfl⟩ : ∃ m : Nat, x = m := ⟨x.toNat, by omega⟩
          have hm : m ≤ 9999999999 := by omega
          have HOK2 := Lib.hid (show allOK (l.take (j + 1)) = true by
            rw [HST.out, HOK.out, decide_eq_true (show numOK (m : Int) from ⟨by omega, by omega⟩)]; rfl)
          have HW2 := Lib.hid (show ws ++ (l.take (j + 1)).map numL = (ws ++ (l.take j).map numL) ++ [Lib.decDigits m] by
            rw [HTK.out, List.map_append, ← List.append_assoc]
            congr 1
            show [numL (m : Int)] = _
            unfold numL
            rw [if_pos (show numOK (m : Int) from ⟨by omega, by omega⟩)]
            rfl)
          have HIT := Lib.hid (fun (u : World) (hu : Below wr.heap.size wr u) => itoa_nat m (by omega) u (HTR.out u hu))
          have cO := block_cell HO1.out.out 0
          have fO := block_free HO1.out.out 0
          simp at cO
          generalize hws : ws ++ (l.take j).map numL = ws1 at *
          clear HNO HST HTK hws
          have hBr : B ≤ wr.heap.size := by omega
          go_wp2_with fail
          go_region_law (first
            | (go_simp; go_at_call 27; refine (HIT.out wr.drew (Below.refl _ _).drew).mono ?_; rintro e w3 ⟨rfl, hb3'⟩; have hb3 : Below wr.heap.size wr w3 := (Below.refl _ wr).drew.trans hb3'; have HO3 := Lib.hid (HO1.out.below hb3); have HA3 := Lib.hid (block_below hb3 HA1.out (block_lt HA1.out)); have cO3 : w3.cell? ⟨bO, 0, none⟩ = some v1 := block_cell HO3.out.out 0; have cA3 : (w3.alloc (.cells #[.string ⟨(Lib.decDigits m).toArray⟩] 9)).cell? ⟨bO, 0, none⟩ = some v1 := block_cell (block_alloc HO3.out.out _) 0; have hsz3 : wr.heap.size ≤ w3.heap.size := hb3.size; have HB3 := Lib.hid (HBR.out.trans (hb3.mono hBr)); clear hb3 hb3')
            | (refine step_append_lies _ (by rfl) _ _ _ (by rfl) B 9 i0 _ 1 16 Tryd.underlying59 hi0 hz0 hz1 hz2 rfl (by decide) v1 ws1.length _ (by rfl) (by first | exact HO3.out.own.alloc _ | exact (HO3.out.own.alloc _).drew) ⟨w3.heap.size, 0, none⟩ 1 1 [_] (by rfl) (by rfl) (World.news_of_block (cs := #[_]) (t := 9) (fr := (0, 0)) (heap_alloc_new w3 _)) (by simp [Value.oneCell']) (by omega) (by unfold maxLen; omega) (by omega) (by simp; omega) (w3.heap.size + 1) (by simp) ?_; intro gg cap w4 hown4 hgrow4 hat4 hlt4; have k4 : w4.heap[bO]? = some (.cells #[v1] 59 (0, 0)) := keep_append HO3.out.own HO3.out.out (by decide) hgrow4 (block_alloc HO3.out.out _); have cO4 : w4.cell? ⟨bO, 0, none⟩ = some v1 := block_cell k4 0; have fO4 : w4.frozen? ⟨bO, 0, none⟩ = false := block_free k4 0; have K4 := Lib.hid k4; clear k4))
          all_goals
            have hA4 := keep_append HO3.out.own HA3.out (by decide) hgrow4 (block_alloc HA3.out _)
            have HO5 := Lib.hid (show OutS B bO (.slice (some ⟨gg, 0, none⟩) (ws1.length + 1) cap) (ws1 ++ [Lib.decDigits m]) (w4.setCell ⟨bO, 0, none⟩ (.slice (some ⟨gg, 0, none⟩) (ws1.length + 1) cap)) from
              ⟨block_setCell K4.out 0 _, own_set (by rw [flatS_app, flatS_one, List.length_append]; exact hown4) K4.out (by decide) 0 _⟩)
            have HA5 := Lib.hid (block_setCell_other hA4 (p := ⟨bO, 0, none⟩) (ne_of_ty K4.out hA4 (by decide)) (.slice (some ⟨gg, 0, none⟩) (ws1.length + 1) cap))
            have HB4 : Below B w w4 := by first | exact (HB3.out.alloc (by omega) _).grown hgrow4 (by simp; omega) fun q hq => (own_typ1 HO3.out.own hq).1 | exact (HB3.out.alloc (by omega) _).drew.grown hgrow4 (by simp; omega) fun q hq => (own_typ1 HO3.out.own hq).1
            have HB5 := Lib.hid (HB4.setCell (p := ⟨bO, 0, none⟩) hbo (.slice (some ⟨gg, 0, none⟩) (ws1.length + 1) cap))
            clear HB4 hA4 hown4 hgrow4 hat4 hlt4 HO3 HA3 HB3 K4 cO3 cA3 cO4 fO4
            go_wp2_with fail
            go_roundw
            case rel => exact ⟨j + 1, _, by omega, by go_num, HOK2.out, by rw [HW2.out]; exact HO5.out, HA5.out, HB5.out⟩
            case measure => simp [intOf]; omega
    · obtain rfl : j = l.length := by omega
      have HALL := Lib.hid (show allOK l = true by have := HOK.out; rw [List.take_of_length_le (Nat.le_refl _)] at this; exact this)
      have HOE := Lib.hid (show OutS B bO v1 (ws ++ l.map numL) wr by have := HO1.out; rw [List.take_of_length_le (Nat.le_refl _)] at this; exact this)
      have hj1 : ¬ ((l.length : Int) < (l.length : Int)) := by omega
      go_wp2_with fail
      go_ret
      exact ⟨by rw [HALL.out] <;> rfl, HBR.out, fun _ => ⟨_, HOE.out⟩⟩
end Go.Proofs.YtdfkbahlngijcaaDoor
