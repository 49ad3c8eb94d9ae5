/- Diff: the reference's Rows: its walk. -/
import Derived.Test.YtfbjbgknfdekfaaDoorEm
namespace Go.Proofs.YtfbjbgknfdekfaaDoor
open Go.RowKit
set_option linter.unusedVariables false

theorem rows_step : ∀ (n : Nat) (l : List UInt8), n < l.length → (∀ j, j < n → l[j]? ≠ some 10) → (l[n]? = some 10 ∨ n + 1 = l.length) → rowsL l = l.take (n + 1) :: rowsL (l.drop (n + 1))
  | n, [], h, _, _ => absurd h (Nat.not_lt_zero _)
  | 0, c :: l, _, _, h2 => by
    rw [rowsL_cons]
    by_cases hc : c = 10
    · rw [if_pos hc, hc]; rfl
    · rw [if_neg hc]
      rcases h2 with h | h
      · simp at h; exact absurd h hc
      · have : l = [] := List.eq_nil_of_length_eq_zero (by simpa using h.symm)
        subst this
        rfl
  | n + 1, c :: l, h, h1, h2 => by
    have hc : c ≠ 10 := fun e => h1 0 (by omega) (by simp [e])
    rw [rowsL_cons, if_neg hc, rows_step n l (by simpa using h) (fun j hj => by have := h1 (j + 1) (by omega); simpa using this) (by simpa using h2)]
    rfl
/-- at index i, the line begun at 'at' -/
def RwI (l : List UInt8) (out : List Ln) (i at_ : Nat) : Prop :=
  at_ ≤ i ∧ i ≤ l.length ∧ out.length ≤ i ∧ (i = l.length → at_ = i) ∧ (∀ j, at_ ≤ j → j < i → l[j]? ≠ some 10) ∧ out ++ rowsL (l.drop at_) = rowsL l
theorem rwI_start (l : List UInt8) : RwI l [] 0 0 := ⟨Nat.le_refl _, Nat.zero_le _, Nat.le_refl _, fun _ => rfl, fun j _ h => absurd h (Nat.not_lt_zero _), rfl⟩
theorem rwI_cut {l : List UInt8} {out : List Ln} {i a : Nat} (h : RwI l out i a) (hi : i < l.length) (hc : l[i]? = some 10 ∨ i + 1 = l.length) : RwI l (out ++ [(l.drop a).take (i + 1 - a)]) (i + 1) (i + 1) := by
  obtain ⟨h1, h2, h3, h4, h5, h6⟩ := h
  refine ⟨Nat.le_refl _, hi, by simp; omega, fun _ => rfl, fun j h h' => absurd h' (by omega), ?_⟩
  have e := rows_step (i - a) (l.drop a) (by rw [List.length_drop]; omega) (fun j hj => by rw [List.getElem?_drop]; exact h5 _ (by omega) (by omega)) (by
    rw [List.getElem?_drop, List.length_drop, show a + (i - a) = i by omega]
    rcases hc with h | h
    · exact .inl h
    · exact .inr (by omega))
  rw [← h6, e, List.append_assoc, List.drop_drop, show a + (i - a + 1) = i + 1 by omega, show i - a + 1 = i + 1 - a by omega]
  rfl
theorem rwI_on {l : List UInt8} {out : List Ln} {i a : Nat} (h : RwI l out i a) (hi : i < l.length) (hc : l[i]? ≠ some 10) (hl : i + 1 ≠ l.length) : RwI l out (i + 1) a := by
  obtain ⟨h1, h2, h3, h4, h5, h6⟩ := h
  refine ⟨by omega, hi, by omega, fun h => absurd h hl, fun j h h' => ?_, h6⟩
  rcases Nat.lt_or_ge j i with hj | hj
  · exact h5 j h hj
  · obtain rfl : j = i := by omega
    exact hc
theorem rwI_end {l : List UInt8} {out : List Ln} {a : Nat} (h : RwI l out l.length a) : out = rowsL l := by
  obtain ⟨h1, h2, h3, h4, h5, h6⟩ := h
  rw [h4 rfl, List.drop_length] at h6
  have e : rowsL [] = [] := rfl
  rw [e, List.append_nil] at h6
  exact h6
theorem ext_list (s : ByteArray) (a b : Nat) : (⟨((s.data.toList.drop a).take (b - a)).toArray⟩ : ByteArray) = s.extract a b := by
  apply ByteArray.ext
  apply Array.toList_inj.1
  rw [ByteArray.data_extract, Array.toList_extract]
def RowsPost (s : ByteArray) (w : World) (e : Ending) (w' : World) : Prop :=
  ∃ v, e = .returned v ∧ w'.ownsRow w.heap.size 9 1 v (rowsL s.data.toList).length (flatR fS (rowsL s.data.toList)) ∧ Below w.heap.size w w'
theorem byte_at (s : ByteArray) {i : Nat} (h : i < s.size) : s.data.toList[i]? = some s[i] := by
  rw [Array.getElem?_toList, Array.getElem?_eq_getElem (show i < s.data.size from h)]
  rfl
set_option maxRecDepth 100000 in
set_option maxHeartbeats 4000000 in
theorem refRows_any (s : ByteArray) (w : World) (hs : s.size ≤ 1048576) :
    Calls Tryd.prog 21 #[.string s] w (RowsPost s w) := by
  obtain ⟨i0, hi0, hz0, hz1, hz2⟩ := info_parts infoStr
  have hll : s.data.toList.length = s.size := Array.length_toList ..
  have HLL := Lib.hid hll
  clear hll
  go_enter Tryd.func21, Tryd.ntmps21
  go_wp2_with fail
  go_loopw [3, 4, 5] (fun s3 s4 s5 wr => ∃ (i a : Nat) (out : List Ln), s4 = .int .i64 a ∧ s5 = .int .i64 i ∧ RwI s.data.toList out i a ∧ i ≤ s.size ∧ a ≤ i ∧ out.length ≤ i ∧ wr.ownsRow w.heap.size 9 1 s3 out.length (flatR fS out) ∧ Below w.heap.size w wr) (fun _ _ s5 _ => s.size - (intOf s5).toNat)
  case atStart => exact ⟨0, 0, [], rfl, rfl, rwI_start _, Nat.zero_le _, Nat.le_refl _, Nat.le_refl _, ⟨rfl, .inl ⟨rfl, rfl⟩⟩, Below.refl _ _⟩
  case round =>
    obtain ⟨i, a, out, rfl, rfl, hr, hi, hai, hol, hown, hb⟩ := hrel
    have HR := Lib.hid hr
    have HO := Lib.hid hown
    have HB := Lib.hid hb
    have HSZ := Lib.hid hb.size
    have hsz := hb.size
    clear hr hown hb
    by_cases hlt : i < s.size
    · have hlt' : (i : Int) < (s.size : Int) := by omega
      have ha0 : (0 : Int) ≤ (a : Int) := by omega
      have ha1 : (a : Int) ≤ (i : Int) + 1 := by omega
      have hi1 : (i : Int) + 1 ≤ (s.size : Int) := by omega
      have hb8 := byte_at s hlt
      have HB8 := Lib.hid hb8
      clear hb8
      by_cases hc : s[i] = 10
      · as_aux_lemma =>
          have hee : ((s[i].toNat : Int) == 10) = true := by rw [hc]; rfl
          have HCUT := Lib.hid (show s.data.toList[i]? = some 10 ∨ i + 1 = s.data.toList.length from .inl (by rw [HB8.out, hc]))
          clear hc
          go_wp2_with (at_builtin; go_loud (refine wpList_append_lies _ rfl _ _ 33 rfl w.heap.size 9 i0 _ 1 16 Tryd.underlying33 hi0 hz0 hz1 hz2 rfl (by decide) _ out.length _ rfl (HO.out.alloc _) ⟨wr.heap.size, 0, none⟩ 1 1 [.string (s.extract a (i + 1))] rfl rfl (World.news_of_block (cs := #[_]) (t := 9) (fr := (0, 0)) (heap_alloc_new wr _)) (by simp [Value.oneCell']) (by omega) (by unfold maxLen; omega) (by omega) (by simp <;> omega) (wr.heap.size + 1) (by simp) ?c1))
          case c1 =>
            intro gg cap w4 hown4 hgrow4 hat4 hlt4
            have HO4 := Lib.hid (show w4.ownsRow w.heap.size 9 1 (.slice (some ⟨gg, 0, none⟩) (out.length + 1) cap) (out ++ [(s.data.toList.drop a).take (i + 1 - a)]).length (flatR fS (out ++ [(s.data.toList.drop a).take (i + 1 - a)])) by
              rw [flatR_app, flatR_one, List.length_append]
              unfold fS
              rw [ext_list]
              exact hown4)
            have HB4 := Lib.hid ((HB.out.alloc HSZ.out _).grown hgrow4 (by simp <;> omega) fun q hq => (own_typ1 HO.out hq).1)
            have HR4 := Lib.hid (rwI_cut HR.out (by rw [HLL.out]; exact hlt) HCUT.out)
            clear hown4 hgrow4 hat4 hlt4
            go_wp2_with fail
            go_roundw
            case rel => exact ⟨i + 1, i + 1, _, by go_num, by go_num, HR4.out, by omega, Nat.le_refl _, by simp <;> omega, HO4.out, HB4.out⟩
            case measure => (simp [intOf] <;> omega)
      · have hee : ((s[i].toNat : Int) == 10) = false := by
          rw [beq_eq_false_iff_ne]
          exact fun e => hc (UInt8.toNat_inj.1 (by have : (10 : UInt8).toNat = 10 := rfl; omega))
        have hws : IntKind.i64.wrap ((s.size : Int) - 1) = (s.size : Int) - 1 := by rw [IntKind.wrap_i64]; omega
        by_cases hl : i + 1 = s.size
        · as_aux_lemma =>
            have hll : ((i : Int) == (s.size : Int) - 1) = true := by rw [beq_iff_eq]; omega
            have HCUT := Lib.hid (show s.data.toList[i]? = some 10 ∨ i + 1 = s.data.toList.length from .inr (by rw [HLL.out]; exact hl))
            clear hc hl
            go_wp2_with (at_builtin; go_loud (refine wpList_append_lies _ rfl _ _ 33 rfl w.heap.size 9 i0 _ 1 16 Tryd.underlying33 hi0 hz0 hz1 hz2 rfl (by decide) _ out.length _ rfl (HO.out.alloc _) ⟨wr.heap.size, 0, none⟩ 1 1 [.string (s.extract a (i + 1))] rfl rfl (World.news_of_block (cs := #[_]) (t := 9) (fr := (0, 0)) (heap_alloc_new wr _)) (by simp [Value.oneCell']) (by omega) (by unfold maxLen; omega) (by omega) (by simp <;> omega) (wr.heap.size + 1) (by simp) ?c1))
            case c1 =>
              intro gg cap w4 hown4 hgrow4 hat4 hlt4
              have HO4 := Lib.hid (show w4.ownsRow w.heap.size 9 1 (.slice (some ⟨gg, 0, none⟩) (out.length + 1) cap) (out ++ [(s.data.toList.drop a).take (i + 1 - a)]).length (flatR fS (out ++ [(s.data.toList.drop a).take (i + 1 - a)])) by
                rw [flatR_app, flatR_one, List.length_append]
                unfold fS
                rw [ext_list]
                exact hown4)
              have HB4 := Lib.hid ((HB.out.alloc HSZ.out _).grown hgrow4 (by simp <;> omega) fun q hq => (own_typ1 HO.out hq).1)
              have HR4 := Lib.hid (rwI_cut HR.out (by rw [HLL.out]; exact hlt) HCUT.out)
              clear hown4 hgrow4 hat4 hlt4
              go_wp2_with fail
              go_roundw
              case rel => exact ⟨i + 1, i + 1, _, by go_num, by go_num, HR4.out, by omega, Nat.le_refl _, by simp <;> omega, HO4.out, HB4.out⟩
              case measure => (simp [intOf] <;> omega)
        · as_aux_lemma =>
            have hll : ((i : Int) == (s.size : Int) - 1) = false := by rw [beq_eq_false_iff_ne]; omega
            have HR4 := Lib.hid (rwI_on HR.out (by rw [HLL.out]; exact hlt) (by rw [HB8.out]; intro e; injection e with e; exact hc e) (by rw [HLL.out]; exact hl))
            clear hc
            go_wp2_with fail
            go_roundw
            case rel => exact ⟨i + 1, a, out, rfl, by go_num, HR4.out, by omega, by omega, by omega, HO.out, HB.out⟩
            case measure => (simp [intOf] <;> omega)
    · as_aux_lemma =>
        have hlt' : ¬ ((i : Int) < (s.size : Int)) := by omega
        have hin : i = s.data.toList.length := by rw [HLL.out]; omega
        have HR5 := HR.out
        rw [hin] at HR5
        have HE := Lib.hid (rwI_end HR5)
        have HO5 := HO.out
        rw [HE.out] at HO5
        have HO6 := Lib.hid HO5
        clear hin HR5 HO5 hi
        go_wp2_with fail
        go_ret
        exact ⟨_, rfl, HO6.out, HB.out⟩
end Go.Proofs.YtfbjbgknfdekfaaDoor
