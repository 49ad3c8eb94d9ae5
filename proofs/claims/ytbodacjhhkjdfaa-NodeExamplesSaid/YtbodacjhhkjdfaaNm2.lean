/- The law NodeMeasures: its plain law and its walk. -/
import Derived.Test.YtbodacjhhkjdfaaNy
import Derived.Test.YtbodacjhhkjdfaaRegU
namespace Go.Proofs.Ytbodacjhhkjdfaa
open Go.RowKit

theorem IsMs.later {w w' : World} {a : Option Addr} {n : Nat} {l : List Trip} (h : IsMs w a n l) (hb : Below w.heap.size w w') : IsMs w' a n l := by
  obtain ⟨h1, h2⟩ := h
  refine ⟨h1, fun hn => ?_⟩
  obtain ⟨b, off, e, h3⟩ := h2 hn
  have hlt : b < w.heap.size := by
    rcases Nat.lt_or_ge b w.heap.size with h | h
    · exact h
    · have := (h3 0 (by omega)).1
      simp [World.cell?, Array.getElem?_eq_none h] at this
  refine ⟨b, off, e, fun k hk => ?_⟩
  obtain ⟨c0, c1, c2⟩ := h3 k hk
  exact ⟨(hb.cell (p := ⟨b, _, none⟩) hlt).trans c0, (hb.cell (p := ⟨b, _, none⟩) hlt).trans c1, (hb.cell (p := ⟨b, _, none⟩) hlt).trans c2⟩
def SlMs (n : Nat) (l : List Trip) (v : Value) (w : World) : Prop := ∃ ao c, v = .slice ao n c ∧ IsMs w ao n l
theorem Stab_ms (n : Nat) (l : List Trip) : Stab (SlMs n l) := by
  rintro v w w' ⟨ao, c, hv, h⟩ hb
  exact ⟨ao, c, hv, h.later hb⟩
theorem ms_lit2 (u : World) (x y : Trip) : IsMs (u.alloc (.cells #[.int .i64 x.1, .int .i64 x.2.1, .int .i64 x.2.2, .int .i64 y.1, .int .i64 y.2.1, .int .i64 y.2.2] 27)) (some ⟨u.heap.size, 0, none⟩) 2 [x, y] := by
  refine ⟨rfl, fun _ => ⟨_, _, rfl, fun k hk => ?_⟩⟩
  have hb := block_new u (.cells #[.int .i64 x.1, .int .i64 x.2.1, .int .i64 x.2.2, .int .i64 y.1, .int .i64 y.2.1, .int .i64 y.2.2] 27)
  simp at hk
  rcases (show k = 0 ∨ k = 1 by omega) with rfl | rfl <;> refine ⟨?_, ?_, ?_⟩ <;> rw [block_cell hb] <;> rfl

/-! ### The plain law -/
theorem sum_two {l : List Kid} (h : tame l) (k : Nat) (hk : k < l.length) : sumM [sumM (msTo l k), l[k].2] = sumM (msTo l (k + 1)) := by
  obtain ⟨⟨a0, a1⟩, ⟨b0, b1⟩, c0, c1⟩ := tame_sum h k (by omega)
  have hl := h.1
  rw [msTo_succ l k hk, sumM_snoc]
  have e : addM (0, 0, 0) (sumM (msTo l k)) = sumM (msTo l k) := by
    unfold addM
    simp only
    rw [IntWalk.wrap64_in _ (by omega), IntWalk.wrap64_in _ (by omega), IntWalk.wrap64_in _ (by omega)]
    simp
  show addM (addM (0, 0, 0) (sumM (msTo l k))) l[k].2 = _
  rw [e]
theorem bytes_ge {l : List Kid} (h : tame l) {m : Nat} (hm : ∀ x ∈ l, kidOK m x) : ∀ k, k ≤ l.length → (k : Int) * (bnd m).1 ≤ (sumM (msTo l k)).1
  | 0, _ => by simp [msTo, sumM]
  | k + 1, hk => by
    have := bytes_ge h hm k (by omega)
    have hs := (tame_step h k (by omega)).1
    have := (hm _ (List.getElem_mem (show k < l.length by omega))).2.1
    push_cast
    rw [hs, Int.add_mul]
    omega
theorem bnd_big : ∀ m, m ≤ 15 → 13 ≤ m → 65536 ≤ (bnd m).1 := by decide +kernel
theorem valid_facts {x : Nd} (h : checkN x = 0) : 0 ≤ x.h ∧ x.h ≤ 13 ∧ 1 ≤ (measN x).1 ∧ (measN x).1 ≤ 65536 := by
  obtain ⟨hf, hs⟩ := checkN_zero h
  have e : measN x = sumN x := if_pos h
  rw [e]
  rcases formed_cases hf with ⟨h1, h2, h3, h4⟩ | ⟨h0, h1, h2, h3, h4, h5, h6⟩
  · rw [sumN_leaf h1] at hs ⊢
    refine ⟨by omega, by omega, ?_, hs⟩
    unfold ofT
    simp only
    omega
  · have ht := formed_tame hf
    have hb := bytes_ge ht h6 x.kids.length (Nat.le_refl _)
    have hp := bnd_pos (x.h - 1).toNat (by omega)
    rw [sumN_inner h0] at hs ⊢
    rw [msTo_end] at hb
    have h2' : (2 : Int) * (bnd (x.h - 1).toNat).1 ≤ (x.kids.length : Int) * (bnd (x.h - 1).toNat).1 := Int.mul_le_mul_of_nonneg_right (by omega) (by omega)
    refine ⟨by omega, ?_, by omega, hs⟩
    rcases Int.lt_or_le 13 x.h with h13 | h13
    · have := bnd_big (x.h - 1).toNat (by omega) (by omega)
      omega
    · exact h13

/-! ### The walk -/
theorem of_at (t : ByteArray) (w : World) (hs : t.size ≤ maxLen) (a b c : Int) (ho : ofT t = (a, b, c)) :
    Calls Try.prog 32 #[.string t] w fun e w' => e = .returned (.agg #[.int .i64 a, .int .i64 b, .int .i64 c]) ∧ Below w.heap.size w w' := by
  have h : Calls Try.prog 32 #[.string t] w fun e w' => e = .returned (aggM (ofT t)) ∧ Below w.heap.size w w' := of_any t w hs
  rw [ho] at h
  exact h
def AfterAdd (l : List Kid) (k b5 : Nat) (wr u : World) : Prop := ∃ v, Below wr.heap.size wr v ∧ u = (((v.setCell ⟨b5, 0, none⟩ (.int .i64 (sumM (msTo l (k + 1))).1)).setCell ⟨b5, 1, none⟩ (.int .i64 (sumM (msTo l (k + 1))).2.1)).setCell ⟨b5, 2, none⟩ (.int .i64 (sumM (msTo l (k + 1))).2.2))
set_option maxRecDepth 100000 in
set_option maxHeartbeats 4000000 in
theorem measures_bad (x : Nd) (ao : Option Addr) (n c : Nat) (w : World) (hk : IsKs w ao n x.kids) (hc : checkN x ≠ 0) :
    Calls Try.prog 7 #[aggN x.h x.text ao n c] w fun e w' => e = .returned (.bool true) ∧ Below w.heap.size w w' := by
  have he : measN x = (0, 0, 0) := if_neg hc
  have hc' : (checkN x == 0) = false := by simpa using hc
  have HK := Lib.hid hk
  have HE := Lib.hid he
  clear he hk
  clear hc
  unfold aggN
  go_enter Try.func7, Try.ntmps7
  go_wp2_with fail
  refine (measure_any x ao n c _ (HK.out.box _)).mono ?_; rintro e w1 ⟨rfl, hb⟩
  have bw1 := below_step ((Below.refl _ _).alloc (Nat.le_refl _) _) hb
  have hx_w1 := block_below hb (block_new w (.cells #[.int .i64 x.h, .string x.text, .slice ao n c] 24)) (block_lt (block_new w (.cells #[.int .i64 x.h, .string x.text, .slice ao n c] 24)))
  have BW1 := Lib.hid bw1
  have HX_W1 := Lib.hid hx_w1
  clear hx_w1 bw1
  clear hb
  rw [HE.out]
  unfold aggM
  have kk := HX_W1.out
  (have q0 := block_cell kk 0; have q1 := block_cell kk 1; have q2 := block_cell kk 2; have f0 := block_free kk 0; have f1 := block_free kk 1; have f2 := block_free kk 2; have hz := block_lt kk; simp at q0 q1 q2)
  clear kk
  go_wp2_with fail
  refine (check_any x ao n c _ ((HK.out.later BW1.out).box _)).mono ?_; rintro e w2 ⟨rfl, hb⟩
  have bw2 := below_step ((BW1.out).alloc BW1.out.size _) hb
  have hx_w2 := block_below hb (block_alloc HX_W1.out _) (block_lt (block_alloc HX_W1.out _))
  have hm_w2 := block_below hb (block_new w1 (.cells #[.int .i64 0, .int .i64 0, .int .i64 0] 27)) (block_lt (block_new w1 (.cells #[.int .i64 0, .int .i64 0, .int .i64 0] 27)))
  have BW2 := Lib.hid bw2
  have HX_W2 := Lib.hid hx_w2
  have HM_W2 := Lib.hid hm_w2
  clear hm_w2 hx_w2 bw2
  clear hb
  have kk := HM_W2.out
  (have q0 := block_cell kk 0; have q1 := block_cell kk 1; have q2 := block_cell kk 2; have f0 := block_free kk 0; have f1 := block_free kk 1; have f2 := block_free kk 2; have hz := block_lt kk; simp at q0 q1 q2)
  clear kk
  have kk := HX_W2.out
  (have q0 := block_cell kk 0; have q1 := block_cell kk 1; have q2 := block_cell kk 2; have f0 := block_free kk 0; have f1 := block_free kk 1; have f2 := block_free kk 2; have hz := block_lt kk; simp at q0 q1 q2)
  clear kk
  go_wp2_with fail
  refine (awake_any _).mono ?_; rintro e w3 ⟨rfl, hb⟩
  have bw3 := below_step (BW2.out) hb
  have hx_w3 := block_below hb HX_W2.out (block_lt HX_W2.out)
  have hm_w3 := block_below hb HM_W2.out (block_lt HM_W2.out)
  have BW3 := Lib.hid bw3
  have HX_W3 := Lib.hid hx_w3
  have HM_W3 := Lib.hid hm_w3
  clear hm_w3 hx_w3 bw3
  clear hb
  go_wp2_with fail
  go_ret
  exact ⟨rfl, BW3.out⟩

set_option maxRecDepth 100000 in
set_option maxHeartbeats 8000000 in
theorem measures_inner (h : Int) (l : List Kid) (ao : Option Addr) (n c : Nat) (w : World) (hk : IsKs w ao n l) (hc : checkN ⟨h, ⟨#[]⟩, l⟩ = 0) (hh : h ≠ 0) :
    Calls Try.prog 7 #[.agg #[.int .i64 h, .string ⟨#[]⟩, .slice ao n c]] w fun e w' => e = .returned (.bool true) ∧ Below w.heap.size w w' := by
  obtain ⟨v0, v1, v2, v3⟩ := valid_facts hc
  have hf := (checkN_zero hc).1
  have htame := formed_tame hf
  obtain ⟨⟨m1, m2, m3⟩, hT⟩ : ∃ t, measN ⟨h, ⟨#[]⟩, l⟩ = t := ⟨_, rfl⟩
  rw [hT] at v2 v3
  simp only at v0 v1 v2 v3 htame
  rcases formed_cases hf with ⟨h1, _⟩ | ⟨h0, h1, h2, h3, h4, h5, h6⟩
  · exact absurd h1 hh
  simp only at h1 h2 h4 h5 h6
  have hl := hk.1
  have hn2 : 2 ≤ n := by omega
  have hn4 : n ≤ 4 := by omega
  have hh0 : 0 < h := by omega
  have hof : ofT ⟨#[]⟩ = (0, 0, 0) := rfl
  have hts : (⟨#[]⟩ : ByteArray).size ≤ maxLen := by unfold maxLen; decide
  have hend : sumM (msTo l n) = (m1, m2, m3) := by
    rw [← hT, ← hl, msTo_end]
    have e : measN ⟨h, ⟨#[]⟩, l⟩ = sumN ⟨h, ⟨#[]⟩, l⟩ := if_pos hc
    rw [e, sumN_inner hh]
  have HK := Lib.hid hk
  have HC := Lib.hid hc
  have HT := Lib.hid hT
  have HL := Lib.hid hl
  have HOF := Lib.hid hof
  have HTS := Lib.hid hts
  have HEND := Lib.hid hend
  have H6 := Lib.hid h6
  have HTAME := Lib.hid htame
  clear htame h6 hend hts hof hl hT hc hk
  clear hf h0 h3 h4 h5 hh
  go_enter Try.func7, Try.ntmps7
  go_wp2_with fail
  refine (measure_any ⟨h, ⟨#[]⟩, l⟩ ao n c _ (HK.out.box _)).mono ?_; rintro e w1 ⟨rfl, hb⟩
  have bw1 := below_step ((Below.refl _ _).alloc (Nat.le_refl _) _) hb
  have hx_w1 := block_below hb (block_new w (.cells #[.int .i64 h, .string ⟨#[]⟩, .slice ao n c] 24)) (block_lt (block_new w (.cells #[.int .i64 h, .string ⟨#[]⟩, .slice ao n c] 24)))
  have BW1 := Lib.hid bw1
  have HX_W1 := Lib.hid hx_w1
  clear hx_w1 bw1
  clear hb
  rw [HT.out, HC.out]
  unfold aggM
  have kk := HX_W1.out
  (have q0 := block_cell kk 0; have q1 := block_cell kk 1; have q2 := block_cell kk 2; have f0 := block_free kk 0; have f1 := block_free kk 1; have f2 := block_free kk 2; have hz := block_lt kk; simp at q0 q1 q2)
  clear kk
  go_wp2_with fail
  refine (of_at ⟨#[]⟩ _ HTS.out _ _ _ HOF.out).mono ?_; rintro e w2 ⟨rfl, hb⟩
  have bw2 := below_step ((BW1.out).alloc BW1.out.size _) hb
  have hx_w2 := block_below hb (block_alloc HX_W1.out _) (block_lt (block_alloc HX_W1.out _))
  have hm_w2 := block_below hb (block_new w1 (.cells #[.int .i64 m1, .int .i64 m2, .int .i64 m3] 27)) (block_lt (block_new w1 (.cells #[.int .i64 m1, .int .i64 m2, .int .i64 m3] 27)))
  have BW2 := Lib.hid bw2
  have HX_W2 := Lib.hid hx_w2
  have HM_W2 := Lib.hid hm_w2
  clear hm_w2 hx_w2 bw2
  clear hb
  have kk := HM_W2.out
  (have q0 := block_cell kk 0; have q1 := block_cell kk 1; have q2 := block_cell kk 2; have f0 := block_free kk 0; have f1 := block_free kk 1; have f2 := block_free kk 2; have hz := block_lt kk; simp at q0 q1 q2)
  clear kk
  have kk := HX_W2.out
  (have q0 := block_cell kk 0; have q1 := block_cell kk 1; have q2 := block_cell kk 2; have f0 := block_free kk 0; have f1 := block_free kk 1; have f2 := block_free kk 2; have hz := block_lt kk; simp at q0 q1 q2)
  clear kk
  go_wp2_with fail
  have HW0 := Lib.hid (block_new w2 (.cells #[.int .i64 0, .int .i64 0, .int .i64 0] 27))
  have HX0 := Lib.hid (block_alloc HX_W2.out (.cells #[.int .i64 0, .int .i64 0, .int .i64 0] 27))
  have HM0 := Lib.hid (block_alloc HM_W2.out (.cells #[.int .i64 0, .int .i64 0, .int .i64 0] 27))
  have HBW0 := Lib.hid (BW2.out.alloc BW2.out.size (.cells #[.int .i64 0, .int .i64 0, .int .i64 0] 27))
  have HKS0 := Lib.hid ((HK.out.later BW2.out).box (.cells #[.int .i64 0, .int .i64 0, .int .i64 0] 27))
  have hb5w : w.heap.size ≤ w2.heap.size := BW2.out.size
  have hb5x : w.heap.size < w2.heap.size := block_lt HX_W2.out
  have hb5m : w1.heap.size < w2.heap.size := block_lt HM_W2.out
  obtain ⟨b5, hb5⟩ : ∃ b, b = w2.heap.size := ⟨_, rfl⟩
  rw [← hb5] at HW0 hb5w hb5x hb5m
  rw [← hb5]
  clear hb5
  go_loopw [6] (fun i wr => ∃ k : Nat, k ≤ n ∧ i = .int .i64 k ∧ Below w.heap.size w wr ∧ IsKs wr ao n l ∧ wr.heap[w.heap.size]? = some (.cells #[.int .i64 h, .string ⟨#[]⟩, .slice ao n c] 24 (0, 0)) ∧ wr.heap[w1.heap.size]? = some (.cells #[.int .i64 m1, .int .i64 m2, .int .i64 m3] 27 (0, 0)) ∧ wr.heap[b5]? = some (.cells #[.int .i64 (sumM (msTo l k)).1, .int .i64 (sumM (msTo l k)).2.1, .int .i64 (sumM (msTo l k)).2.2] 27 (0, 0))) (fun i _ => n - (intOf i).toNat)
  case atStart => exact ⟨0, Nat.zero_le _, rfl, HBW0.out, HKS0.out, HX0.out, HM0.out, HW0.out⟩
  case round =>
    obtain ⟨k, hkn, rfl, hbr, hks, hbx, hbm, hbk⟩ := hrel
    (have q0 := block_cell hbx 0; have q1 := block_cell hbx 1; have q2 := block_cell hbx 2; have f0 := block_free hbx 0; have f1 := block_free hbx 1; have f2 := block_free hbx 2; have hz := block_lt hbx; simp at q0 q1 q2)
    by_cases hlt : k < n
    · have hkl : k < l.length := by rw [HL.out]; exact hlt
      obtain ⟨hl1, hu, hcx⟩ := hks
      obtain ⟨b, off, rfl, hcell⟩ := hcx (by omega)
      have HKS := Lib.hid (show IsKs wr (some ⟨b, off, none⟩) n l from ⟨hl1, hu, fun _ => ⟨b, off, rfl, hcell⟩⟩)
      have HADD := Lib.hid (sum_two HTAME.out k hkl)
      have hg := (H6.out _ (List.getElem_mem hkl)).1
      obtain ⟨u0, u1⟩ := hu _ (List.getElem_mem hkl)
      have HX := Lib.hid hbx
      have HM := Lib.hid hbm
      have HW := Lib.hid hbk
      have HBR := Lib.hid hbr
      have HG := Lib.hid hg
      clear hl1 hu hcx hcell hbx hbm hbk hbr hg
      go_wp2_with fail
      refine wp_region_plan [.make, .make, .make, .make, .make, .make, .make, .make, .make, .write 0] [0, 1, 2, 3, 4, 5, 6, 7, 8] 1 (fun _ _ u => AfterAdd l k b5 wr u) (by kernel_rfl) (by decide) (by kernel_rfl) (by kernel_rfl) (by kernel_rfl) (by kernel_rfl) (fun p vs vs' u h hE => hE) ?_
      simp only [fill, Act.put, List.setIfInBounds_toArray, List.set_cons_zero, List.set_cons_succ, Nat.zero_add, Nat.reduceAdd, List.zip_cons_cons, List.zip_nil_right]
      apply OpsIs.eq
      · intro vs u hb hd
        clear hd
        have q := block_below hb HW.out (block_lt HW.out)
        have p0 := block_cell q 0
        have p1 := block_cell q 1
        have p2 := block_cell q 2
        simp at p0 p1 p2
        clear q
        go_wp2_with fail
        exact ⟨rfl, _, rfl, Below.refl _ _, rfl⟩
      apply OpsIs.eq
      · intro vs u hb hd
        clear hd
        go_wp2_with fail
        exact ⟨rfl, _, rfl, Below.refl _ _, rfl⟩
      apply OpsIs.eq
      · intro vs u hb hd
        have e1 := hd ⟨1, .data⟩ (by simp) (by decide)
        simp at e1
        clear hd
        simp only [e1]
        have q := block_below hb HX.out (block_lt HX.out)
        have p0 := block_cell q 0
        have p1 := block_cell q 1
        have p2 := block_cell q 2
        simp at p0 p1 p2
        clear q
        go_wp2_with fail
        exact ⟨rfl, _, rfl, Below.refl _ _, rfl⟩
      apply OpsIs.eq
      · intro vs u hb hd
        clear hd
        go_wp2_with fail
        exact ⟨rfl, _, rfl, Below.refl _ _, rfl⟩
      apply OpsIs.eq
      · intro vs u hb hd
        have e2 := hd ⟨2, .data⟩ (by simp) (by decide)
        simp at e2
        have e3 := hd ⟨3, .data⟩ (by simp) (by decide)
        simp at e3
        clear hd
        simp only [e2, e3]
        go_wp2_with fail
        exact ⟨rfl, _, rfl, Below.refl _ _, rfl⟩
      apply OpsIs.eq
      · intro vs u hb hd
        have e4 := hd ⟨4, .data⟩ (by simp) (by decide)
        simp at e4
        clear hd
        simp only [e4]
        go_wp2_with fail
        exact ⟨rfl, _, rfl, Below.refl _ _, rfl⟩
      apply OpsIs.eq
      · intro vs u hb hd
        have e5 := hd ⟨5, .data⟩ (by simp) (by decide)
        simp at e5
        clear hd
        simp only [e5]
        have kk := HKS.out.later hb
        obtain ⟨_, _, kc⟩ := kk
        obtain ⟨b', off', e', hcell⟩ := kc (by omega)
        injection e' with e'
        injection e' with e1' e2'
        subst e1' e2'
        obtain ⟨m0, m1', m2', m3'⟩ := hcell k hkl
        clear hcell
        go_wp2_with fail
        exact ⟨rfl, _, rfl, Below.refl _ _, rfl⟩
      refine OpsIs.step (SlMs 2 [(sumM (msTo l k)), l[k].2]) (Stab_ms 2 _) ?_ ?_
      · intro vs u hb hd
        have e0 := hd ⟨0, .data⟩ (by simp) (by decide)
        simp at e0
        have e6 := hd ⟨6, .data⟩ (by simp) (by decide)
        simp at e6
        clear hd
        simp only [e0, e6]
        go_wp2_with fail
        exact ⟨rfl, _, rfl, (Below.refl _ _).alloc (Nat.le_refl _) _, _, _, rfl, ms_lit2 _ (sumM (msTo l k)) l[k].2⟩
      apply OpsIs.eq
      · intro vs u hb hd
        obtain ⟨a7, c7, e7, hms⟩ := hd ⟨7, .data⟩ (by simp) (by decide)
        clear hd
        simp only [e7]
        go_wp2_with fail
        refine (add_any _ 2 _ [(sumM (msTo l k)), l[k].2] _ (by decide) hms).mono ?_; rintro e w' ⟨rfl, hbel⟩; rw [HADD.out]; go_wp2_with fail; exact ⟨rfl, _, rfl, hbel, rfl⟩
      refine OpsIs.first ?_ ?_
      · intro vs u hb hdis hd
        have e8 := hd 8 (by simp)
        simp at e8
        clear hd
        simp only [e8]
        have q := block_below hb HW.out (block_lt HW.out)
        have p0 := block_cell q 0
        have p1 := block_cell q 1
        have p2 := block_cell q 2
        have f0 := block_free q 0
        have f1 := block_free q 1
        have f2 := block_free q 2
        simp at p0 p1 p2
        have HQ := Lib.hid q
        clear q
        unfold aggM
        go_wp2_with fail
        exact ⟨rfl, undef, rfl, ⟨_, hb, rfl⟩⟩
      refine OpsIs.done ?_
      intro vs u hE hS
      clear hS
      obtain ⟨v, hbv, rfl⟩ := hE
      have hv5 := block_below hbv HW.out (block_lt HW.out)
      have hn5 := block_setCell (block_setCell (block_setCell hv5 0 (.int .i64 (sumM (msTo l (k + 1))).1)) 1 (.int .i64 (sumM (msTo l (k + 1))).2.1)) 2 (.int .i64 (sumM (msTo l (k + 1))).2.2)
      have hx5 := block_setCell_other (block_setCell_other (block_setCell_other (block_below hbv HX.out (block_lt HX.out)) (p := ⟨b5, 0, none⟩) (by simp; omega) (.int .i64 (sumM (msTo l (k + 1))).1)) (p := ⟨b5, 1, none⟩) (by simp; omega) (.int .i64 (sumM (msTo l (k + 1))).2.1)) (p := ⟨b5, 2, none⟩) (by simp; omega) (.int .i64 (sumM (msTo l (k + 1))).2.2)
      have hm5 := block_setCell_other (block_setCell_other (block_setCell_other (block_below hbv HM.out (block_lt HM.out)) (p := ⟨b5, 0, none⟩) (by simp; omega) (.int .i64 (sumM (msTo l (k + 1))).1)) (p := ⟨b5, 1, none⟩) (by simp; omega) (.int .i64 (sumM (msTo l (k + 1))).2.1)) (p := ⟨b5, 2, none⟩) (by simp; omega) (.int .i64 (sumM (msTo l (k + 1))).2.2)
      have hbw5 := (((below_step HBR.out hbv).setCell (p := ⟨b5, 0, none⟩) hb5w (.int .i64 (sumM (msTo l (k + 1))).1)).setCell (p := ⟨b5, 1, none⟩) hb5w (.int .i64 (sumM (msTo l (k + 1))).2.1)).setCell (p := ⟨b5, 2, none⟩) hb5w (.int .i64 (sumM (msTo l (k + 1))).2.2)
      have hk5 := (HK.out.below hbw5 (fun b o e h => by rw [e] at HK; exact HK.out.lt h))
      have hc5 := (hk5.2.2 (by omega))
      obtain ⟨b', off', e', hcell⟩ := hc5
      injection e' with e'
      injection e' with e1' e2'
      subst e1' e2'
      obtain ⟨m0, m1c, m2c, m3c⟩ := hcell k hkl
      obtain ⟨u5, hu5⟩ : ∃ u5, u5 = (((v.setCell ⟨b5, 0, none⟩ (.int .i64 (sumM (msTo l (k + 1))).1)).setCell ⟨b5, 1, none⟩ (.int .i64 (sumM (msTo l (k + 1))).2.1)).setCell ⟨b5, 2, none⟩ (.int .i64 (sumM (msTo l (k + 1))).2.2)) := ⟨_, rfl⟩
      rw [← hu5] at hn5 hx5 hm5 hbw5 hk5 m0 m1c m2c m3c
      rw [← hu5]
      clear hu5 hcell hv5 hbv
      (have q0 := block_cell hx5 0; have q1 := block_cell hx5 1; have q2 := block_cell hx5 2; have f0 := block_free hx5 0; have f1 := block_free hx5 1; have f2 := block_free hx5 2; have hz := block_lt hx5; simp at q0 q1 q2)
      have HN5 := Lib.hid hn5
      have HX5 := Lib.hid hx5
      have HM5 := Lib.hid hm5
      have HBW5 := Lib.hid hbw5
      have HK5 := Lib.hid hk5
      clear hk5 hbw5 hm5 hx5 hn5
      go_wp2_with fail
      refine (hCheck_ok _ _ u0 u1 HG.out).mono ?_; rintro e w3 ⟨rfl, rfl⟩
      go_wp2_with fail
      go_roundw
      case rel => exact ⟨k + 1, by omega, by go_num, HBW5.out, HK5.out, HX5.out, HM5.out, HN5.out⟩
      case measure => simp [intOf]; omega
    · obtain rfl : n = k := by omega
      rw [HEND.out] at hbk
      (have q0 := block_cell hbm 0; have q1 := block_cell hbm 1; have q2 := block_cell hbm 2; have f0 := block_free hbm 0; have f1 := block_free hbm 1; have f2 := block_free hbm 2; have hz := block_lt hbm; simp at q0 q1 q2)
      (have q0 := block_cell hbk 0; have q1 := block_cell hbk 1; have q2 := block_cell hbk 2; have f0 := block_free hbk 0; have f1 := block_free hbk 1; have f2 := block_free hbk 2; have hz := block_lt hbk; simp at q0 q1 q2)
      have HBR := Lib.hid hbr
      clear hbx hbm hbk hbr hks
      go_wp2_with fail
      refine (awake_any _).mono ?_; rintro e w4 ⟨rfl, hb⟩
      have HB4 := Lib.hid (below_step HBR.out hb)
      clear hb
      go_wp2_with fail
      go_ret
      exact ⟨rfl, HB4.out⟩

set_option maxRecDepth 100000 in
set_option maxHeartbeats 8000000 in
theorem measures_leaf (t : ByteArray) (ao : Option Addr) (c : Nat) (w : World) (hc : checkN ⟨0, t, []⟩ = 0) (hts : t.size ≤ maxLen) :
    Calls Try.prog 7 #[.agg #[.int .i64 0, .string t, .slice ao 0 c]] w fun e w' => e = .returned (.bool true) ∧ Below w.heap.size w w' := by
  obtain ⟨_, _, v2, v3⟩ := valid_facts hc
  obtain ⟨⟨m1, m2, m3⟩, hT⟩ : ∃ m, measN ⟨0, t, []⟩ = m := ⟨_, rfl⟩
  rw [hT] at v2 v3
  simp only at v2 v3
  have hof : ofT t = (m1, m2, m3) := by
    have e : measN ⟨0, t, []⟩ = sumN ⟨0, t, []⟩ := if_pos hc
    rw [← hT, e, sumN_leaf rfl]
  have HC := Lib.hid hc
  have HT := Lib.hid hT
  have HOF := Lib.hid hof
  have HTS := Lib.hid hts
  clear hts hof hT hc
  go_enter Try.func7, Try.ntmps7
  go_wp2_with fail
  refine (measure_any ⟨0, t, []⟩ ao 0 c _ (IsKs.none _ _)).mono ?_; rintro e w1 ⟨rfl, hb⟩
  have bw1 := below_step ((Below.refl _ _).alloc (Nat.le_refl _) _) hb
  have hx_w1 := block_below hb (block_new w (.cells #[.int .i64 0, .string t, .slice ao 0 c] 24)) (block_lt (block_new w (.cells #[.int .i64 0, .string t, .slice ao 0 c] 24)))
  have BW1 := Lib.hid bw1
  have HX_W1 := Lib.hid hx_w1
  clear hx_w1 bw1
  clear hb
  rw [HT.out, HC.out]
  unfold aggM
  have kk := HX_W1.out
  (have q0 := block_cell kk 0; have q1 := block_cell kk 1; have q2 := block_cell kk 2; have f0 := block_free kk 0; have f1 := block_free kk 1; have f2 := block_free kk 2; have hz := block_lt kk; simp at q0 q1 q2)
  clear kk
  go_wp2_with fail
  refine (of_at t _ HTS.out _ _ _ HOF.out).mono ?_; rintro e w2 ⟨rfl, hb⟩
  have bw2 := below_step ((BW1.out).alloc BW1.out.size _) hb
  have hx_w2 := block_below hb (block_alloc HX_W1.out _) (block_lt (block_alloc HX_W1.out _))
  have hm_w2 := block_below hb (block_new w1 (.cells #[.int .i64 m1, .int .i64 m2, .int .i64 m3] 27)) (block_lt (block_new w1 (.cells #[.int .i64 m1, .int .i64 m2, .int .i64 m3] 27)))
  have BW2 := Lib.hid bw2
  have HX_W2 := Lib.hid hx_w2
  have HM_W2 := Lib.hid hm_w2
  clear hm_w2 hx_w2 bw2
  clear hb
  have kk := HM_W2.out
  (have q0 := block_cell kk 0; have q1 := block_cell kk 1; have q2 := block_cell kk 2; have f0 := block_free kk 0; have f1 := block_free kk 1; have f2 := block_free kk 2; have hz := block_lt kk; simp at q0 q1 q2)
  clear kk
  have kk := HX_W2.out
  (have q0 := block_cell kk 0; have q1 := block_cell kk 1; have q2 := block_cell kk 2; have f0 := block_free kk 0; have f1 := block_free kk 1; have f2 := block_free kk 2; have hz := block_lt kk; simp at q0 q1 q2)
  clear kk
  go_wp2_with fail
  have HBW0 := Lib.hid (BW2.out.alloc BW2.out.size (.cells #[.int .i64 m1, .int .i64 m2, .int .i64 m3] 27))
  have kx := (block_alloc HX_W2.out (.cells #[.int .i64 m1, .int .i64 m2, .int .i64 m3] 27))
  have km := (block_alloc HM_W2.out (.cells #[.int .i64 m1, .int .i64 m2, .int .i64 m3] 27))
  go_loop [6] (fun i => i = .int .i64 0) (fun _ => 0)
  case atStart => rfl
  case round =>
    obtain rfl := hrel
    (have q0 := block_cell kx 0; have q1 := block_cell kx 1; have q2 := block_cell kx 2; have f0 := block_free kx 0; have f1 := block_free kx 1; have f2 := block_free kx 2; have hz := block_lt kx; simp at q0 q1 q2)
    (have q0 := block_cell km 0; have q1 := block_cell km 1; have q2 := block_cell km 2; have f0 := block_free km 0; have f1 := block_free km 1; have f2 := block_free km 2; have hz := block_lt km; simp at q0 q1 q2)
    clear kx km
    go_wp2_with fail
    refine (awake_any _).mono ?_; rintro e w4 ⟨rfl, hb⟩
    have HB4 := Lib.hid (below_step HBW0.out hb)
    clear hb
    go_wp2_with fail
    go_ret
    exact ⟨rfl, HB4.out⟩

theorem walk_measures (x : Nd) (ao : Option Addr) (n c : Nat) (w : World) (hk : IsKs w ao n x.kids) (hts : x.text.size ≤ maxLen) :
    Calls Try.prog 7 #[aggN x.h x.text ao n c] w fun e w' => e = .returned (.bool true) ∧ Below w.heap.size w w' := by
  by_cases hc : checkN x = 0
  · rcases formed_cases (checkN_zero hc).1 with ⟨h1, h2, h3, h4⟩ | ⟨h0, h1, h2, h3, h4, h5, h6⟩
    · obtain ⟨h, t, l⟩ := x
      simp only at h1 h4
      subst h1 h4
      have hn := hk.1
      simp at hn
      subst hn
      exact measures_leaf t ao c w hc hts
    · obtain ⟨h, t, l⟩ := x
      simp only at h3
      subst h3
      exact measures_inner h l ao n c w hk hc h0
  · exact measures_bad x ao n c w hk hc
end Go.Proofs.Ytbodacjhhkjdfaa
