/- Diff: the program's table: its walk. -/
import Derived.Test.YtfbjbgknfdekfaaDoorEm
import Derived.Deep.CutRange
namespace Go.Proofs.YtfbjbgknfdekfaaDoor
open Go.RowKit
set_option linter.unusedVariables false

/-- the table in memory -/
def TabAt (w : World) (bA br : Nat) (xs ys : List Ln) : Prop :=
  (∀ i, i ≤ xs.length → w.cell? ⟨br, i, none⟩ = some (.slice (some ⟨bA, i * (ys.length + 1), none⟩) (ys.length + 1) (ys.length + 1))) ∧
  (∀ i k, i ≤ xs.length → k ≤ ys.length → w.cell? ⟨bA, i * (ys.length + 1) + k, none⟩ = some (.int .i64 (bst (xs.drop i) (ys.drop k) : Nat)))
def TabPost (xs ys : List Ln) (w : World) (e : Ending) (w' : World) : Prop :=
  ∃ br c, e = .returned (.slice (some ⟨br, 0, none⟩) (xs.length + 1) c) ∧ br < w'.heap.size ∧ w.heap.size < w'.heap.size ∧ TabAt w' w.heap.size br xs ys ∧ Below w.heap.size w w'
theorem slR_at {bA n m j : Nat} (h : j < m) : (slR bA n m)[j]? = some (.slice (some ⟨bA, j * n, none⟩) n n) := by
  unfold slR
  rw [List.getElem?_map, List.getElem?_range h]
  rfl
theorem own_block {w : World} {B n : Nat} {t : TypeId} {v : Value} {xs : List Value} (h : w.ownsRow B t 1 v n xs) (hn : 0 < n) : ∃ g cap cur, v = .slice (some ⟨g, 0, none⟩) n cap ∧ B ≤ g ∧ w.heap[g]? = some (.cells cur t (0, 0)) ∧ n ≤ cap ∧ ∀ j, j < n → cur[j]? = xs[j]? := by
  rcases h with ⟨_, ⟨_, h⟩ | ⟨g, cap, cur, rfl, hb, hg, hcap, hm, hs, htk⟩⟩
  · omega
  · refine ⟨g, cap, cur, rfl, hb, hg, hcap, fun j hj => ?_⟩
    have e := congrArg (fun l => l[j]?) htk
    rw [List.getElem?_take_of_lt (by omega), Array.getElem?_toList] at e
    exact e

theorem ne_ty {w : World} {b b' : Nat} {c c' : Array Value} {T T' : TypeId} {fr fr' : Nat × Nat} (h : w.heap[b]? = some (.cells c T fr)) (h' : w.heap[b']? = some (.cells c' T' fr')) (ht : T ≠ T') : b ≠ b' := by
  intro e
  subst e
  rw [h] at h'
  injection h' with h'
  injection h' with _ h2 _
  exact ht h2
theorem flatS_at (l : List Ln) {j : Nat} (h : j < l.length) : (flatR fS l)[j]? = some (.string ⟨l[j].toArray⟩) := by
  rw [flatS_map, List.getElem?_map, List.getElem?_eq_getElem h]
  rfl
theorem IsR.ln {w w' : World} {ao : Option Addr} {n : Nat} {l : List Ln} (h : IsR fS w ao n l) (hb : Below w.heap.size w w') {j : Nat} (hj : j < n) :
    ∃ b o, ao = some ⟨b, o, none⟩ ∧ w'.cell? ⟨b, o + j, none⟩ = some (.string ⟨(l[j]'(by have := h.1; omega)).toArray⟩) := by
  obtain ⟨b, o, e, hlt, h3⟩ := h.2 (by omega)
  exact ⟨b, o, e, (hb.cell (p := ⟨b, o + j, none⟩) hlt).trans (h3 j _ (flatS_at l _))⟩
theorem bst_le : ∀ xs ys : List Ln, bst xs ys ≤ tot xs
  | [], ys => by rw [bst_nil]; exact Nat.zero_le _
  | r :: xs, [] => by rw [bst_nil']; exact Nat.zero_le _
  | r :: xs, q :: ys => by
    have h1 := bst_le xs (q :: ys)
    have h2 := bst_le (r :: xs) ys
    have h3 := bst_le xs ys
    rw [bst_cons]
    rw [tot_cons] at h2 ⊢
    split <;> omega
termination_by xs ys => xs.length + ys.length
theorem tot_drop (xs : List Ln) (i : Nat) : tot (xs.drop i) ≤ tot xs := by
  have e := tot_app (xs.take i) (xs.drop i)
  rw [List.take_append_drop] at e
  omega
theorem tot_at {xs : List Ln} {i : Nat} (h : i < xs.length) : xs[i].length ≤ tot xs := by
  have := tot_drop xs i
  rw [List.drop_eq_getElem_cons h, tot_cons] at this
  omega
theorem st_ne {t u : ByteArray} (h : t ≠ u) : (t == u) = false := by
  show (t.data == u.data) = false
  rw [beq_eq_false_iff_ne]
  exact fun e => h (ByteArray.ext e)
theorem st_ne' {t u : ByteArray} (h : t ≠ u) : (t.toList == u.toList) = false := by
  rw [beq_eq_false_iff_ne, ByteArray.toList_eq, ByteArray.toList_eq]
  exact fun e => h (ByteArray.ext (Array.toList_inj.1 e))
/-- after a store the table is the updated one -/
theorem tab_store {w : World} {bA N p : Nat} {M : Nat → Nat} {T : TypeId} (h : w.heap[bA]? = some (.cells (tabC N M) T (0, 0))) (v : Nat) (hp : p < N) : (w.setCell ⟨bA, p, none⟩ (.int .i64 (v : Nat))).drew.heap[bA]? = some (.cells (tabC N (updM M p v)) T (0, 0)) := by
  rw [← tabC_set M v hp]
  exact block_setCell h p _
set_option maxRecDepth 100000 in
set_option maxHeartbeats 8000000 in
theorem table_any (xs ys : List Ln) (lx ly c1 c2 : Nat) (ao bo : Option Addr) (w : World) (hx : IsR fS w ao lx xs) (hy : IsR fS w bo ly ys) (h1 : lx ≤ 1024) (h2 : ly ≤ 1024) (ht : tot xs ≤ 2000000) :
    Calls Tryd.prog 36 #[.slice ao lx c1, .slice bo ly c2] w (TabPost xs ys w) := by
  have hlx := hx.1
  have hly := hy.1
  have HX := Lib.hid hx
  have HY := Lib.hid hy
  have HLX := Lib.hid hlx
  have HLY := Lib.hid hly
  clear hx hy hlx hly
  obtain ⟨i0, hi0, hz0, hz1, hz2⟩ := info_parts infoSl
  obtain ⟨N, hN⟩ : ∃ N, N = (lx + 1) * (ly + 1) := ⟨_, rfl⟩
  have hN2 : N ≤ 2000000 := by
    rw [hN]
    exact Nat.le_trans (Nat.mul_le_mul (show lx + 1 ≤ 1025 by omega) (show ly + 1 ≤ 1025 by omega)) (by decide)
  have hmk := mk_ints N hN2
  have hNi : ((lx : Int) + 1) * ((ly : Int) + 1) = (N : Int) := by rw [hN]; push_cast; rfl
  have hwN : IntKind.i64.wrap (N : Int) = (N : Int) := by rw [IntKind.wrap_i64]; omega
  have HN := Lib.hid hN
  clear hN
  go_enter Tryd.func36, Tryd.ntmps36
  have HZ := Lib.hid (block_new w (.cells (tabC N (fun _ => 0)) 3))
  have HB0 := Lib.hid ((Below.refl w.heap.size w).alloc (Nat.le_refl _) (.cells (tabC N (fun _ => 0)) 3))
  go_wp2_with fail
  clear hNi hwN hmk
  go_loopw [7, 23] (fun s7 s23 wr => ∃ (i : Nat), i ≤ lx + 1 ∧ s23 = .int .i64 i ∧ wr.ownsRow w.heap.size 55 1 s7 i (slR w.heap.size (ly + 1) i) ∧ wr.heap[w.heap.size]? = some (.cells (tabC N (fun _ => 0)) 3 (0, 0)) ∧ Below w.heap.size w wr) (fun _ s23 _ => lx + 1 - (intOf s23).toNat)
  case atStart => exact ⟨0, Nat.zero_le _, rfl, ⟨rfl, .inl ⟨rfl, rfl⟩⟩, HZ.out, HB0.out⟩
  case round =>
    obtain ⟨i, hi, rfl, hown, hz, hbr⟩ := hrel
    have HO := Lib.hid hown
    have HZR := Lib.hid hz
    have HBR := Lib.hid hbr
    have hsz := hbr.size
    clear hown hz hbr
    by_cases hlt : i < lx + 1
    · as_aux_lemma =>
        have hlt1 : (i : Int) < (lx : Int) + 1 := by omega
        obtain ⟨o, ho⟩ : ∃ o, o = i * (ly + 1) := ⟨_, rfl⟩
        have hoN : o + (ly + 1) ≤ N := by
          rw [ho, HN.out, ← Nat.succ_mul]
          exact Nat.mul_le_mul_right _ (by omega)
        have hm1 : (i : Int) * ((ly : Int) + 1) = (o : Int) := by rw [ho]; push_cast; rfl
        have hm2 : ((i : Int) + 1) * ((ly : Int) + 1) = (o : Int) + ((ly : Int) + 1) := by rw [Int.add_mul, hm1, Int.one_mul]
        have hw1 : IntKind.i64.wrap (o : Int) = (o : Int) := by rw [IntKind.wrap_i64]; omega
        have hw2 : IntKind.i64.wrap ((o : Int) + ((ly : Int) + 1)) = (o : Int) + ((ly : Int) + 1) := by rw [IntKind.wrap_i64]; omega
        have hs0 : (0 : Int) ≤ (o : Int) := by omega
        have hs1 : (o : Int) ≤ (o : Int) + ((ly : Int) + 1) := by omega
        have hs2 : (o : Int) + ((ly : Int) + 1) ≤ (N : Int) := by omega
        have HOO := Lib.hid ho
        clear ho
        go_wp2_with (at_builtin; go_loud (refine wpList_append_lies _ rfl _ _ 53 rfl w.heap.size 55 i0 _ 1 24 Tryd.underlying53 hi0 hz0 hz1 hz2 rfl (by decide) _ i _ rfl (HO.out.alloc _) ⟨wr.heap.size, 0, none⟩ 1 1 [.slice (some ⟨w.heap.size, o, none⟩) (ly + 1) (ly + 1)] rfl rfl (World.news_of_block (cs := #[_]) (t := 55) (fr := (0, 0)) (heap_alloc_new wr _)) (by simp [Value.oneCell']) (by omega) (by unfold maxLen; omega) (by omega) (by simp <;> omega) (wr.heap.size + 1) (by simp) ?c1))
        case c1 =>
          intro gg cap w4 hown4 hgrow4 hat4 hlt4
          have HO4 := Lib.hid (show w4.ownsRow w.heap.size 55 1 (.slice (some ⟨gg, 0, none⟩) (i + 1) cap) (i + 1) (slR w.heap.size (ly + 1) (i + 1)) by
            rw [slR_succ, ← HOO.out]
            exact hown4)
          have HZ4 := Lib.hid (keep_app HO.out HZR.out (by decide) hgrow4 (block_alloc HZR.out _))
          have HB4 := Lib.hid ((HBR.out.alloc hsz _).grown hgrow4 (by simp <;> omega) fun q hq => (own_typ1 HO.out hq).1)
          clear hown4 hgrow4 hat4 hlt4 hm1 hm2 hw1 hw2 hs0 hs1 hs2
          go_wp2_with fail
          go_roundw
          case rel => exact ⟨i + 1, by omega, by go_num, HO4.out, HZ4.out, HB4.out⟩
          case measure => simp [intOf]; omega
    · as_aux_lemma =>
        have hin : i = lx + 1 := by omega
        have HO2 := HO.out
        rw [hin] at HO2
        obtain ⟨br, cap, cur, rfl, hbB, hbr', hcap, hcur⟩ := own_block HO2 (by omega)
        have HCUR := Lib.hid (show ∀ j, j < lx + 1 → cur[j]? = some (.slice (some ⟨w.heap.size, j * (ly + 1), none⟩) (ly + 1) (ly + 1)) from fun j hj => by rw [hcur j hj, slR_at hj])
        have HBRK := Lib.hid hbr'
        have hne := ne_ty hbr' HZR.out (by decide)
        have HINV := Lib.hid (by have := inv_start xs ys; rw [HLX.out, HLY.out] at this; exact this : TabInv xs ys (fun _ => 0) lx ly)
        have hge : ¬ ((i : Int) < (lx : Int) + 1) := by omega
        clear hcur hbr' hlt hin HO HO2 hi
        have hlx0 : IntKind.i64.wrap ((lx : Int) - 1) = (lx : Int) - 1 := by rw [IntKind.wrap_i64]; omega
        go_wp2_with fail
        clear hge
        generalize wr = w3 at *
        go_loopw [9] (fun s9 wr => ∃ (p : Nat) (M : Nat → Nat) (z : Int), z + 1 = (p : Int) ∧ p ≤ lx ∧ s9 = .int .i64 z ∧ TabInv xs ys M p ly ∧ wr.heap[w.heap.size]? = some (.cells (tabC N M) 3 (0, 0)) ∧ wr.heap[br]? = some (.cells cur 55 (0, 0)) ∧ Below w.heap.size w wr) (fun s9 _ => (intOf s9 + 1).toNat)
        case atStart => exact ⟨lx, fun _ => 0, (lx : Int) - 1, by omega, Nat.le_refl _, rfl, HINV.out, HZR.out, HBRK.out, HBR.out⟩
        case round =>
          obtain ⟨p, M, z, hzp, hpl, rfl, hinv, hzz, hbk, hbb⟩ := hrel
          rcases p with _ | i
          · as_aux_lemma =>
              obtain rfl : z = -1 := by omega
              have HI0 := Lib.hid hinv
              have HZ0 := Lib.hid hzz
              have HK0 := Lib.hid hbk
              have HBB := Lib.hid hbb
              clear hinv hzz hbk hbb hzp
              go_wp2_with fail
              go_ret
              refine ⟨br, cap, by rw [HLX.out] <;> rfl, block_lt HK0.out, block_lt HZ0.out, ⟨fun i hi => ?_, fun i k hi hk => ?_⟩, HBB.out⟩
              · rw [HLX.out] at hi
                rw [HLY.out]
                exact (block_cell HK0.out i).trans (HCUR.out i (by omega))
              · have hv := HI0.out i k hi hk (.inl (Nat.zero_le _))
                rw [HLX.out] at hi
                rw [HLY.out] at hk hv ⊢
                have hlt : i * (ly + 1) + k < N := by
                  rw [HN.out]
                  have := Nat.mul_le_mul_right (ly + 1) (show i + 1 ≤ lx + 1 by omega)
                  rw [Nat.succ_mul] at this
                  omega
                exact (block_cell HZ0.out _).trans ((tabC_at M hlt).trans (by rw [hv]))
          · as_aux_lemma =>
              obtain rfl : z = (i : Int) := by omega
              have HI1 := Lib.hid hinv
              have HZ1 := Lib.hid hzz
              have HK1 := Lib.hid hbk
              have HBB := Lib.hid hbb
              clear hinv hzz hbk hbb hzp
              have hly0 : IntKind.i64.wrap ((ly : Int) - 1) = (ly : Int) - 1 := by rw [IntKind.wrap_i64]; omega
              have hi0' : (0 : Int) ≤ (i : Int) := by omega
              go_wp2_with fail
              generalize wr = w4 at *
              go_loopw [10] (fun s10 wr => ∃ (q : Nat) (M : Nat → Nat) (z : Int), z + 1 = (q : Int) ∧ q ≤ ly ∧ s10 = .int .i64 z ∧ TabInv xs ys M (i + 1) q ∧ wr.heap[w.heap.size]? = some (.cells (tabC N M) 3 (0, 0)) ∧ wr.heap[br]? = some (.cells cur 55 (0, 0)) ∧ Below w.heap.size w wr) (fun s10 _ => (intOf s10 + 1).toNat)
              case atStart => exact ⟨ly, M, (ly : Int) - 1, by omega, Nat.le_refl _, rfl, HI1.out, HZ1.out, HK1.out, HBB.out⟩
              case round =>
                obtain ⟨q, M2, z, hzq, hql, rfl, hinv, hzz, hbk, hbb⟩ := hrel
                have HI2 := Lib.hid hinv
                have HZ2 := Lib.hid hzz
                have HK2 := Lib.hid hbk
                have HB2 := Lib.hid hbb
                rcases q with _ | k
                · as_aux_lemma =>
                    obtain rfl : z = -1 := by omega
                    clear hinv hzz hbk hbb hzq
                    have hiw : IntKind.i64.wrap ((i : Int) - 1) = (i : Int) - 1 := by rw [IntKind.wrap_i64]; omega
                    go_wp2_with fail
                    go_roundw
                    case rel => exact ⟨i, M2, (i : Int) - 1, by omega, by omega, by go_num, (by have := inv_row HI2.out; rw [HLY.out] at this; exact this), HZ2.out, HK2.out, HB2.out⟩
                    case measure => (simp [intOf] <;> omega)
                · as_aux_lemma =>
                    obtain rfl : z = (k : Int) := by omega
                    have hk0' : (0 : Int) ≤ (k : Int) := by omega
                    obtain ⟨o, ho⟩ : ∃ o, o = i * (ly + 1) := ⟨_, rfl⟩
                    obtain ⟨o1, ho1⟩ : ∃ o1, o1 = (i + 1) * (ly + 1) := ⟨_, rfl⟩
                    have hoo : o1 = o + (ly + 1) := by rw [ho1, ho, Nat.succ_mul]
                    have hoN : o1 + (ly + 1) ≤ N := by
                      rw [ho1, HN.out, ← Nat.succ_mul]
                      exact Nat.mul_le_mul_right _ (by omega)
                    have r0 := (block_cell hbk i).trans (HCUR.out i (by omega))
                    have r1 := (block_cell hbk (i + 1)).trans (HCUR.out (i + 1) (by omega))
                    rw [← ho] at r0
                    rw [← ho1] at r1
                    have m0 := (block_cell hzz (o1 + k)).trans (tabC_at M2 (by omega))
                    have m1 := (block_cell hzz (o + (k + 1))).trans (tabC_at M2 (by omega))
                    have m2 := (block_cell hzz (o1 + (k + 1))).trans (tabC_at M2 (by omega))
                    have m3 := (block_cell hzz (o + k)).trans (tabC_at M2 (by omega))
                    have f3 := block_free hzz (o + k)
                    have hok := Lib.hid (show o + k < N by omega)
                    have hok2 := Lib.hid (show o1 + (k + 1) ≠ o + k by omega)
                    have HO := Lib.hid ho
                    have HO1 := Lib.hid ho1
                    have HOO := Lib.hid hoo
                    have hk1 : (k : Int) < (ly : Int) + 1 := by omega
                    have hk2 : (k : Int) + 1 < (ly : Int) + 1 := by omega
                    have hi1 : (i : Int) < (lx : Int) + 1 := by omega
                    have hi2 : (i : Int) + 1 < (lx : Int) + 1 := by omega
                    have hi3 : (i : Int) < (lx : Int) := by omega
                    have hk3 : (k : Int) < (ly : Int) := by omega
                    clear hinv hzz hbk hbb hzq ho ho1 hoo
                    go_wp2_with fail
                    go_region
                    have hv1 : max ((M2 (o1 + k) : Nat) : Int) ((M2 (o + (k + 1)) : Nat) : Int) = ((max (M2 (o1 + k)) (M2 (o + (k + 1))) : Nat) : Int) := by omega
                    rw [hv1]
                    obtain ⟨M3, hM3⟩ : ∃ M3, M3 = updM M2 (o + k) (max (M2 (o1 + k)) (M2 (o + (k + 1)))) := ⟨_, rfl⟩
                    have hzz := tab_store HZ2.out (max (M2 (o1 + k)) (M2 (o + (k + 1)))) (p := o + k) hok.out
                    have hbk := block_setCell_other HK2.out (p := ⟨w.heap.size, o + k, none⟩) (by exact fun e => hne e.symm) (.int .i64 ((max (M2 (o1 + k)) (M2 (o + (k + 1))) : Nat) : Int))
                    have hbb := (HB2.out.setCell (p := ⟨w.heap.size, o + k, none⟩) (Nat.le_refl _) (.int .i64 ((max (M2 (o1 + k)) (M2 (o + (k + 1))) : Nat) : Int))).drew
                    replace hbk : (World.setCell wr ⟨w.heap.size, o + k, none⟩ (.int .i64 ((max (M2 (o1 + k)) (M2 (o + (k + 1))) : Nat) : Int))).drew.heap[br]? = some (.cells cur 55 (0, 0)) := hbk
                    rw [← hM3] at hzz
                    have HM3 := Lib.hid hM3
                    clear hv1 hM3 r0 r1 m0 m1 m2 m3 f3
                    generalize (World.setCell _ _ _).drew = wx at *
                    have HZ3 := Lib.hid hzz
                    have HK3 := Lib.hid hbk
                    have HB3 := Lib.hid hbb
                    obtain ⟨bx, ox, hao, hxc⟩ := HX.out.ln hbb (j := i) (by omega)
                    obtain ⟨by', oy, hbo, hyc⟩ := HY.out.ln hbb (j := k) (by omega)
                    subst hao hbo
                    have HXL := Lib.hid (show i < xs.length by rw [HLX.out]; omega)
                    have HYL := Lib.hid (show k < ys.length by rw [HLY.out]; omega)
                    have HM31 := Lib.hid (show M3 (o + k) = max (M2 (o1 + k)) (M2 (o + (k + 1))) by rw [HM3.out]; unfold updM; rw [if_pos rfl])
                    have HM32 := Lib.hid (show M3 (o1 + (k + 1)) = M2 (o1 + (k + 1)) by rw [HM3.out]; unfold updM; rw [if_neg hok2.out])
                    have HMO := Lib.hid (show ∀ q, q ≠ o + k → M3 q = M2 q from fun q hq => by rw [HM3.out]; unfold updM; rw [if_neg hq])
                    have HV0 := Lib.hid (show M2 (o1 + k) = bst (xs.drop (i + 1)) (ys.drop k) by
                      have := HI2.out (i + 1) k (by have := HXL.out; omega) (by have := HYL.out; omega) (.inl (Nat.le_refl _))
                      rw [HLY.out, ← HO1.out] at this; exact this)
                    have HV1 := Lib.hid (show M2 (o + (k + 1)) = bst (xs.drop i) (ys.drop (k + 1)) by
                      have := HI2.out i (k + 1) (by have := HXL.out; omega) (by have := HYL.out; omega) (.inr (.inl ⟨rfl, Nat.le_refl _⟩))
                      rw [HLY.out, ← HO.out] at this; exact this)
                    have HV2 := Lib.hid (show M2 (o1 + (k + 1)) = bst (xs.drop (i + 1)) (ys.drop (k + 1)) by
                      have := HI2.out (i + 1) (k + 1) (by have := HXL.out; omega) (by have := HYL.out; omega) (.inl (Nat.le_refl _))
                      rw [HLY.out, ← HO1.out] at this; exact this)
                    have HBD := Lib.hid (bst_drop HXL.out HYL.out)
                    have HTX := Lib.hid (tot_at HXL.out)
                    have hkw : IntKind.i64.wrap ((k : Int) - 1) = (k : Int) - 1 := by rw [IntKind.wrap_i64]; omega
                    generalize hrx : xs[i]'HXL.out = rx at *
                    generalize hry : ys[k]'HYL.out = ry at *
                    by_cases he : rx = ry
                    · as_aux_lemma =>
                        subst he
                        have HBD2 := Lib.hid ((HBD.out).trans (if_pos rfl))
                        obtain ⟨tx, htx⟩ : ∃ tx : ByteArray, tx = ⟨rx.toArray⟩ := ⟨_, rfl⟩
                        have htl : tx.size = rx.length := by rw [htx]; show rx.toArray.size = _; exact List.size_toArray ..
                        rw [← htx] at hxc hyc
                        have r0 := (block_cell hbk i).trans (HCUR.out i (by omega))
                        have r1 := (block_cell hbk (i + 1)).trans (HCUR.out (i + 1) (by omega))
                        rw [← HO.out] at r0
                        rw [← HO1.out] at r1
                        have m2 := (block_cell hzz (o1 + (k + 1))).trans (tabC_at M3 (by omega))
                        have m3 := (block_cell hzz (o + k)).trans (tabC_at M3 hok.out)
                        have f3 := block_free hzz (o + k)
                        have hwv : IntKind.i64.wrap (((M3 (o1 + (k + 1)) : Nat) : Int) + (tx.size : Int)) = ((M3 (o1 + (k + 1)) : Nat) : Int) + (tx.size : Int) := by
                          have h1 := bst_le (xs.drop (i + 1)) (ys.drop (k + 1))
                          have h2 := tot_drop xs (i + 1)
                          have h3 := HTX.out
                          rw [← HV2.out, ← HM32.out] at h1
                          rw [IntKind.wrap_i64]; omega
                        have HTL := Lib.hid htl
                        clear htx htl hrx hry hzz hbk hbb
                        go_wp2_with fail
                        go_quiet (fail)
                        go_wp2_with fail
                        go_region
                        have hv2 : max ((M3 (o + k) : Nat) : Int) (((M3 (o1 + (k + 1)) : Nat) : Int) + (tx.size : Int)) = ((max (M3 (o + k)) (M3 (o1 + (k + 1)) + tx.size) : Nat) : Int) := by omega
                        rw [hv2]
                        generalize hwy : World.drewN _ _ = wy
                        have hzy : wy.heap[w.heap.size]? = some (.cells (tabC N M3) 3 (0, 0)) := by rw [← hwy]; exact HZ3.out
                        have hky : wy.heap[br]? = some (.cells cur 55 (0, 0)) := by rw [← hwy]; exact HK3.out
                        have hby : Below w.heap.size w wy := by rw [← hwy]; exact below_drewN HB3.out _
                        have HZ4 := Lib.hid (tab_store hzy (max (M3 (o + k)) (M3 (o1 + (k + 1)) + tx.size)) (p := o + k) hok.out)
                        have hbk := block_setCell_other hky (p := ⟨w.heap.size, o + k, none⟩) (by exact fun e => hne e.symm) (.int .i64 ((max (M3 (o + k)) (M3 (o1 + (k + 1)) + tx.size) : Nat) : Int))
                        have HK4 := Lib.hid (show (World.setCell wy ⟨w.heap.size, o + k, none⟩ (.int .i64 ((max (M3 (o + k)) (M3 (o1 + (k + 1)) + tx.size) : Nat) : Int))).drew.heap[br]? = some (.cells cur 55 (0, 0)) from hbk)
                        have HB4 := Lib.hid (hby.setCell (p := ⟨w.heap.size, o + k, none⟩) (Nat.le_refl _) (.int .i64 ((max (M3 (o + k)) (M3 (o1 + (k + 1)) + tx.size) : Nat) : Int))).drew
                        have HB5 := Lib.hid (hby.setCell (p := ⟨w.heap.size, o + k, none⟩) (Nat.le_refl _) (.int .i64 ((max (M3 (o + k)) (M3 (o1 + (k + 1)) + tx.size) : Nat) : Int)))
                        clear hwy hzy hky hby hbk hv2 r0 r1 m2 m3 f3 hwv
                        go_wp2_with fail
                        go_roundw
                        case rel => exact ⟨k, updM M3 (o + k) (max (M3 (o + k)) (M3 (o1 + (k + 1)) + tx.size)), (k : Int) - 1, by omega, by omega, by go_num, inv_step HI2.out HXL.out HYL.out (by rw [HLY.out, ← HO.out]; unfold updM; rw [if_pos rfl, HM31.out, HV0.out, HV1.out, HM32.out, HV2.out, HTL.out, HBD2.out]) (by rw [HLY.out, ← HO.out]; intro q hq; unfold updM; rw [if_neg hq]; exact HMO.out q hq), HZ4.out, HK4.out, (by first | exact HB4.out | exact HB5.out)⟩
                        case measure => (simp [intOf] <;> omega)
                    · as_aux_lemma =>
                        have hs1 := st_ne (t := ⟨rx.toArray⟩) (u := ⟨ry.toArray⟩) (by intro e; injection e with e; injection e with e; exact he e)
                        have hs2 := st_ne' (t := ⟨rx.toArray⟩) (u := ⟨ry.toArray⟩) (by intro e; injection e with e; injection e with e; exact he e)
                        have HBD2 := Lib.hid ((HBD.out).trans (if_neg he))
                        generalize (⟨rx.toArray⟩ : ByteArray) = tx at *
                        generalize (⟨ry.toArray⟩ : ByteArray) = ty at *
                        clear hrx hry hzz hbk hbb he
                        go_wp2_with fail
                        go_quiet (fail)
                        go_wp2_with fail
                        go_roundw
                        case rel => exact ⟨k, M3, (k : Int) - 1, by omega, by omega, by go_num, inv_step HI2.out HXL.out HYL.out (by rw [HLY.out, ← HO.out, HM31.out, HV0.out, HV1.out, HBD2.out]) (by rw [HLY.out, ← HO.out]; exact HMO.out), HZ3.out, HK3.out, below_drewN HB3.out _⟩
                        case measure => (simp [intOf] <;> omega)
end Go.Proofs.YtfbjbgknfdekfaaDoor
