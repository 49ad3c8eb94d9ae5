/- Diff: the reference's Least: its walk. -/
import Derived.Test.YtfbjbgknfdekfaaDoorEn
import Derived.Test.YtfbjbgknfdekfaaDoorEw
import Derived.Test.YtfbjbgknfdekfaaDoorEy
namespace Go.Proofs.YtfbjbgknfdekfaaDoor
open Go.RowKit
set_option linter.unusedVariables false

theorem take_snoc {xs : List Ln} {i : Nat} (h : i < xs.length) : xs.take (i + 1) = xs.take i ++ [xs[i]] := List.take_succ_eq_append_getElem h
theorem lst_take {xs ys : List Ln} {i k : Nat} (hi : i < xs.length) (hk : k < ys.length) : lst (xs.take (i + 1)) (ys.take (k + 1)) = if xs[i] = ys[k] then min (min (lst (xs.take i) (ys.take (k + 1)) + xs[i].length) (lst (xs.take (i + 1)) (ys.take k) + ys[k].length)) (lst (xs.take i) (ys.take k)) else min (lst (xs.take i) (ys.take (k + 1)) + xs[i].length) (lst (xs.take (i + 1)) (ys.take k) + ys[k].length) := by
  rw [take_snoc hi, take_snoc hk]
  exact lst_snoc _ _ _ _
theorem lst_col {xs : List Ln} {i : Nat} (hi : i < xs.length) : lst (xs.take (i + 1)) [] = lst (xs.take i) [] + xs[i].length := by
  rw [lst_nil', lst_nil', tot_take hi]
theorem lst_row {ys : List Ln} {k : Nat} (hk : k < ys.length) : lst [] (ys.take (k + 1)) = lst [] (ys.take k) + ys[k].length := by
  rw [lst_nil, lst_nil, tot_take hk]
theorem tot_takeL (xs : List Ln) (i : Nat) : tot (xs.take i) ≤ tot xs := by
  have e := tot_app (xs.take i) (xs.drop i)
  rw [List.take_append_drop] at e
  omega
theorem lst_tk (xs ys : List Ln) (i k : Nat) : lst (xs.take i) (ys.take k) ≤ tot xs + tot ys := by
  have h := lst_most (xs.take i) (ys.take k)
  have h1 := tot_takeL xs i
  have h2 := tot_takeL ys k
  omega
/-- a row of costs, right up to place q -/
def RowC (xs ys : List Ln) (i q : Nat) (M : Nat → Nat) : Prop := ∀ k, k ≤ q → k ≤ ys.length → M k = lst (xs.take i) (ys.take k)
theorem rowC_next {xs ys : List Ln} {i q : Nat} {M M' : Nat → Nat} (h : RowC xs ys i q M) (hv : q < ys.length → M' (q + 1) = lst (xs.take i) (ys.take (q + 1))) (ho : ∀ k, k ≠ q + 1 → M' k = M k) : RowC xs ys i (q + 1) M' := by
  intro k hk hk2
  by_cases e : k = q + 1
  · subst e
    exact hv (by omega)
  · rw [ho k e]
    exact h k (by omega) hk2
theorem mk_ints1 (n : Nat) (hn : n ≤ 1000000) (w : World) :
    (Instr.makeSlice 55 (.int .i64 ((n : Int) + 1)) (.int .i64 ((n : Int) + 1))).run Tryd.prog w = .ok (.slice (some ⟨w.heap.size, 0, none⟩) (n + 1) (n + 1)) (w.alloc (.cells (tabC (n + 1) (fun _ => 0)) 3)) := by
  have h := mk_ints (n + 1) (by omega) w
  have e : ((n + 1 : Nat) : Int) = (n : Int) + 1 := by push_cast; rfl
  rw [e] at h
  exact h
theorem cell_lt {w : World} {b i : Nat} {v : Value} (h : w.cell? ⟨b, i, none⟩ = some v) : b < w.heap.size := by
  rcases Nat.lt_or_ge b w.heap.size with h1 | h1
  · exact h1
  · simp [World.cell?, Array.getElem?_eq_none h1] at h
theorem cell_alloc_old {w : World} {b i : Nat} {v : Value} (h : w.cell? ⟨b, i, none⟩ = some v) (o : Obj) : (w.alloc o).cell? ⟨b, i, none⟩ = some v :=
  (((Below.refl w.heap.size w).alloc (Nat.le_refl _) o).cell (p := ⟨b, i, none⟩) (cell_lt h)).trans h
theorem IsR.atb {w w' : World} {b o n : Nat} {l : List Ln} (h : IsR fS w (some ⟨b, o, none⟩) n l) (hb : Below w.heap.size w w') {j : Nat} (hj : j < n) :
    w'.cell? ⟨b, o + j, none⟩ = some (.string ⟨(l[j]'(by have := h.1; omega)).toArray⟩) := by
  obtain ⟨b', o', e, h⟩ := h.ln hb hj
  injection e with e
  injection e with e1 e2
  subst e1 e2
  exact h
/-- after a store the row of costs is the updated one -/
theorem tabC_store {w : World} {bA N p : Nat} {M : Nat → Nat} {T : TypeId} (h : w.heap[bA]? = some (.cells (tabC N M) T (0, 0))) (v : Nat) (hp : p < N) : (w.setCell ⟨bA, p, none⟩ (.int .i64 (v : Nat))).heap[bA]? = some (.cells (tabC N (updM M p v)) T (0, 0)) := by
  rw [← tabC_set M v hp]
  exact block_setCell h p _
theorem updM_at (M : Nat → Nat) (p v : Nat) : updM M p v p = v := if_pos rfl
theorem updM_ne (M : Nat → Nat) {p q : Nat} (v : Nat) (h : q ≠ p) : updM M p v q = M q := if_neg h
theorem rowC_upd {xs ys : List Ln} {i q v : Nat} {M : Nat → Nat} (h : RowC xs ys i q M) (hv : q < ys.length → v = lst (xs.take i) (ys.take (q + 1))) : RowC xs ys i (q + 1) (updM M (q + 1) v) :=
  rowC_next h (fun hq => by rw [updM_at]; exact hv hq) (fun k hk => updM_ne M v hk)
theorem sz_of {t : ByteArray} {r : Ln} (h : t = ⟨r.toArray⟩) : t.size = r.length := by rw [h]; show r.toArray.size = _; exact List.size_toArray ..
set_option maxRecDepth 100000 in
set_option maxHeartbeats 8000000 in
theorem refLeast_any (a b : ByteArray) (w : World) (ha : a.size ≤ 1048576) (hb : b.size ≤ 1048576) (hna : (rwS a).length ≤ 1024) (hnb : (rwS b).length ≤ 1024) :
    Calls Tryd.prog 23 #[.string a, .string b] w fun e w' => e = .returned (.int .i64 (lst (rwS a) (rwS b) : Nat)) ∧ Below w.heap.size w w' := by
  have HA := Lib.hid (show ∀ u, Calls Tryd.prog 21 #[.string a] u (fun e w' => ∃ v, e = .returned v ∧ w'.ownsRow u.heap.size 9 1 v (rwS a).length (flatR fS (rwS a)) ∧ Below u.heap.size u w') from fun u => refRows_any a u ha)
  have HB := Lib.hid (show ∀ u, Calls Tryd.prog 21 #[.string b] u (fun e w' => ∃ v, e = .returned v ∧ w'.ownsRow u.heap.size 9 1 v (rwS b).length (flatR fS (rwS b)) ∧ Below u.heap.size u w') from fun u => refRows_any b u hb)
  have HTX := Lib.hid (rwS_tot a)
  have HTY := Lib.hid (rwS_tot b)
  generalize rwS a = xs at *
  generalize rwS b = ys at *
  have HTT := Lib.hid (show tot xs + tot ys ≤ 2097152 by rw [HTX.out, HTY.out]; omega)
  generalize hlx : xs.length = lx at *
  generalize hly : ys.length = ly at *
  have HLX := Lib.hid hlx
  have HLY := Lib.hid hly
  have hmk := mk_ints1 ly (by omega)
  clear hlx hly ha hb HTX HTY
  go_enter Tryd.func23, Tryd.ntmps23
  go_wp2_with fail
  refine (HA.out _).mono ?_; rintro e w1 ⟨v1, rfl, hown1, hb1⟩
  obtain ⟨aox, capx, rfl, hx1, -, -⟩ := IsR.owned (f := fS) (s := 1) fS_len (l := xs) (n := lx) HLX.out hown1
  have HB1 := Lib.hid hb1
  have HX1 := Lib.hid hx1
  clear hown1 hx1 hb1
  go_wp2_with fail
  refine (HB.out _).mono ?_; rintro e w2 ⟨v2, rfl, hown2, hb2⟩
  obtain ⟨aoy, capy, rfl, hy2, -, -⟩ := IsR.owned (f := fS) (s := 1) fS_len (l := ys) (n := ly) HLY.out hown2
  have HB2 := Lib.hid (below_two HB1.out hb2)
  have HX := Lib.hid (HX1.out.later hb2)
  have HY := Lib.hid hy2
  have HS2 := Lib.hid HB2.out.size
  clear hown2 hy2 hb2 HA HB
  have HZ0 := Lib.hid (block_new w2 (.cells (tabC (ly + 1) (fun _ => 0)) 3))
  have HBB0 := Lib.hid ((Below.refl w2.heap.size w2).alloc (Nat.le_refl _) (.cells (tabC (ly + 1) (fun _ => 0)) 3))
  go_wp2_with fail
  go_loopw [8] (fun s8 wr => ∃ (k : Nat) (M : Nat → Nat), k ≤ ly ∧ s8 = .int .i64 k ∧ RowC xs ys 0 k M ∧ wr.heap[w2.heap.size]? = some (.cells (tabC (ly + 1) M) 3 (0, 0)) ∧ Below w2.heap.size w2 wr) (fun s8 _ => ly - (intOf s8).toNat)
  case atStart => exact ⟨0, fun _ => 0, Nat.zero_le _, rfl, (fun k hk _ => by
    obtain rfl : k = 0 := by omega
    show 0 = lst (xs.take 0) (ys.take 0)
    rw [List.take_zero, List.take_zero, lst_nil]; rfl), HZ0.out, HBB0.out⟩
  case round =>
    obtain ⟨k, M, hk, rfl, hrow, hz, hbr⟩ := hrel
    have HROW := Lib.hid hrow
    have HZ := Lib.hid hz
    have HBR := Lib.hid hbr
    clear hrow
    by_cases hlt : k < ly
    · as_aux_lemma =>
        have hlt' : (k : Int) < (ly : Int) := by omega
        have hk1 : (k : Int) < (ly : Int) + 1 := by omega
        have hk2 : (k : Int) + 1 < (ly : Int) + 1 := by omega
        have hk0 : (0 : Int) ≤ (k : Int) := by omega
        have HYL := Lib.hid (show k < ys.length by rw [HLY.out]; exact hlt)
        obtain ⟨by', oy, hbo, hyc⟩ := HY.out.ln hbr (j := k) (by omega)
        subst hbo
        obtain ⟨ty, hty⟩ : ∃ ty : ByteArray, ty = ⟨(ys[k]'HYL.out).toArray⟩ := ⟨_, rfl⟩
        rw [← hty] at hyc
        have HSZ := Lib.hid (sz_of hty)
        have m0 := (block_cell hz k).trans (tabC_at M (by omega))
        have m1 := (block_cell hz (k + 1)).trans (tabC_at M (by omega))
        have f1 := block_free hz (k + 1)
        have HV := Lib.hid (show M k = lst [] (ys.take k) by have := HROW.out k (Nat.le_refl _) (by rw [HLY.out]; omega); rw [List.take_zero] at this; exact this)
        have HVN := Lib.hid (lst_row HYL.out)
        have hle := lst_tk xs ys 0 (k + 1)
        rw [List.take_zero, HVN.out, ← HSZ.out, ← HV.out] at hle
        have hle2 := HTT.out
        obtain ⟨v, hv⟩ : ∃ v, v = M k + ty.size := ⟨_, rfl⟩
        have hvI : ((M k : Nat) : Int) + (ty.size : Int) = (v : Int) := by omega
        have hwv : IntKind.i64.wrap (((M k : Nat) : Int) + (ty.size : Int)) = ((M k : Nat) : Int) + (ty.size : Int) := by rw [IntKind.wrap_i64]; omega
        have HNEW := Lib.hid (rowC_upd (v := v) HROW.out (fun _ => by rw [List.take_zero, HVN.out, ← HSZ.out, ← HV.out, hv]))
        have HZN := Lib.hid (tabC_store HZ.out v (p := k + 1) (by omega))
        have HB4 := Lib.hid (HBR.out.setCell (p := ⟨w2.heap.size, k + 1, none⟩) (Nat.le_refl _) (.int .i64 (v : Nat)))
        have HB5 := Lib.hid HB4.out.drew
        have HVI := Lib.hid hvI
        clear hle hle2 hz hbr hty hvI hv
        go_wp2_with fail
        go_region
        rw [HVI.out]
        clear m0 m1 f1 hwv
        go_wp2_with fail
        go_roundw
        case rel => exact ⟨k + 1, _, by omega, by go_num, HNEW.out, HZN.out, (by first | exact HB4.out | exact HB5.out)⟩
        case measure => (simp [intOf] <;> omega)
    · as_aux_lemma =>
        obtain rfl : k = ly := by omega
        have HCS := Lib.hid (block_lt hz)
        clear hlt hz hbr
        go_wp2_with fail
        generalize wr = w3 at *
        go_loopw [7, 9] (fun s7 s9 wr => ∃ (i bc : Nat) (M : Nat → Nat), i ≤ lx ∧ s9 = .int .i64 i ∧ s7 = .slice (some ⟨bc, 0, none⟩) (k + 1) (k + 1) ∧ w2.heap.size ≤ bc ∧ RowC xs ys i k M ∧ wr.heap[bc]? = some (.cells (tabC (k + 1) M) 3 (0, 0)) ∧ Below w2.heap.size w2 wr) (fun _ s9 _ => lx - (intOf s9).toNat)
        case atStart => exact ⟨0, w2.heap.size, M, Nat.zero_le _, rfl, rfl, Nat.le_refl _, HROW.out, HZ.out, HBR.out⟩
        case round =>
          clear M HROW HZ HBR HCS
          obtain ⟨i, bc, M, hi, rfl, rfl, hbc, hrow, hz, hbr⟩ := hrel
          have HROW := Lib.hid hrow
          have HZ := Lib.hid hz
          have HBR := Lib.hid hbr
          clear hrow
          by_cases hlt : i < lx
          · as_aux_lemma =>
              have hlt' : (i : Int) < (lx : Int) := by omega
              have hi0 : (0 : Int) ≤ (i : Int) := by omega
              have HXL := Lib.hid (show i < xs.length by rw [HLX.out]; exact hlt)
              have hsz := hbr.size
              obtain ⟨bx, ox, hao, hxc⟩ := HX.out.ln hbr (j := i) (by omega)
              subst hao
              obtain ⟨tx, htx⟩ : ∃ tx : ByteArray, tx = ⟨(xs[i]'HXL.out).toArray⟩ := ⟨_, rfl⟩
              rw [← htx] at hxc
              have HSX := Lib.hid (sz_of htx)
              have hbl := block_lt hz
              have hne : bc ≠ wr.heap.size := by omega
              clear htx hz hbr
              go_wp2_with fail
              generalize hwa : World.alloc wr _ = wa
              have hbra := HBR.out.alloc hsz (.cells (tabC (k + 1) (fun _ => 0)) 3)
              rw [hwa] at hbra
              have hza : wa.heap[bc]? = some (.cells (tabC (k + 1) M) 3 (0, 0)) := by rw [← hwa]; exact block_alloc HZ.out _
              have hna' : wa.heap[wr.heap.size]? = some (.cells (tabC (k + 1) (fun _ => 0)) 3 (0, 0)) := by rw [← hwa]; exact block_new wr _
              have hxa : wa.cell? ⟨bx, ox + i, none⟩ = some (.string tx) := by rw [← hwa]; exact (cell_alloc_old hxc _)
              generalize wr.heap.size = bn at *
              have HNE := Lib.hid hne
              have HBNS := Lib.hid hsz
              have HZA := Lib.hid hza
              have HNA := Lib.hid hna'
              have HXA := Lib.hid hxa
              have HBA := Lib.hid hbra
              have m0 := (block_cell hza 0).trans (tabC_at M (by omega))
              have m1 := (block_cell hna' 0).trans (tabC_at (fun _ => 0) (show 0 < k + 1 by omega))
              have f0 := block_free hna' 0
              have HV0 := Lib.hid (show M 0 = lst (xs.take i) [] by have := HROW.out 0 (Nat.zero_le _) (Nat.zero_le _); rw [List.take_zero] at this; exact this)
              have HVN := Lib.hid (lst_col HXL.out)
              have hle := lst_tk xs ys (i + 1) 0
              rw [List.take_zero, HVN.out, ← HSX.out, ← HV0.out] at hle
              have hle2 := HTT.out
              obtain ⟨v, hv⟩ : ∃ v, v = M 0 + tx.size := ⟨_, rfl⟩
              have hvI : ((M 0 : Nat) : Int) + (tx.size : Int) = (v : Int) := by omega
              have hwv : IntKind.i64.wrap (((M 0 : Nat) : Int) + (tx.size : Int)) = ((M 0 : Nat) : Int) + (tx.size : Int) := by rw [IntKind.wrap_i64]; omega
              have HN0 := Lib.hid (show RowC xs ys (i + 1) 0 (updM (fun _ => 0) 0 v) from fun q hq _ => by
                obtain rfl : q = 0 := by omega
                rw [updM_at, List.take_zero, HVN.out, ← HSX.out, ← HV0.out, hv])
              have HZN := Lib.hid (tabC_store HNA.out v (p := 0) (by omega))
              have HZC := Lib.hid (show (wa.setCell ⟨bn, 0, none⟩ (.int .i64 (v : Nat))).heap[bc]? = some (.cells (tabC (k + 1) M) 3 (0, 0)) from block_setCell_other HZA.out (p := ⟨bn, 0, none⟩) (by exact fun e => HNE.out e.symm) (.int .i64 (v : Nat)))
              have HB4 := Lib.hid (HBA.out.setCell (p := ⟨bn, 0, none⟩) HBNS.out (.int .i64 (v : Nat)))
              have HVI := Lib.hid hvI
              clear hle hle2 hza hna' hbra hvI hv hwa hne hsz hbl hxc
              go_region
              rw [HVI.out]
              clear m0 m1 f0 hwv hxa
              generalize hwb : World.setCell wa _ _ = wb
              rw [hwb] at HZN HZC HB4
              have HB5 := Lib.hid HB4.out.drew
              clear hwb HXA HZA HNA HBA HVI
              have HZD := Lib.hid (show wb.drew.heap[bc]? = some (.cells (tabC (k + 1) M) 3 (0, 0)) from HZC.out)
              have HZE := Lib.hid (show wb.drew.heap[bn]? = some (.cells (tabC (k + 1) (updM (fun _ => 0) 0 v)) 3 (0, 0)) from HZN.out)
              clear HB4 HZC HZN
              go_wp2_with fail
              generalize wb.drew = w4 at *
              go_loopw [11] (fun s11 wr => ∃ (q : Nat) (N : Nat → Nat), q ≤ k ∧ s11 = .int .i64 q ∧ RowC xs ys (i + 1) q N ∧ wr.heap[bn]? = some (.cells (tabC (k + 1) N) 3 (0, 0)) ∧ wr.heap[bc]? = some (.cells (tabC (k + 1) M) 3 (0, 0)) ∧ Below w2.heap.size w2 wr) (fun s11 _ => k - (intOf s11).toNat)
              case atStart => exact ⟨0, _, Nat.zero_le _, rfl, HN0.out, HZE.out, HZD.out, HB5.out⟩
              case round =>
                clear HN0 HZE HZD HB5
                obtain ⟨q, N, hq, rfl, hrow, hz, hzc, hbr⟩ := hrel
                have HRN := Lib.hid hrow
                have HZ := Lib.hid hz
                have HZC := Lib.hid hzc
                have HBR := Lib.hid hbr
                clear hrow
                by_cases hlt2 : q < k
                · as_aux_lemma =>
                    have hlt2' : (q : Int) < (k : Int) := by omega
                    have hq1 : (q : Int) < (k : Int) + 1 := by omega
                    have hq2 : (q : Int) + 1 < (k : Int) + 1 := by omega
                    have hq0 : (0 : Int) ≤ (q : Int) := by omega
                    have HYL := Lib.hid (show q < ys.length by rw [HLY.out]; exact hlt2)
                    obtain ⟨by', oy, hbo, hyc⟩ := HY.out.ln hbr (j := q) (by omega)
                    subst hbo
                    have hxc := HX.out.atb hbr (j := i) (by omega)
                    obtain ⟨tx, htx⟩ : ∃ tx : ByteArray, tx = ⟨(xs[i]'HXL.out).toArray⟩ := ⟨_, rfl⟩
                    obtain ⟨ty, hty⟩ : ∃ ty : ByteArray, ty = ⟨(ys[q]'HYL.out).toArray⟩ := ⟨_, rfl⟩
                    rw [← htx] at hxc
                    rw [← hty] at hyc
                    have HSX := Lib.hid (sz_of htx)
                    have HSY := Lib.hid (sz_of hty)
                    have HXC := Lib.hid hxc
                    have HYC := Lib.hid hyc
                    have HXN := Lib.hid (cell_lt hxc)
                    have HYN := Lib.hid (cell_lt hyc)
                    have m0 := (block_cell hzc (q + 1)).trans (tabC_at M (by omega))
                    have m1 := (block_cell hz q).trans (tabC_at N (by omega))
                    have m2 := (block_cell hz (q + 1)).trans (tabC_at N (by omega))
                    have f2 := block_free hz (q + 1)
                    have HV0 := Lib.hid (show M (q + 1) = lst (xs.take i) (ys.take (q + 1)) from HROW.out (q + 1) (by omega) (by rw [HLY.out]; omega))
                    have HV1 := Lib.hid (show N q = lst (xs.take (i + 1)) (ys.take q) from HRN.out q (Nat.le_refl _) (by rw [HLY.out]; omega))
                    have HV2 := Lib.hid (show M q = lst (xs.take i) (ys.take q) from HROW.out q (by omega) (by rw [HLY.out]; omega))
                    have HLT := Lib.hid (lst_take HXL.out HYL.out)
                    have hle0 := lst_tk xs ys i (q + 1)
                    have hle1 := lst_tk xs ys (i + 1) q
                    rw [← HV0.out] at hle0
                    rw [← HV1.out] at hle1
                    have hle2 := HTT.out
                    have hsx := tot_at HXL.out
                    have hsy := tot_at HYL.out
                    rw [← HSX.out] at hsx
                    rw [← HSY.out] at hsy
                    obtain ⟨v, hv⟩ : ∃ v, v = min (M (q + 1) + tx.size) (N q + ty.size) := ⟨_, rfl⟩
                    have hvI : min (((M (q + 1) : Nat) : Int) + (tx.size : Int)) (((N q : Nat) : Int) + (ty.size : Int)) = (v : Int) := by omega
                    have hw0 : IntKind.i64.wrap (((M (q + 1) : Nat) : Int) + (tx.size : Int)) = ((M (q + 1) : Nat) : Int) + (tx.size : Int) := by rw [IntKind.wrap_i64]; omega
                    have hw1 : IntKind.i64.wrap (((N q : Nat) : Int) + (ty.size : Int)) = ((N q : Nat) : Int) + (ty.size : Int) := by rw [IntKind.wrap_i64]; omega
                    have HV := Lib.hid hv
                    have HVI := Lib.hid hvI
                    have HZN := Lib.hid (tabC_store HZ.out v (p := q + 1) (by omega))
                    have HZC2 := Lib.hid (show (wr.setCell ⟨bn, q + 1, none⟩ (.int .i64 (v : Nat))).heap[bc]? = some (.cells (tabC (k + 1) M) 3 (0, 0)) from block_setCell_other HZC.out (p := ⟨bn, q + 1, none⟩) (by exact fun e => HNE.out e.symm) (.int .i64 (v : Nat)))
                    have HB4 := Lib.hid (HBR.out.setCell (p := ⟨bn, q + 1, none⟩) HBNS.out (.int .i64 (v : Nat)))
                    have HXTV := Lib.hid htx
                    have HYTV := Lib.hid hty
                    clear hle0 hle1 hle2 hsx hsy htx hty hv hvI hz hzc hbr
                    go_wp2_with fail
                    go_region
                    rw [HVI.out]
                    clear m0 m1 m2 f2 hw0 hw1 hxc hyc
                    generalize hwb : World.setCell wr _ _ = wb
                    rw [hwb] at HZN HZC2 HB4
                    have HB5 := Lib.hid HB4.out.drew
                    have HZ5 := Lib.hid (show wb.drew.heap[bn]? = some (.cells (tabC (k + 1) (updM N (q + 1) v)) 3 (0, 0)) from HZN.out)
                    have HC5 := Lib.hid (show wb.drew.heap[bc]? = some (.cells (tabC (k + 1) M) 3 (0, 0)) from HZC2.out)
                    clear hwb HB4 HZN HZC2 HXC HYC
                    generalize wb.drew = w5 at *
                    have hxc := HX.out.atb HB5.out (j := i) (by omega)
                    have hyc := HY.out.atb HB5.out (j := q) (by omega)
                    rw [← HXTV.out] at hxc
                    rw [← HYTV.out] at hyc
                    by_cases he : xs[i]'HXL.out = ys[q]'HYL.out
                    · as_aux_lemma =>
                        have HLE := Lib.hid (HLT.out.trans (if_pos he))
                        have hty : ty = tx := by rw [HXTV.out, HYTV.out, he]
                        clear he
                        subst hty
                        go_wp2_with fail
                        go_quiet (fail)
                        generalize hw6 : World.drewN _ _ = w6
                        have hz6 : w6.heap[bn]? = some (.cells (tabC (k + 1) (updM N (q + 1) v)) 3 (0, 0)) := by rw [← hw6]; exact HZ5.out
                        have hc6 : w6.heap[bc]? = some (.cells (tabC (k + 1) M) 3 (0, 0)) := by rw [← hw6]; exact HC5.out
                        have hb6 : Below w2.heap.size w2 w6 := by rw [← hw6]; exact below_drewN HB5.out _
                        have HZ6 := Lib.hid hz6
                        have HC6 := Lib.hid hc6
                        have HB6 := Lib.hid hb6
                        have m0 := (block_cell hz6 (q + 1)).trans ((tabC_at _ (by omega)).trans (by rw [updM_at]))
                        have m1 := (block_cell hc6 q).trans (tabC_at M (by omega))
                        have f0 := block_free hz6 (q + 1)
                        obtain ⟨u, hu⟩ : ∃ u, u = min v (M q) := ⟨_, rfl⟩
                        have huI : min ((v : Nat) : Int) ((M q : Nat) : Int) = (u : Int) := by omega
                        have HUI := Lib.hid huI
                        have HNEW := Lib.hid (rowC_upd (v := u) HRN.out (fun _ => by rw [HLE.out, hu, HV.out, ← HV0.out, ← HV1.out, ← HV2.out, ← HSX.out, ← HSY.out]))
                        have HZN := Lib.hid (tabC_store HZ6.out u (p := q + 1) (by omega))
                        have HZC2 := Lib.hid (show (w6.setCell ⟨bn, q + 1, none⟩ (.int .i64 (u : Nat))).heap[bc]? = some (.cells (tabC (k + 1) M) 3 (0, 0)) from block_setCell_other HC6.out (p := ⟨bn, q + 1, none⟩) (by exact fun e => HNE.out e.symm) (.int .i64 (u : Nat)))
                        have HB7 := Lib.hid (HB6.out.setCell (p := ⟨bn, q + 1, none⟩) HBNS.out (.int .i64 (u : Nat)))
                        have HB8 := Lib.hid HB7.out.drew
                        clear hw6 hz6 hc6 hb6 hu huI hxc hyc
                        go_wp2_with fail
                        go_region
                        rw [HUI.out]
                        clear m0 m1 f0
                        have HM := Lib.hid (show ∀ x, updM (updM N (q + 1) v) (q + 1) u x = updM N (q + 1) u x from fun x => by unfold updM; split <;> rfl)
                        have HZL := Lib.hid (show (w6.setCell ⟨bn, q + 1, none⟩ (.int .i64 (u : Nat))).heap[bn]? = some (.cells (tabC (k + 1) (updM N (q + 1) u)) 3 (0, 0)) by rw [← show updM (updM N (q + 1) v) (q + 1) u = updM N (q + 1) u from funext HM.out]; exact HZN.out)
                        go_wp2_with fail
                        go_roundw
                        case rel => exact ⟨q + 1, _, by omega, by go_num, HNEW.out, HZL.out, HZC2.out, (by first | exact HB7.out | exact HB8.out)⟩
                        case measure => (simp [intOf] <;> omega)
                    · as_aux_lemma =>
                        have HLE := Lib.hid (HLT.out.trans (if_neg he))
                        have hs1 := st_ne (t := tx) (u := ty) (by rw [HXTV.out, HYTV.out]; intro e; injection e with e; injection e with e; exact he e)
                        have hs2 := st_ne' (t := tx) (u := ty) (by rw [HXTV.out, HYTV.out]; intro e; injection e with e; injection e with e; exact he e)
                        have HNEW := Lib.hid (rowC_upd (v := v) HRN.out (fun _ => by rw [HLE.out, HV.out, ← HV0.out, ← HV1.out, ← HSX.out, ← HSY.out]))
                        clear he
                        go_wp2_with fail
                        go_quiet (fail)
                        go_wp2_with fail
                        go_roundw
                        case rel => exact ⟨q + 1, _, by omega, by go_num, HNEW.out, HZ5.out, HC5.out, below_drewN HB5.out _⟩
                        case measure => (simp [intOf] <;> omega)
                · as_aux_lemma =>
                    obtain rfl : q = k := by omega
                    clear hlt2 hz hzc hbr
                    go_wp2_with fail
                    go_roundw
                    case rel => exact ⟨i + 1, bn, N, by omega, by go_num, rfl, HBNS.out, HRN.out, HZ.out, HBR.out⟩
                    case measure => (simp [intOf] <;> omega)
          · as_aux_lemma =>
              obtain rfl : i = lx := by omega
              have m0 := (block_cell hz k).trans ((tabC_at M (by omega)).trans (by rw [HROW.out k (Nat.le_refl _) (by rw [HLY.out]; exact Nat.le_refl _), show xs.take i = xs by rw [← HLX.out]; exact List.take_length, show ys.take k = ys by rw [← HLY.out]; exact List.take_length]))
              have HBF := Lib.hid (HB2.out.trans (HBR.out.mono HS2.out))
              have hk1 : (k : Int) < (k : Int) + 1 := by omega
              clear hlt hz hbr
              go_wp2_with fail
              go_ret
              exact ⟨rfl, HBF.out⟩
end Go.Proofs.YtfbjbgknfdekfaaDoor
