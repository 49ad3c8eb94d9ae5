/- Text: equal pieces, items, results. -/
import Derived.Test.YtdfkbahlngijcaaDoorTx
namespace Go.Proofs.YtdfkbahlngijcaaDoor
open Go.RowKit
set_option linter.unusedVariables false

instance : DecidableEq Pc := fun p q =>
  if h : p.k = q.k ∧ p.n = q.n ∧ p.t = q.t then isTrue (pc_ext h.1 h.2.1 h.2.2) else isFalse (fun e => h (by subst e; exact ⟨rfl, rfl, rfl⟩))
def sameL (a b : List Pc) : Bool := decide (a = b)
theorem same_step {a b : List Pc} {j : Nat} (ha : j < a.length) (hb : j < b.length) (hl : a.length = b.length) (ht : a.take j = b.take j) (hne : a[j] ≠ b[j]) : sameL a b = false := by
  unfold sameL
  rw [decide_eq_false_iff_not]
  rintro rfl
  exact hne rfl
theorem same_take {a b : List Pc} {j : Nat} (ha : j < a.length) (hb : j < b.length) (ht : a.take j = b.take j) (he : a[j] = b[j]) : a.take (j + 1) = b.take (j + 1) := by
  rw [List.take_succ_eq_append_getElem ha, List.take_succ_eq_append_getElem hb, ht, he]
set_option maxRecDepth 100000 in
set_option maxHeartbeats 4000000 in
theorem kitPieces_any (ao bo : Option Addr) (n c m d : Nat) (a b : List Pc) (w : World) (h : IsR fP w ao n a) (k : IsR fP w bo m b) (hn : n ≤ 9223372036854775807) :
    Calls Tryd.prog 72 #[.slice ao n c, .slice bo m d] w fun e w' => e = .returned (.bool (sameL a b)) ∧ Below w.heap.size w w' := by
  have hla := h.1
  have hlb := k.1
  have HA := Lib.hid h
  have HK := Lib.hid k
  have HB := Lib.hid (Below.refl w.heap.size w)
  clear h k
  by_cases hnm : n = m
  · subst hnm
    go_enter Tryd.func72, Tryd.ntmps72
    go_wp2_with fail
    go_loopw [5] (fun s wr => ∃ (j : Nat), j ≤ n ∧ s = .int .i64 j ∧ a.take j = b.take j ∧ Below w.heap.size w wr) (fun s _ => n - (intOf s).toNat)
    case atStart => exact ⟨0, Nat.zero_le _, rfl, rfl, HB.out⟩
    case round =>
      obtain ⟨j, hj, rfl, htk, hbr⟩ := hrel
      have HTK := Lib.hid htk
      have HBR := Lib.hid hbr
      have HBN := Lib.hid (fun k => below_drewN hbr k)
      by_cases hlt : j < n
      · have hja : j < a.length := by omega
        have hjb : j < b.length := by omega
        have hj1 : (j : Int) < (n : Int) := by omega
        have hj0 : (0 : Int) ≤ (j : Int) := by omega
        obtain ⟨b1, o1, rfl, hbb1, hc1⟩ := HA.out.pc hbr hlt
        obtain ⟨b2, o2, rfl, hbb2, hc2⟩ := HK.out.pc hbr hlt
        obtain ⟨p0, p1, p2⟩ := hc1 hja
        obtain ⟨q0, q1, q2⟩ := hc2 hjb
        clear hc1 hc2 htk hbr
        by_cases he : a[j] = b[j]
        · have HTS := Lib.hid (same_take hja hjb HTK.out he)
          rw [he] at p0 p1 p2
          generalize b[j] = q at *
          clear he
          go_wp2_with fail
          go_quiet (fail)
          go_wp2_with fail
          go_roundw
          case rel => exact ⟨j + 1, by omega, by go_num, HTS.out, HBN.out _⟩
          case measure => simp [intOf]; omega
        · have HE := Lib.hid (same_step hja hjb (by omega) HTK.out he)
          have HNE := Lib.hid he
          generalize a[j] = p at *
          generalize b[j] = q at *
          clear he
          by_cases e1 : p.k = q.k
          · by_cases e2 : p.n = q.n
            · have e3 : p.t ≠ q.t := fun e => HNE.out (pc_ext e1 e2 e)
              have b4 : (p.t.toList == q.t.toList) = false := by
                rw [beq_eq_false_iff_ne, ByteArray.toList_eq, ByteArray.toList_eq]
                exact fun e => e3 (ByteArray.ext (Array.toList_inj.1 e))
              have b3 : (p.t == q.t) = false := by
                show (p.t.data == q.t.data) = false
                rw [beq_eq_false_iff_ne]
                exact fun e => e3 (ByteArray.ext e)
              clear e3
              rw [e1] at p0
              rw [e2] at p1
              clear e1 e2
              go_wp2_with fail
              go_quiet (fail)
              go_wp2_with fail
              go_ret
              exact ⟨by rw [HE.out] <;> rfl, HBN.out _⟩
            · have b2 : (p.n == q.n) = false := by rw [beq_eq_false_iff_ne]; exact e2
              rw [e1] at p0
              clear e1 e2
              go_wp2_with fail
              go_quiet (fail)
              go_wp2_with fail
              go_ret
              exact ⟨by rw [HE.out] <;> rfl, HBN.out _⟩
          · have b1 : (p.k == q.k) = false := by rw [beq_eq_false_iff_ne]; exact e1
            clear e1
            go_wp2_with fail
            go_quiet (fail)
            go_wp2_with fail
            go_ret
            exact ⟨by rw [HE.out] <;> rfl, HBN.out _⟩
      · obtain rfl : j = n := by omega
        have HE := Lib.hid (show sameL a b = true by
          unfold sameL
          have h := HTK.out
          rw [List.take_of_length_le (by omega), List.take_of_length_le (by omega)] at h
          exact decide_eq_true h)
        go_wp2_with fail
        go_ret
        exact ⟨by rw [HE.out] <;> rfl, HBR.out⟩
  · have HE := Lib.hid (show sameL a b = false by
      unfold sameL
      rw [decide_eq_false_iff_not]
      rintro rfl
      omega)
    have hb : ((n : Int) == (m : Int)) = false := by rw [beq_eq_false_iff_ne]; omega
    go_enter Tryd.func72, Tryd.ntmps72
    go_wp2_with fail
    go_ret
    exact ⟨by rw [HE.out] <;> rfl, HB.out⟩

def itemEq (k k' f f' u u' : Int) (l l' : List Pc) : Bool := (k == k') && (f == f') && (u == u') && sameL l l'
set_option maxRecDepth 100000 in
set_option maxHeartbeats 4000000 in
theorem kitItem_any (k k' f f' u u' : Int) (ao bo : Option Addr) (n c m x : Nat) (l l' : List Pc) (w : World) (h : IsR fP w ao n l) (g : IsR fP w bo m l') (hn : n ≤ 9223372036854775807) :
    Calls Tryd.prog 35 #[.agg #[.int .u8 k, .int .i64 f, .int .i64 u, .slice ao n c], .agg #[.int .u8 k', .int .i64 f', .int .i64 u', .slice bo m x]] w fun e w' => e = .returned (.bool (itemEq k k' f f' u u' l l')) ∧ Below w.heap.size w w' := by
  have hb0 := ((Below.refl w.heap.size w).alloc (Nat.le_refl _) (.cells #[.int .u8 k, .int .i64 f, .int .i64 u, .slice ao n c] 27)).alloc (by simp) (.cells #[.int .u8 k', .int .i64 f', .int .i64 u', .slice bo m x] 27)
  have HB := Lib.hid hb0
  have HC := Lib.hid (kitPieces_any ao bo n c m x l l' _ (h.later hb0) (g.later hb0) hn)
  clear hb0 h g
  by_cases hk : k = k'
  · subst hk
    by_cases hf : f = f'
    · subst hf
      by_cases hu : u = u'
      · subst hu
        have HE := Lib.hid (show itemEq k k f f u u l l' = sameL l l' by simp [itemEq])
        go_enter Tryd.func35, Tryd.ntmps35
        go_wp2_with fail
        refine (HC.out).mono ?_; rintro e w1 ⟨rfl, hb1⟩
        have HB1 := Lib.hid (below_two HB.out hb1)
        clear hb1
        go_wp2_with fail
        go_ret
        exact ⟨by rw [HE.out] <;> rfl, HB1.out⟩
      · have HE := Lib.hid (show itemEq k k f f u u' l l' = false by simp [itemEq, hu])
        have bu : (u == u') = false := by rw [beq_eq_false_iff_ne]; exact hu
        clear hu
        go_enter Tryd.func35, Tryd.ntmps35
        go_wp2_with fail
        go_ret
        exact ⟨by rw [HE.out] <;> rfl, HB.out⟩
    · have HE := Lib.hid (show itemEq k k f f' u u' l l' = false by simp [itemEq, hf])
      have bf : (f == f') = false := by rw [beq_eq_false_iff_ne]; exact hf
      clear hf
      go_enter Tryd.func35, Tryd.ntmps35
      go_wp2_with fail
      go_ret
      exact ⟨by rw [HE.out] <;> rfl, HB.out⟩
  · have HE := Lib.hid (show itemEq k k' f f' u u' l l' = false by simp [itemEq, hk])
    have bk : (k == k') = false := by rw [beq_eq_false_iff_ne]; exact hk
    clear hk
    go_enter Tryd.func35, Tryd.ntmps35
    go_wp2_with fail
    go_ret
    exact ⟨by rw [HE.out] <;> rfl, HB.out⟩

def resEq (r s : Rs) : Bool := (r.e == s.e) && (r.rev == s.rev) && (r.sl == s.sl) && (r.a == s.a) && (r.gr == s.gr) && decide (r.t = s.t) && (r.mb == s.mb) && (r.mr == s.mr) && (r.ml == s.ml) && itemEq r.ik s.ik r.fr s.fr r.tu s.tu r.d s.d
theorem resEq_iff (r s : Rs) : resEq r s = true ↔ r = s := by
  obtain ⟨e, rev, sl, a, gr, t, mb, mr, ml, ik, fr, tu, d⟩ := r
  obtain ⟨e', rev', sl', a', gr', t', mb', mr', ml', ik', fr', tu', d'⟩ := s
  simp only [resEq, itemEq, sameL, Bool.and_eq_true, beq_iff_eq, decide_eq_true_eq, Rs.mk.injEq, and_assoc]
set_option maxRecDepth 100000 in
set_option maxHeartbeats 8000000 in
theorem kitResult_any (r s : Rs) (ao bo : Option Addr) (n c m x : Nat) (w : World) (h : IsR fP w ao n r.d) (g : IsR fP w bo m s.d) (hn : n ≤ 9223372036854775807) :
    Calls Tryd.prog 14 #[.agg (rsV r ao n c), .agg (rsV s bo m x)] w fun e w' => e = .returned (.bool (resEq r s)) ∧ Below w.heap.size w w' := by
  obtain ⟨e, rev, sl, a, gr, t, mb, mr, ml, ik, fr, tu, d⟩ := r
  obtain ⟨e', rev', sl', a', gr', t', mb', mr', ml', ik', fr', tu', d'⟩ := s
  simp only at h g
  simp only [rsV]
  have hb0 := ((Below.refl w.heap.size w).alloc (Nat.le_refl _) (.cells #[.int .i64 e, .int .i64 rev, .int .i64 sl, .int .i64 a, .int .u8 gr, .string t, .int .i64 mb, .int .i64 mr, .int .i64 ml, .int .u8 ik, .int .i64 fr, .int .i64 tu, .slice ao n c] 29)).alloc (by simp) (.cells #[.int .i64 e', .int .i64 rev', .int .i64 sl', .int .i64 a', .int .u8 gr', .string t', .int .i64 mb', .int .i64 mr', .int .i64 ml', .int .u8 ik', .int .i64 fr', .int .i64 tu', .slice bo m x] 29)
  have HB := Lib.hid hb0
  have HC := Lib.hid (kitItem_any ik ik' fr fr' tu tu' ao bo n c m x d d' _ (h.later hb0) (g.later hb0) hn)
  clear hb0 h g
  by_cases he : e = e'
  · subst he
    by_cases hrev : rev = rev'
    · subst hrev
      by_cases hsl : sl = sl'
      · subst hsl
        by_cases ha : a = a'
        · subst ha
          by_cases hgr : gr = gr'
          · subst hgr
            by_cases ht : t = t'
            · subst ht
              by_cases hmb : mb = mb'
              · subst hmb
                by_cases hmr : mr = mr'
                · subst hmr
                  by_cases hml : ml = ml'
                  · subst hml
                    have HE := Lib.hid (show resEq ⟨e, rev, sl, a, gr, t, mb, mr, ml, ik, fr, tu, d⟩ ⟨e, rev, sl, a, gr, t, mb, mr, ml, ik', fr', tu', d'⟩ = itemEq ik ik' fr fr' tu tu' d d' by simp [resEq])
                    go_enter Tryd.func14, Tryd.ntmps14
                    go_wp2_with fail
                    refine (HC.out).mono ?_; rintro e w1 ⟨rfl, hb1⟩
                    have HB1 := Lib.hid (below_two HB.out hb1)
                    clear hb1
                    go_wp2_with fail
                    go_ret
                    exact ⟨by rw [HE.out] <;> rfl, HB1.out⟩
                  · have HE := Lib.hid (show resEq ⟨e, rev, sl, a, gr, t, mb, mr, ml, ik, fr, tu, d⟩ ⟨e, rev, sl, a, gr, t, mb, mr, ml', ik', fr', tu', d'⟩ = false by simp [resEq, hml])
                    have bml : (ml == ml') = false := by rw [beq_eq_false_iff_ne]; exact hml
                    clear hml
                    go_enter Tryd.func14, Tryd.ntmps14
                    go_wp2_with fail
                    go_ret
                    exact ⟨by rw [HE.out] <;> rfl, HB.out⟩
                · have HE := Lib.hid (show resEq ⟨e, rev, sl, a, gr, t, mb, mr, ml, ik, fr, tu, d⟩ ⟨e, rev, sl, a, gr, t, mb, mr', ml', ik', fr', tu', d'⟩ = false by simp [resEq, hmr])
                  have bmr : (mr == mr') = false := by rw [beq_eq_false_iff_ne]; exact hmr
                  clear hmr
                  go_enter Tryd.func14, Tryd.ntmps14
                  go_wp2_with fail
                  go_ret
                  exact ⟨by rw [HE.out] <;> rfl, HB.out⟩
              · have HE := Lib.hid (show resEq ⟨e, rev, sl, a, gr, t, mb, mr, ml, ik, fr, tu, d⟩ ⟨e, rev, sl, a, gr, t, mb', mr', ml', ik', fr', tu', d'⟩ = false by simp [resEq, hmb])
                have bmb : (mb == mb') = false := by rw [beq_eq_false_iff_ne]; exact hmb
                clear hmb
                go_enter Tryd.func14, Tryd.ntmps14
                go_wp2_with fail
                go_ret
                exact ⟨by rw [HE.out] <;> rfl, HB.out⟩
            · have HE := Lib.hid (show resEq ⟨e, rev, sl, a, gr, t, mb, mr, ml, ik, fr, tu, d⟩ ⟨e, rev, sl, a, gr, t', mb', mr', ml', ik', fr', tu', d'⟩ = false by simp [resEq, ht])
              have b4 : (t.toList == t'.toList) = false := by
                rw [beq_eq_false_iff_ne, ByteArray.toList_eq, ByteArray.toList_eq]
                exact fun e => ht (ByteArray.ext (Array.toList_inj.1 e))
              have b3 : (t == t') = false := by
                show (t.data == t'.data) = false
                rw [beq_eq_false_iff_ne]
                exact fun e => ht (ByteArray.ext e)
              clear ht
              go_enter Tryd.func14, Tryd.ntmps14
              go_wp2_with fail
              go_ret
              exact ⟨by rw [HE.out] <;> rfl, HB.out⟩
          · have HE := Lib.hid (show resEq ⟨e, rev, sl, a, gr, t, mb, mr, ml, ik, fr, tu, d⟩ ⟨e, rev, sl, a, gr', t', mb', mr', ml', ik', fr', tu', d'⟩ = false by simp [resEq, hgr])
            have bgr : (gr == gr') = false := by rw [beq_eq_false_iff_ne]; exact hgr
            clear hgr
            go_enter Tryd.func14, Tryd.ntmps14
            go_wp2_with fail
            go_ret
            exact ⟨by rw [HE.out] <;> rfl, HB.out⟩
        · have HE := Lib.hid (show resEq ⟨e, rev, sl, a, gr, t, mb, mr, ml, ik, fr, tu, d⟩ ⟨e, rev, sl, a', gr', t', mb', mr', ml', ik', fr', tu', d'⟩ = false by simp [resEq, ha])
          have ba : (a == a') = false := by rw [beq_eq_false_iff_ne]; exact ha
          clear ha
          go_enter Tryd.func14, Tryd.ntmps14
          go_wp2_with fail
          go_ret
          exact ⟨by rw [HE.out] <;> rfl, HB.out⟩
      · have HE := Lib.hid (show resEq ⟨e, rev, sl, a, gr, t, mb, mr, ml, ik, fr, tu, d⟩ ⟨e, rev, sl', a', gr', t', mb', mr', ml', ik', fr', tu', d'⟩ = false by simp [resEq, hsl])
        have bsl : (sl == sl') = false := by rw [beq_eq_false_iff_ne]; exact hsl
        clear hsl
        go_enter Tryd.func14, Tryd.ntmps14
        go_wp2_with fail
        go_ret
        exact ⟨by rw [HE.out] <;> rfl, HB.out⟩
    · have HE := Lib.hid (show resEq ⟨e, rev, sl, a, gr, t, mb, mr, ml, ik, fr, tu, d⟩ ⟨e, rev', sl', a', gr', t', mb', mr', ml', ik', fr', tu', d'⟩ = false by simp [resEq, hrev])
      have brev : (rev == rev') = false := by rw [beq_eq_false_iff_ne]; exact hrev
      clear hrev
      go_enter Tryd.func14, Tryd.ntmps14
      go_wp2_with fail
      go_ret
      exact ⟨by rw [HE.out] <;> rfl, HB.out⟩
  · have HE := Lib.hid (show resEq ⟨e, rev, sl, a, gr, t, mb, mr, ml, ik, fr, tu, d⟩ ⟨e', rev', sl', a', gr', t', mb', mr', ml', ik', fr', tu', d'⟩ = false by simp [resEq, he])
    have be : (e == e') = false := by rw [beq_eq_false_iff_ne]; exact he
    clear he
    go_enter Tryd.func14, Tryd.ntmps14
    go_wp2_with fail
    go_ret
    exact ⟨by rw [HE.out] <;> rfl, HB.out⟩

end Go.Proofs.YtdfkbahlngijcaaDoor
