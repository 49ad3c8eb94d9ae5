/- Deltas: slices.Grow of nil, slices.Concat: their walks. -/
import Derived.Test.YtkocknhpnmkicaaDoorDyd
import Derived.Lib.AppendZeros
import Derived.Laws.AppendOwnNone
namespace Go.Proofs.YtkocknhpnmkicaaDoor
open Go.RowKit
set_option linter.unusedVariables false

theorem own_zeros (w w1 : World) (B n cap : Nat) (hB : B ≤ w.heap.size) (hb : w1.heap[w.heap.size]? = some (.cells (Builtin.zeroCells (Value.agg #[.int .u8 0, .int .i64 0, .string ByteArray.empty]).cells n ++ Builtin.zeroCells (Value.agg #[.int .u8 0, .int .i64 0, .string ByteArray.empty]).cells (cap - n)) 38 (0, 0))) (hn : n ≤ cap) (hm : cap ≤ maxLen) :
    w1.ownsRow B 38 3 (.slice (some ⟨w.heap.size, 0, none⟩) 0 cap) 0 (flatR fP []) := by
  refine ⟨rfl, .inr ⟨w.heap.size, cap, _, rfl, hB, hb, Nat.zero_le _, hm, ?_, rfl⟩⟩
  simp [size_zeroCells, Value.cells]
  omega
set_option maxRecDepth 100000 in
set_option maxHeartbeats 4000000 in
theorem grow_any (n : Nat) (w : World) (hn : n * 32 ≤ 140737488355328) : Calls Tryd.prog 64 #[.slice none 0 0, .int .i64 n] w (Owned w []) := by
  obtain ⟨i0, hi0, hz0, hz1, hz2⟩ := info_parts infoPc
  have HB0 := Lib.hid (Below.refl w.heap.size w)
  by_cases h0 : 0 < n
  · have happ := Lib.run_append_nil_zeros (P := Tryd.prog) w 22 3 22 38 i0 (.agg #[.int .u8 0, .int .i64 0, .string ByteArray.empty]) .i64 .i64 Tryd.underlying22 Tryd.underlying3 hi0 hz0 n h0 (by omega) (by omega) (by rw [hz2]; omega)
    generalize hcap : grownCap w n 0 38 = cap at happ
    have hge : n ≤ cap := by rw [← hcap]; exact grownCap_ge w _ 0 _
    have hle : cap ≤ maxLen := by rw [← hcap]; exact grownCap_le_maxLen w _ 0 _ (by unfold maxLen; omega)
    have HOZ := Lib.hid (fun (w1 : World) hb => own_zeros w w1 w.heap.size n cap (Nat.le_refl _) hb hge hle)
    generalize (Builtin.zeroCells (Value.agg #[.int .u8 0, .int .i64 0, .string ByteArray.empty]).cells n ++ Builtin.zeroCells (Value.agg #[.int .u8 0, .int .i64 0, .string ByteArray.empty]).cells (cap - n)) = Z at *
    clear hcap
    have hn1 : (0 : Int) < (n : Int) := by omega
    go_enter Tryd.func64, Tryd.ntmps64
    go_wp2_with (at_builtin; refine Lib.wpList_append_run _ rfl _ _ _ _ rfl _ _ rfl rfl _ _ happ ?_)
    go_wp2_with fail
    go_ret
    exact ⟨_, rfl, HOZ.out _ (by first | exact block_new _ _ | exact heap_alloc_new w _), by first | exact (HB0.out.alloc (Nat.le_refl _) _).drew | exact HB0.out.drew.alloc (Nat.le_refl _) _⟩
  · obtain rfl : n = 0 := by omega
    go_enter Tryd.func64, Tryd.ntmps64
    go_wp2_with fail
    go_ret
    exact ⟨_, rfl, own_nil _ _, HB0.out⟩

structure Sl where
  a : Option Addr
  n : Nat
  c : Nat
  l : List Pc
def fS (s : Sl) : List Value := [.slice s.a s.n s.c]
theorem fS_len (s : Sl) : (fS s).length = 1 := rfl
/-- a row of rows of pieces: each has an address (if it holds any), and the pieces lie there -/
def IsLs (w : World) (ao : Option Addr) (m : Nat) (ss : List Sl) : Prop := IsR fS w ao m ss ∧ ∀ s ∈ ss, IsR fP w s.a s.n s.l ∧ (s.a = none → s.n = 0 ∧ s.c = 0)
theorem IsLs.later {w w' : World} {ao : Option Addr} {m : Nat} {ss : List Sl} (h : IsLs w ao m ss) (hb : Below w.heap.size w w') : IsLs w' ao m ss :=
  ⟨h.1.later hb, fun s hs => ⟨(h.2 s hs).1.later hb, (h.2 s hs).2⟩⟩
theorem IsLs.at {w w' : World} {ao : Option Addr} {m : Nat} {ss : List Sl} (h : IsLs w ao m ss) (hb : Below w.heap.size w w') {j : Nat} (hj : j < m) :
    ∃ bb off, ao = some ⟨bb, off, none⟩ ∧ ∀ hl : j < ss.length, w'.cell? ⟨bb, off + j, none⟩ = some (.slice ss[j].a ss[j].n ss[j].c) ∧ IsR fP w' ss[j].a ss[j].n ss[j].l ∧ (ss[j].a = none → ss[j].n = 0 ∧ ss[j].c = 0) := by
  obtain ⟨bb, off, e, hbb, hc⟩ := h.1.2 (by omega)
  refine ⟨bb, off, e, fun hl => ⟨?_, (h.2 _ (List.getElem_mem hl)).1.later hb, (h.2 _ (List.getElem_mem hl)).2⟩⟩
  have hat := row_at fS_len (f := fS) (l := ss) hc j hl 0 _ rfl
  have e2 : off + j * 1 + 0 = off + j := by omega
  rw [e2] at hat
  exact (hb.cell (p := ⟨bb, off + j, none⟩) hbb).trans hat
def catL (ss : List Sl) : List Pc := ss.flatMap fun s => s.l
theorem catL_take {ss : List Sl} {j : Nat} (h : j < ss.length) : catL (ss.take (j + 1)) = catL (ss.take j) ++ ss[j].l := by
  unfold catL
  rw [List.take_succ_eq_append_getElem h, List.flatMap_append]
  simp
theorem catL_le (ss : List Sl) (j : Nat) : (catL (ss.take j)).length ≤ (catL ss).length := by
  have e : catL ss = catL (ss.take j) ++ catL (ss.drop j) := by
    unfold catL
    rw [← List.flatMap_append, List.take_append_drop]
  rw [e, List.length_append]
  omega

set_option maxRecDepth 100000 in
set_option maxHeartbeats 4000000 in
theorem concat_any (ao : Option Addr) (m c : Nat) (ss : List Sl) (w : World) (h : IsLs w ao m ss) (hm : m ≤ 9223372036854775807) (hn : (catL ss).length * 32 ≤ 140737488355328) :
    Calls Tryd.prog 54 #[.slice ao m c] w (Owned w (catL ss)) := by
  obtain ⟨i0, hi0, hz0, hz1, hz2⟩ := info_parts infoPc
  have hl := h.1.1
  have HA := Lib.hid h
  have HB := Lib.hid (Below.refl w.heap.size w)
  have HN := Lib.hid hn
  clear h hn
  go_enter Tryd.func54, Tryd.ntmps54
  go_wp2_with fail
  go_loopw [3, 5, 11] (fun s3 _ s11 wr => ∃ (j q : Nat), j ≤ m ∧ s11 = .int .i64 j ∧ q = (catL (ss.take j)).length ∧ s3 = .int .i64 q ∧ w = wr) (fun _ _ s _ => m - (intOf s).toNat)
  case atStart => exact ⟨0, 0, Nat.zero_le _, rfl, rfl, rfl, rfl⟩
  case round =>
    obtain ⟨j, q, hj, rfl, hq, rfl, rfl⟩ := hrel
    by_cases hlt : j < m
    · have hjs : j < ss.length := by omega
      have hj1 : (j : Int) < (m : Int) := by omega
      have hj0 : (0 : Int) ≤ (j : Int) := by omega
      obtain ⟨bb, off, rfl, hat⟩ := HA.out.at (Below.refl _ w) hlt
      obtain ⟨c0, hr, hnn⟩ := hat hjs
      have hct := catL_take hjs
      have hle := catL_le ss (j + 1)
      have hsl := hr.1
      have hnl := HN.out
      have HQ := Lib.hid (show q + ss[j].n = (catL (ss.take (j + 1))).length by rw [hct, List.length_append, hsl]; omega)
      have hq1 : q + ss[j].n ≤ 4398046511104 := by have := HQ.out; omega
      have hq2 : ¬ ((q : Int) + (ss[j].n : Int) < 0) := by omega
      clear hat hr hnn hct hle hsl hnl hq
      generalize ss[j] = s at *
      obtain ⟨sa, sn, sc, sl⟩ := s
      have HQ2 := Lib.hid (show q + sn = _ from HQ.out)
      have hq3 : q + sn ≤ 4398046511104 := hq1
      have hq4 : ¬ ((q : Int) + (sn : Int) < 0) := hq2
      clear HQ hq1 hq2
      go_wp2_with fail
      go_roundw
      case rel => exact ⟨j + 1, q + sn, by omega, by go_num, HQ2.out, by go_num, trivial⟩
      case measure => simp [intOf]; omega
    · obtain rfl : j = m := by omega
      have HQ := Lib.hid (show q = (catL ss).length by rw [hq, List.take_of_length_le (by omega)])
      have HG := Lib.hid (grow_any q w (by rw [HQ.out]; exact HN.out))
      have hj1 : ¬ ((j : Int) < (j : Int)) := by omega
      clear hq
      go_wp2_with fail
      refine (HG.out).mono ?_; rintro e w1 ⟨v1, rfl, hown1, hb1⟩
      have HO1 := Lib.hid hown1
      have HB1 := Lib.hid hb1
      clear hown1 hb1 HG
      go_wp2_with fail
      go_loopw [6, 8, 27] (fun s6 _ s27 wr => ∃ (k : Nat), k ≤ j ∧ s27 = .int .i64 k ∧ wr.ownsRow w.heap.size 38 3 s6 (catL (ss.take k)).length (flatR fP (catL (ss.take k))) ∧ Below w.heap.size w wr) (fun _ _ s _ => j - (intOf s).toNat)
      case atStart => exact ⟨0, Nat.zero_le _, rfl, HO1.out, HB1.out⟩
      case round =>
        obtain ⟨k, hk, rfl, hown, hbr⟩ := hrel
        generalize wr = w3 at *
        have HO := Lib.hid hown
        have HB3 := Lib.hid hbr
        by_cases hlt : k < j
        · have hks : k < ss.length := by omega
          have hk1 : (k : Int) < (j : Int) := by omega
          have hk0 : (0 : Int) ≤ (k : Int) := by omega
          obtain ⟨bb, off, rfl, hat⟩ := HA.out.at hbr hlt
          obtain ⟨c0, hr, hnn⟩ := hat hks
          have hct := catL_take hks
          have hle := catL_le ss (k + 1)
          have hnl := HN.out
          have hsl := hr.1
          have hqs : (catL (ss.take k)).length + ss[k].n ≤ 4398046511104 := by rw [hct, List.length_append, hsl] at hle; omega
          have HCT := Lib.hid hct
          have HR := Lib.hid hr
          have HNN := Lib.hid hnn
          clear hat hr hnn hct hle hnl hown hbr
          generalize ss[k] = s at *
          obtain ⟨sa, sn, sc, sl⟩ := s
          obtain ⟨q, hq⟩ : ∃ q, q = (catL (ss.take k)).length := ⟨_, rfl⟩
          have HQ := Lib.hid hq
          have HO2 := Lib.hid (show w3.ownsRow w.heap.size 38 3 u6 q (flatR fP (catL (ss.take k))) by rw [hq]; exact HO.out)
          have hqn : q + sn ≤ 4398046511104 := by rw [hq]; exact hqs
          have HS := Lib.hid (show sl.length = sn from hsl)
          have hsz := HB3.out.size
          clear hqs hsl hq HO
          rcases sa with _ | ad
          · obtain ⟨e1, e2⟩ := HNN.out rfl
            simp only at e1 e2
            subst e1
            subst e2
            have HE := Lib.hid (show catL (ss.take (k + 1)) = catL (ss.take k) by
              rw [HCT.out, show sl = [] from List.eq_nil_of_length_eq_zero HS.out, List.append_nil])
            go_wp2_with (at_builtin; go_loud (refine wpList_append_own_none rfl _ _ 22 rfl w.heap.size 38 i0 3 Tryd.underlying22 hi0 _ q (flatR fP (catL (ss.take k))) rfl HO2.out rfl ?_))
            go_wp2_with fail
            go_roundw
            case rel => exact ⟨k + 1, by omega, by go_num, by rw [HE.out, ← HQ.out]; exact HO2.out, HB3.out⟩
            case measure => simp [intOf]; omega
          · have HNW := Lib.hid (show ∀ i u, (flatR fP sl)[i]? = some u → w3.cell? (ad.add i) = some u from fun i u hi => by
              by_cases h0 : 0 < sn
              · exact HR.out.news h0 i u hi
              · obtain rfl : sl = [] := List.eq_nil_of_length_eq_zero (by have := HS.out; omega)
                simp [flatR] at hi)
            have HL := Lib.hid (show (flatR fP sl).length = sn * 3 by rw [flatR_len fP_len, HS.out])
            go_wp2_with (at_builtin; go_loud (refine wpList_append_own _ rfl _ _ 22 rfl w.heap.size 38 i0 (.agg #[.int .u8 0, .int .i64 0, .string ByteArray.empty]) 3 32 Tryd.underlying22 hi0 hz0 hz1 hz2 rfl (by decide) _ q (flatR fP (catL (ss.take k))) rfl HO2.out ad sn sc (flatR fP sl) rfl HL.out HNW.out (flatP_one sl) (by unfold maxLen; omega) (by omega) (by omega) ?c1))
            case c1 =>
              intro v4 w4 hown4 hgrow4 hnil4
              have HO4 := Lib.hid (show w4.ownsRow w.heap.size 38 3 v4 (catL (ss.take (k + 1))).length (flatR fP (catL (ss.take (k + 1)))) by
                rw [HCT.out, flatR_app]
                refine own_len hown4 ?_
                rw [List.length_append, ← HQ.out]
                show q + sn = q + sl.length
                rw [HS.out])
              have HB4 := Lib.hid (HB3.out.grown hgrow4 hsz fun q hq => (own_typS HO2.out hq).1)
              clear hown4 hgrow4 hnil4
              go_wp2_with fail
              go_roundw
              case rel => exact ⟨k + 1, by omega, by go_num, HO4.out, HB4.out⟩
              case measure => simp [intOf]; omega
        · obtain rfl : k = j := by omega
          have HE := Lib.hid (show w3.ownsRow w.heap.size 38 3 _ (catL ss).length (flatR fP (catL ss)) by
            have h := HO.out
            rw [List.take_of_length_le (by omega)] at h
            exact h)
          clear hown HO hbr
          go_wp2_with fail
          go_ret
          exact ⟨_, rfl, HE.out, HB3.out⟩

end Go.Proofs.YtkocknhpnmkicaaDoor
