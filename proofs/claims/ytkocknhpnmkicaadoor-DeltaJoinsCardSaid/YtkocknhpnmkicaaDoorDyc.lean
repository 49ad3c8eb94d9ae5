/- Deltas: Atoms: its walk. -/
import Derived.Test.YtkocknhpnmkicaaDoorDyb
namespace Go.Proofs.YtkocknhpnmkicaaDoor
open Go.RowKit
set_option linter.unusedVariables false

theorem infoI : (Tryd.prog.info? 3).map (fun i => (i.zero, i.size, i.bytes)) = some (some (.int .i64 0), 1, 8) := by kernel_rfl
theorem atoms_append : ∀ (u v : List Dp) (a : Nat), Dp.atoms a (u ++ v) = Dp.atoms a u ++ Dp.atoms (a + Dp.sI u) v
  | [], v, a => by simp [Dp.atoms, Dp.sI]
  | .ret n :: u, v, a => by
    show _ ++ Dp.atoms (a + n) (u ++ v) = (_ ++ Dp.atoms (a + n) u) ++ Dp.atoms (a + (n + Dp.sI u)) v
    rw [atoms_append u v (a + n), List.append_assoc, Nat.add_assoc]
  | .ins t :: u, v, a => by
    show _ ++ Dp.atoms a (u ++ v) = (_ ++ Dp.atoms a u) ++ Dp.atoms (a + (0 + Dp.sI u)) v
    rw [atoms_append u v a, List.append_assoc, Nat.zero_add]
  | .del n :: u, v, a => by
    show Dp.atoms (a + n) (u ++ v) = Dp.atoms (a + n) u ++ Dp.atoms (a + (n + Dp.sI u)) v
    rw [atoms_append u v (a + n), Nat.add_assoc]
theorem atoms_len : ∀ (u : List Dp) (a : Nat), (Dp.atoms a u).length = Dp.sO u
  | [], a => rfl
  | .ret n :: u, a => by
    show (_ ++ Dp.atoms (a + n) u).length = n + Dp.sO u
    rw [List.length_append, atoms_len u, List.length_map, List.length_range]
  | .ins t :: u, a => by
    show (_ ++ Dp.atoms a u).length = t.length + Dp.sO u
    rw [List.length_append, atoms_len u, List.length_map]
  | .del n :: u, a => by
    show (Dp.atoms (a + n) u).length = 0 + Dp.sO u
    rw [atoms_len u, Nat.zero_add]
def atL (l : List Pc) : List Int := Dp.atoms 0 (l.map ofP)
def negL (t : List UInt8) : List Int := t.map fun b => -1 - (b.toNat : Int)
def rngL (a k : Nat) : List Int := (List.range k).map fun (i : Nat) => ((a + i : Nat) : Int)
def keptN (p : Pc) : Nat := if p.k = 1 then p.n.toNat else 0
theorem negL_len (t : List UInt8) : (negL t).length = t.length := List.length_map _
theorem rngL_len (a k : Nat) : (rngL a k).length = k := by unfold rngL; rw [List.length_map, List.length_range]
theorem rngL_succ (a k : Nat) : rngL a (k + 1) = rngL a k ++ [((a + k : Nat) : Int)] := by
  unfold rngL
  rw [List.range_succ, List.map_append, List.map_cons, List.map_nil]
theorem negL_succ (t : ByteArray) {i : Nat} (h : i < t.size) : negL (t.data.toList.take (i + 1)) = negL (t.data.toList.take i) ++ [-1 - (t[i].toNat : Int)] := by
  have h2 : i < t.data.toList.length := h
  unfold negL
  rw [List.take_succ_eq_append_getElem h2, List.map_append, List.map_cons, List.map_nil]
  rfl
theorem negL_all (t : ByteArray) : negL (t.data.toList.take t.size) = negL t.data.toList := by
  show negL (t.data.toList.take t.data.toList.length) = _
  rw [List.take_length]
theorem atoms_pc {p : Pc} (h : okP p = true) (a : Nat) : Dp.atoms a [ofP p] = negL p.t.data.toList ++ rngL a (keptN p) := by
  rcases okP_cases h with ⟨h1, h2, h3⟩ | ⟨h1, h2, h3⟩ | ⟨h1, h2, h3⟩
  · have e : p.t.data.toList = [] := List.eq_nil_of_length_eq_zero h3
    unfold ofP keptN
    rw [h1, e]
    simp [Dp.atoms, negL, rngL]
  · have e : p.t.data.toList = [] := List.eq_nil_of_length_eq_zero h3
    unfold ofP keptN
    rw [h1, e]
    simp [Dp.atoms, negL, rngL]
  · unfold ofP keptN
    rw [h1]
    simp [Dp.atoms, negL, rngL]
theorem atL_succ {l : List Pc} {j : Nat} (h : j < l.length) (hp : okP l[j] = true) : atL (l.take (j + 1)) = atL (l.take j) ++ negL l[j].t.data.toList ++ rngL (sIP (l.take j)) (keptN l[j]) := by
  unfold atL
  rw [List.take_succ_eq_append_getElem h, List.map_append, atoms_append, List.map_cons, List.map_nil, atoms_pc hp, Nat.zero_add, List.append_assoc]
  rfl
theorem atL_len (l : List Pc) : (atL l).length = sOP l := atoms_len _ _
theorem flatI (l : List Int) (x : Int) : flatR fI l ++ [.int .i64 x] = flatR fI (l ++ [x]) := by
  rw [flatR_app, flatR_one]
  rfl
def NewI (w : World) (l : List Int) (e : Ending) (w' : World) : Prop := ∃ v, e = .returned v ∧ w'.ownsRow w.heap.size 3 1 v l.length (flatR fI l) ∧ Below w.heap.size w w'
theorem inn_nat {p : Pc} (h : okP p = true) : p.n = ((ofP p).inn : Int) := by
  rcases okP_cases h with ⟨h1, h2, h3⟩ | ⟨h1, h2, h3⟩ | ⟨h1, h2, h3⟩
  · unfold ofP; rw [h1]; show p.n = (p.n.toNat : Int); omega
  · unfold ofP; rw [h1]; show p.n = (p.n.toNat : Int); omega
  · unfold ofP; rw [h1]; show p.n = ((0 : Nat) : Int); omega

set_option maxRecDepth 100000 in
set_option maxHeartbeats 4000000 in
theorem atoms_any (ao : Option Addr) (n c : Nat) (l : List Pc) (w : World) (h : IsR fP w ao n l) (hok : AllOk l) (hI : sIP l ≤ 1048576) (hO : sOP l ≤ 1048576) (hn : n ≤ 4096) :
    Calls Tryd.prog 35 #[.slice ao n c] w (NewI w (atL l)) := by
  obtain ⟨i0, hi0, hz0, hz1, hz2⟩ := info_parts infoI
  have hl := h.1
  have HR := Lib.hid h
  have HOK := Lib.hid hok
  clear h hok
  go_enter Tryd.func35, Tryd.ntmps35
  go_wp2_with fail
  go_loopw [3, 4, 5, 6, 7] (fun s3 s4 s5 _ _ wr => ∃ (j : Nat), j ≤ n ∧ s5 = .int .i64 j ∧ s4 = .int .i64 (sIP (l.take j)) ∧ wr.ownsRow w.heap.size 3 1 s3 (atL (l.take j)).length (flatR fI (atL (l.take j))) ∧ Below w.heap.size w wr) (fun _ _ s _ _ _ => n - (intOf s).toNat)
  case atStart => exact ⟨0, Nat.zero_le _, rfl, rfl, ⟨rfl, .inl ⟨rfl, rfl⟩⟩, Below.refl _ _⟩
  case round =>
    obtain ⟨j, hj, rfl, rfl, hown, hbr⟩ := hrel
    generalize wr = w3 at *
    have HOW := Lib.hid hown
    have HBR := Lib.hid hbr
    clear hown hbr
    by_cases hlt : j < n
    · have hjl : j < l.length := by omega
      have hj1 : (j : Int) < (n : Int) := by omega
      have hj0 : (0 : Int) ≤ (j : Int) := by omega
      obtain ⟨bb, off, rfl, hbb, hcl⟩ := HR.out.pc (Below.refl _ w) hlt
      obtain ⟨c0, c1, c2⟩ := hcl hjl
      have hpk := HOK.out l[j] (List.getElem_mem hjl)
      have HAT := Lib.hid (atL_succ hjl hpk)
      have hT := take_le (l := l) j
      have hT1 := take_le (l := l) (j + 1)
      have hts := take_sums hjl
      have HTS := Lib.hid hts
      have hin := inn_nat hpk
      have hkn : keptN l[j] ≤ sOP (l.take (j + 1)) := by
        have h2 := atL_len (l.take (j + 1))
        rw [atL_succ hjl hpk, List.length_append, rngL_len] at h2
        omega
      have hpt : l[j].t.size ≤ sOP (l.take (j + 1)) := by
        have h2 := atL_len (l.take (j + 1))
        rw [atL_succ hjl hpk, List.length_append, List.length_append, negL_len] at h2
        have e : l[j].t.data.toList.length = l[j].t.size := rfl
        omega
      have hpre := atL_len (l.take j)
      clear hcl
      generalize l[j] = p at *
      obtain ⟨x, hx⟩ : ∃ x, x = sIP (l.take j) := ⟨_, rfl⟩
      obtain ⟨A, hA⟩ : ∃ A, A = atL (l.take j) := ⟨_, rfl⟩
      rw [← hx] at HTS HAT hT ⊢
      rw [← hA] at HAT HOW hpre
      obtain ⟨m, hm⟩ : ∃ m, m = (ofP p).inn := ⟨_, rfl⟩
      rw [← hm] at HTS hin
      have htm := HTS.out.1
      have hxm : x + m ≤ 1048576 := by omega
      have hAl : A.length ≤ 1048576 := by omega
      have hkl : keptN p ≤ 1048576 := by omega
      have hpl : p.t.size ≤ 1048576 := by omega
      rw [hin] at c1
      have HC0 := Lib.hid c0
      have HC1 := Lib.hid c1
      have HC2 := Lib.hid c2
      have HKN := Lib.hid (show keptN p = if p.k = 1 then m else 0 by unfold keptN; rw [hin]; rfl)
      clear hts hpk hT hT1 hkn hpt hpre hx hA hm htm c0 c1 c2 hin
      go_wp2_with fail
      go_loopw [3, 6] (fun s3 s6 wi => ∃ (i q : Nat), i ≤ p.t.size ∧ s6 = .int .i64 i ∧ q = A.length + i ∧ wi.ownsRow w.heap.size 3 1 s3 q (flatR fI (A ++ negL (p.t.data.toList.take i))) ∧ Below w.heap.size w wi) (fun _ s _ => p.t.size - (intOf s).toNat)
      case atStart => exact ⟨0, A.length, Nat.zero_le _, rfl, rfl, by simpa [negL] using HOW.out, HBR.out⟩
      case round =>
        obtain ⟨i, q, hi, rfl, hq, hown, hbr⟩ := hrel
        generalize wr = w4 at *
        have HQ := Lib.hid hq
        have hql : q ≤ 2097152 := by omega
        clear hq
        have HO := Lib.hid hown
        have HB := Lib.hid hbr
        have hsz := hbr.size
        have ct := (hbr.cell (p := ⟨bb, off + j * 3 + 2, none⟩) hbb).trans HC2.out
        clear hown hbr
        by_cases hlt2 : i < p.t.size
        · have hi1 : (i : Int) < (p.t.size : Int) := by omega
          have hi0' : (0 : Int) ≤ (i : Int) := by omega
          have hb := u8lt p.t[i]
          have HSU := Lib.hid (negL_succ p.t hlt2)
          go_wp2_with (at_builtin; refine wpList_append_lies _ rfl _ _ 50 rfl w.heap.size 3 i0 (.int .i64 0) 1 8 Tryd.underlying50 hi0 hz0 hz1 hz2 rfl (by decide) _ _ _ rfl (HO.out.alloc _) ⟨w4.heap.size, 0, none⟩ 1 1 [_] rfl rfl (World.news_of_block (cs := #[_]) (t := 3) (fr := (0, 0)) (heap_alloc_new w4 _)) (by simp [Value.oneCell']) (by omega) (by unfold maxLen; omega) (by omega) (by simp; omega) (w4.heap.size + 1) (by simp) ?c1)
          case c1 =>
            intro gg cap w5 hown5 hgrow hat hlt'
            have HO5 := Lib.hid (show w5.ownsRow w.heap.size 3 1 (.slice (some ⟨gg, 0, none⟩) (q + 1) cap) (q + 1) (flatR fI (A ++ negL (p.t.data.toList.take (i + 1)))) by
              rw [HSU.out, ← List.append_assoc, ← flatI]
              exact hown5)
            have HB5 := Lib.hid ((HB.out.alloc hsz _).grown hgrow (by simp; omega) fun q hq => (own_typS HO.out hq).1)
            clear hown5 hgrow hat hlt' ct
            go_wp2_with fail
            go_roundw
            case rel => exact ⟨i + 1, q + 1, by omega, by go_num, by have := HQ.out; omega, HO5.out, HB5.out⟩
            case measure => simp [intOf]; omega
        · have hi1 : ¬ ((i : Int) < (p.t.size : Int)) := by omega
          obtain rfl : i = p.t.size := by omega
          have HO2 := Lib.hid (show w4.ownsRow w.heap.size 3 1 _ q (flatR fI (A ++ negL p.t.data.toList)) by
            have h := HO.out
            rw [negL_all] at h
            exact h)
          clear HO
          obtain ⟨C, hC⟩ : ∃ C, C = A ++ negL p.t.data.toList := ⟨_, rfl⟩
          have hCl : C.length ≤ 2097152 := by
            rw [hC, List.length_append, negL_len]
            have e : p.t.data.toList.length = p.t.size := rfl
            omega
          have HQC := Lib.hid (show q = C.length by
            rw [hC, List.length_append, negL_len]
            have e : p.t.data.toList.length = p.t.size := rfl
            have := HQ.out
            omega)
          rw [← hC] at HO2 HAT
          clear hC
          go_wp2_with fail
          go_loopw [3, 7] (fun s3 s7 wi => ∃ (i r : Nat), i ≤ keptN p ∧ s7 = .int .i64 i ∧ r = q + i ∧ wi.ownsRow w.heap.size 3 1 s3 r (flatR fI (C ++ rngL x i)) ∧ Below w.heap.size w wi) (fun _ s _ => keptN p - (intOf s).toNat)
          case atStart => exact ⟨0, q, Nat.zero_le _, rfl, rfl, by simpa [rngL] using HO2.out, HB.out⟩
          case round =>
            obtain ⟨i, r, hi, rfl, hr, hown, hbr⟩ := hrel
            generalize wr = w6 at *
            have HRR := Lib.hid hr
            have hrl : r ≤ 4194304 := by omega
            clear hr
            have HO6 := Lib.hid hown
            have HB6 := Lib.hid hbr
            have hsz6 := hbr.size
            have d0 := (hbr.cell (p := ⟨bb, off + j * 3, none⟩) hbb).trans HC0.out
            have d1 := (hbr.cell (p := ⟨bb, off + j * 3 + 1, none⟩) hbb).trans HC1.out
            clear hown hbr ct
            by_cases hlt3 : i < keptN p
            · have hpk1 : p.k = 1 := by
                rw [HKN.out] at hlt3
                split at hlt3
                · assumption
                · omega
              have him : i < m := by rw [HKN.out, if_pos hpk1] at hlt3; exact hlt3
              have hi1 : (i : Int) < (m : Int) := by omega
              rw [hpk1] at d0
              have HSU := Lib.hid (rngL_succ x i)
              clear hpk1
              go_wp2_with (at_builtin; refine wpList_append_lies _ rfl _ _ 50 rfl w.heap.size 3 i0 (.int .i64 0) 1 8 Tryd.underlying50 hi0 hz0 hz1 hz2 rfl (by decide) _ _ _ rfl (HO6.out.alloc _) ⟨w6.heap.size, 0, none⟩ 1 1 [_] rfl rfl (World.news_of_block (cs := #[_]) (t := 3) (fr := (0, 0)) (heap_alloc_new w6 _)) (by simp [Value.oneCell']) (by omega) (by unfold maxLen; omega) (by omega) (by simp; omega) (w6.heap.size + 1) (by simp) ?c1)
              case c1 =>
                intro gg cap w7 hown7 hgrow hat hlt'
                have HO7 := Lib.hid (show w7.ownsRow w.heap.size 3 1 (.slice (some ⟨gg, 0, none⟩) (r + 1) cap) (r + 1) (flatR fI (C ++ rngL x (i + 1))) by
                  rw [HSU.out, ← List.append_assoc, ← flatI]
                  exact hown7)
                have HB7 := Lib.hid ((HB6.out.alloc hsz6 _).grown hgrow (by simp; omega) fun q hq => (own_typS HO6.out hq).1)
                clear hown7 hgrow hat hlt' d0 d1
                go_wp2_with fail
                go_roundw
                case rel => exact ⟨i + 1, r + 1, by omega, by go_num, by have := HRR.out; omega, HO7.out, HB7.out⟩
                case measure => simp [intOf]; omega
            · obtain rfl : i = keptN p := by omega
              have HO8 := Lib.hid (show w6.ownsRow w.heap.size 3 1 _ (atL (l.take (j + 1))).length (flatR fI (atL (l.take (j + 1)))) by
                rw [HAT.out]
                refine own_len HO6.out ?_
                rw [List.length_append, rngL_len, ← HQC.out]
                exact HRR.out)
              have HX := Lib.hid (show sIP (l.take (j + 1)) = x + m from HTS.out.1)
              by_cases hpk1 : p.k = 1
              · have hi1 : ¬ ((keptN p : Int) < (m : Int)) := by rw [HKN.out, if_pos hpk1]; omega
                clear hpk1
                go_wp2_with fail
                go_roundw
                case rel => exact ⟨j + 1, by omega, by go_num, by rw [HX.out]; go_num, HO8.out, HB6.out⟩
                case measure => simp [intOf]; omega
              · have hb1 : (p.k == 1) = false := by rw [beq_eq_false_iff_ne]; exact hpk1
                have hk0 : keptN p = 0 := by rw [HKN.out, if_neg hpk1]
                rw [hk0]
                clear hpk1 hk0
                by_cases hm0 : (0 : Int) < (m : Int)
                · go_wp2_with fail
                  go_roundw
                  case rel => exact ⟨j + 1, by omega, by go_num, by rw [HX.out]; go_num, HO8.out, HB6.out⟩
                  case measure => simp [intOf]; omega
                · go_wp2_with fail
                  go_roundw
                  case rel => exact ⟨j + 1, by omega, by go_num, by rw [HX.out]; go_num, HO8.out, HB6.out⟩
                  case measure => simp [intOf]; omega
    · obtain rfl : j = n := by omega
      have HE := Lib.hid (show w3.ownsRow w.heap.size 3 1 _ (atL l).length (flatR fI (atL l)) by
        have h := HOW.out
        rw [List.take_of_length_le (by omega)] at h
        exact h)
      clear HOW
      go_wp2_with fail
      go_ret
      exact ⟨_, rfl, HE.out, HBR.out⟩

end Go.Proofs.YtkocknhpnmkicaaDoor
