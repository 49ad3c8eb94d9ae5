/- Diff: the reference's Parts and Apply: their walks. -/
import Derived.Test.YtfbjbgknfdekfaaDoorEs
import Derived.Test.YtfbjbgknfdekfaaDoorDo
namespace Go.Proofs.YtfbjbgknfdekfaaDoor
open Go.RowKit
set_option linter.unusedVariables false

/-- where an appended row lies: where it lay, or in a new block -/
def NewAt (w : World) (v v' : Value) : Prop := v'.ownBlock = v.ownBlock ∨ ∃ q, v'.ownBlock = some q ∧ w.heap.size ≤ q
theorem run_append_str_at {P : Program} {w : World} (base : Nat) (t u ty e : TypeId) (i : TypeInfo) (ht : P.underlying t = some (.slice e)) (hu : P.underlying u = some .string) (hi : P.info? e = some i) (hz : i.zero = some (.int .u8 0))
    (hsize : i.size = 1) (hby : i.bytes = 1) (v : Value) (n : Nat) (xs : List Value) (hown : w.ownsRow base e 1 v n xs) (s : ByteArray)
    (h63 : n + s.size ≤ maxLen) (hbytes : n + s.size ≤ 140737488355328) (hbase : base ≤ w.heap.size) :
    ∃ v' w', (Builtin.append_ #[t, u] ty #[v, .string s]).run P w = .ok v' w' ∧ w'.ownsRow base e 1 v' (n + s.size) (xs ++ Lib.strCells s) ∧ w.grownBy w' v.ownBlock ∧ NewAt w v v' := by
  obtain ⟨v', w', hr, h1, h2, h3⟩ := Lib.run_append_own_string (P := P) w base t u ty e i ht hu hi hz hsize hby v n xs hown s h63 hbytes hbase
  refine ⟨v', w', hr, h1, h2, ?_⟩
  have hxl : xs.length = n * 1 := hown.1
  rcases hown.2 with ⟨rfl, rfl⟩ | ⟨g, cap, cur, rfl, hbg, hg, hnc, hcm, hcs, htake⟩
  · obtain ⟨v2, w2, hr2, k1, k2, k3⟩ := Lib.run_append_own_string (P := P) w w.heap.size t u ty e i ht hu hi hz hsize hby (.slice none 0 0) 0 xs ⟨hown.1, .inl ⟨rfl, rfl⟩⟩ s h63 hbytes (Nat.le_refl _)
    rw [hr] at hr2
    injection hr2 with e1 e2
    subst e1 e2
    rcases k1.2 with ⟨k, -⟩ | ⟨g, cap, cur, k, hb, -⟩
    · exact .inl (by rw [k])
    · exact .inr ⟨g, by rw [k]; rfl, hb⟩
  · by_cases hroom : n + s.size ≤ cap
    · have hr2 := Lib.run_append_room_string (P := P) w t u ty e i ht hu hi hsize g n cap cur hg s hroom (by omega)
      rw [hr] at hr2
      injection hr2 with e1 e2
      exact .inl (by rw [e1]; rfl)
    · have hr2 := Lib.run_append_grow_string (P := P) w t u ty e i (.int .u8 0) ht hu hi hz ⟨g, 0, none⟩ n cap xs (by rw [hsize]; exact hxl) (hown.cells (g := g) rfl) s (by omega) (by unfold maxLen at h63; omega) (by rw [hby]; exact growslice_fits (by omega) (by unfold maxLen at hcm; omega))
      rw [hr] at hr2
      injection hr2 with e1 e2
      exact .inr ⟨w.heap.size, by rw [e1]; rfl, Nat.le_refl _⟩
/-- the operation, for the walk -/
theorem wpList_append_str_at {P : Program} {w : World} {ops : Array Oper} {rest : List Oper} {o : Oper} {a : Act} {Q : Exit → Act → World → Prop} (hgd : o.guard = none) (sl x : Operand) (t u : TypeId)
    (ho : o.op = .call { callee := .builtin .append, args := #[sl, x], argTypes := #[t, u] })
    (base : Nat) (e : TypeId) (i : TypeInfo) (ht : P.underlying t = some (.slice e)) (hu : P.underlying u = some .string) (hi : P.info? e = some i) (hz : i.zero = some (.int .u8 0))
    (hsize : i.size = 1) (hby : i.bytes = 1)
    (v : Value) (n : Nat) (xs : List Value) (hs : a.eval sl = v) (hown : w.ownsRow base e 1 v n xs) (s : ByteArray) (hx : a.eval x = .string s)
    (h63 : n + s.size ≤ maxLen) (hbytes : n + s.size ≤ 140737488355328) (hbase : base ≤ w.heap.size)
    (h : ∀ v' w', w'.ownsRow base e 1 v' (n + s.size) (xs ++ Lib.strCells s) → w.grownBy w' v.ownBlock → NewAt w v v' → wpList P ops Q rest (a.put o.dst v') w') : wpList P ops Q (o :: rest) a w := by
  refine wpList_plain hgd fun K hK => ?_
  obtain ⟨v', w', hr, h2, h3, h4⟩ := run_append_str_at (P := P) (w := w) base t u o.type e i ht hu hi hz hsize hby v n xs hown s h63 hbytes hbase
  unfold Oper.wp execOp
  simp only [ho, resolve, invoke, builtin, Sem.run_bind, Sem.run_pure, Result.andThen_ok, List.map_toArray, List.map_cons, List.map_nil, hs, hx, hr]
  exact hK _ _ (h v' w' h2 h3 h4)
/-- two rows of the call's own in two blocks -/
def Apart (v u : Value) : Prop := ∀ q, v.ownBlock = some q → u.ownBlock ≠ some q
theorem Apart.symm {v u : Value} (h : Apart v u) : Apart u v := fun q h1 h2 => h q h2 h1
/-- the bytes of a row of the call's own as a string, wherever the region has drawn to -/
theorem own_conv_drew {w : World} {B : Nat} {v : Value} {l : List UInt8} {n : Nat} (h : w.ownsRow B 5 1 v n (Lib.byteCells l)) (hn : l.length = n) :
    ∃ ao cap, v = .slice ao n cap ∧ ∀ k, (convert 47 9 (.slice ao n cap)).run Tryd.prog (w.drewN k) = .ok (.string ⟨l.toArray⟩) (w.drewN k) := by
  obtain ⟨ao, cap, e, -⟩ := own_conv h hn
  refine ⟨ao, cap, e, fun k => ?_⟩
  obtain ⟨ao', cap', e', h'⟩ := own_conv (w := w.drewN k) (B := B) (v := v) (show (w.drewN k).ownsRow B 5 1 v n (Lib.byteCells l) from h) hn
  rw [e] at e'
  injection e' with e1 e2 e3
  rw [e1, e3]
  exact h'
theorem Apart.grown {w : World} {B s : Nat} {t : TypeId} {v v' u : Value} {n : Nat} {l : List Value} (h : Apart v u) (hu : w.ownsRow B t s u n l) (hn : NewAt w v v') : Apart v' u := by
  intro q h1 h2
  rcases hn with e | ⟨q', e, hq'⟩
  · rw [e] at h1
    exact h q h1 h2
  · rw [e] at h1
    injection h1 with h1
    have := own_lt hu h2
    omega
theorem own_apart {w w' : World} {B s : Nat} {t : TypeId} {v u : Value} {n : Nat} {l : List Value} (hu : w.ownsRow B t s u n l) (hg : w.grownBy w' v.ownBlock) (ha : Apart v u) : w'.ownsRow B t s u n l := by
  obtain ⟨h1, h2⟩ := hu
  refine ⟨h1, ?_⟩
  rcases h2 with h2 | ⟨g, cap, cur, e, hb, hgg, hr⟩
  · exact .inl h2
  · refine .inr ⟨g, cap, cur, e, hb, ?_, hr⟩
    rw [hg.block g (block_lt hgg) (fun k => ha g k.symm (by rw [e]; rfl))]
    exact hgg
theorem appD_len : ∀ (l : List Dp) (s : List UInt8), (appD s l).length ≤ Dp.sO l
  | [], s => Nat.le_refl _
  | .ret n :: l, s => by
    have := appD_len l (s.drop n)
    show (s.take n ++ appD (s.drop n) l).length ≤ n + Dp.sO l
    rw [List.length_append, List.length_take]
    omega
  | .del n :: l, s => by
    have := appD_len l (s.drop n)
    show (appD (s.drop n) l).length ≤ 0 + Dp.sO l
    omega
  | .ins t :: l, s => by
    have := appD_len l s
    show (t ++ appD s l).length ≤ t.length + Dp.sO l
    rw [List.length_append]
    omega
theorem appP_len (l : List Pc) (s : List UInt8) : (appP s l).length ≤ sOP l := appD_len _ _
theorem appP_take {l : List Pc} {j : Nat} (h : j < l.length) (s : List UInt8) : appP s (l.take (j + 1)) = appP s (l.take j) ++ appP (s.drop (sIP (l.take j))) [l[j]] := by
  rw [List.take_succ_eq_append_getElem h, appP_app]
theorem appP_ret {p : Pc} (h : okP p = true) (hk : p.k = 1) (s : List UInt8) : appP s [p] = s.take p.n.toNat := by
  obtain ⟨k, n, t⟩ := p
  simp only at hk
  subst hk
  show s.take n.toNat ++ [] = _
  rw [List.append_nil]
theorem appP_not {p : Pc} (h : okP p = true) (hk : p.k ≠ 1) (s : List UInt8) : appP s [p] = p.t.data.toList := by
  obtain ⟨k, n, t⟩ := p
  rcases okP_cases h with ⟨h1, h2, h3⟩ | ⟨h1, h2, h3⟩ | ⟨h1, h2, h3⟩
  · exact absurd h1 hk
  · simp only at h1 h2 h3
    subst h1
    obtain rfl := str_empty h3
    rfl
  · simp only at h1 h2 h3
    subst h1
    show t.data.toList ++ [] = _
    rw [List.append_nil]
structure PartI (B : Nat) (l : List Pc) (s : List UInt8) (w : World) (j a : Nat) (o g : List UInt8) (v u : Value) (wr : World) : Prop where
  at_ : a = sIP (l.take j)
  out : o = appP s (l.take j)
  rest : g.length ≤ a
  own : wr.ownsRow B 5 1 v o.length (Lib.byteCells o)
  gone : wr.ownsRow B 5 1 u g.length (Lib.byteCells g)
  apart : Apart v u
  below : Below B w wr
def PartPost (s : ByteArray) (l : List Pc) (w : World) (e : Ending) (w' : World) : Prop :=
  (∃ g : ByteArray, e = .returned (.tuple #[.string ⟨(appP s.data.toList l).toArray⟩, .string g])) ∧ Below w.heap.size w w'
theorem sIP_at {l : List Pc} {j : Nat} (h : j < l.length) : sIP (l.take (j + 1)) = sIP (l.take j) + (ofP l[j]).inn := (take_sums h).1
theorem inn_of {p : Pc} (h : okP p = true) : ∃ m : Nat, p.n = m ∧ (ofP p).inn = m := by
  obtain ⟨k, n, t⟩ := p
  rcases okP_cases h with ⟨h1, h2, h3⟩ | ⟨h1, h2, h3⟩ | ⟨h1, h2, h3⟩
  · simp only at h1 h2 h3
    subst h1
    exact ⟨n.toNat, by show n = _; omega, rfl⟩
  · simp only at h1 h2 h3
    subst h1
    exact ⟨n.toNat, by show n = _; omega, rfl⟩
  · simp only at h1 h2 h3
    subst h1
    exact ⟨0, h2, rfl⟩
theorem own_bytes {w : World} {B : Nat} {v : Value} {o : List UInt8} {s : ByteArray} (h : w.ownsRow B 5 1 v (o.length + s.size) (Lib.byteCells o ++ Lib.strCells s)) : w.ownsRow B 5 1 v (o ++ s.data.toList).length (Lib.byteCells (o ++ s.data.toList)) := by
  rw [List.length_append, ← byteCells_app, ← str_cells]
  exact own_len h (by rw [show s.data.toList.length = s.size from Array.length_toList ..])
theorem ext_take (s : ByteArray) (a m : Nat) : (s.extract a (a + m)).data.toList = (s.data.toList.drop a).take m := by
  rw [ByteArray.data_extract, Array.toList_extract]
  show (s.data.toList.drop a).take (a + m - a) = _
  rw [Nat.add_sub_cancel_left]
set_option maxRecDepth 100000 in
set_option maxHeartbeats 8000000 in
theorem refParts_any (s : ByteArray) (ao : Option Addr) (n c : Nat) (l : List Pc) (w : World) (h : IsR fP w ao n l) (hn : n ≤ 4096) (hok : AllOk l) (hI : sIP l = s.size) (hO : sOP l ≤ 1048576) (hs : s.size ≤ 1048576) :
    Calls Tryd.prog 51 #[.string s, .slice ao n c] w (PartPost s l w) := by
  obtain ⟨i1, hi1, hy0, hy1, hy2⟩ := info_parts infoU8
  have hl := h.1
  have HR := Lib.hid h
  have HOK := Lib.hid hok
  have HI := Lib.hid hI
  have HO := Lib.hid hO
  have HL := Lib.hid hl
  clear h hok hI hO hl
  go_enter Tryd.func51, Tryd.ntmps51
  go_wp2_with fail
  go_loopw [6, 7, 8, 9] (fun s6 s7 s8 s9 wr => ∃ (j a : Nat) (o g : List UInt8), j ≤ n ∧ s9 = .int .i64 j ∧ s8 = .int .i64 a ∧ PartI w.heap.size l s.data.toList w j a o g s6 s7 wr) (fun _ _ _ s9 _ => n - (intOf s9).toNat)
  case atStart => exact ⟨0, 0, [], [], Nat.zero_le _, rfl, rfl, ⟨rfl, rfl, Nat.le_refl _, ⟨rfl, .inl ⟨rfl, rfl⟩⟩, ⟨rfl, .inl ⟨rfl, rfl⟩⟩, (fun q h => by cases h), Below.refl _ _⟩⟩
  case round =>
    obtain ⟨j, a, o, g, hj, rfl, rfl, hp⟩ := hrel
    have HP := Lib.hid hp
    have hsz := hp.below.size
    clear hp
    by_cases hlt : j < n
    · as_aux_lemma =>
        have hlt' : (j : Int) < (n : Int) := by omega
        have hj0 : (0 : Int) ≤ (j : Int) := by omega
        have HJL := Lib.hid (show j < l.length by have := HL.out; omega)
        obtain ⟨bb, off, rfl, hbb, hcl⟩ := HR.out.pc HP.out.below hlt
        obtain ⟨c0, c1, c2⟩ := hcl HJL.out
        have HPO := Lib.hid (HOK.out l[j] (List.getElem_mem HJL.out))
        obtain ⟨m, hm, hmi⟩ := inn_of HPO.out
        have HSI := Lib.hid (sIP_at HJL.out)
        have HTI := Lib.hid (take_le (l := l) (j + 1))
        have HTJ := Lib.hid (take_le (l := l) j)
        have HTS := Lib.hid (take_sums HJL.out)
        have HAT := Lib.hid (fun t => appP_take HJL.out t)
        have ham : a + m ≤ s.size := by
          have h1 : sIP (l.take (j + 1)) = a + m := by rw [HP.out.at_, ← hmi]; exact HSI.out
          have h2 := HTI.out.1
          have h3 := HI.out
          omega
        have HOL := Lib.hid (show o.length + l[j].t.size ≤ 4000000 by
          have h1 := appP_len (l.take j) s.data.toList
          rw [← HP.out.out] at h1
          have h2 := HTI.out.2
          have h3 := HO.out
          have h4 := HTS.out.2
          obtain ⟨-, e2⟩ := inP_of HPO.out
          rcases okP_cases HPO.out with ⟨k1, k2, k3⟩ | ⟨k1, k2, k3⟩ | ⟨k1, k2, k3⟩
          · rw [k3]; have := HTJ.out.2; omega
          · rw [k3]; have := HTJ.out.2; omega
          · unfold outP at e2
            rw [if_neg (by rw [k1]; decide), if_neg (by rw [k1]; decide)] at e2
            omega)
        have HGL := Lib.hid (show g.length + m ≤ 4000000 by have := HP.out.rest; omega)
        have HRET := Lib.hid (fun hk => appP_ret HPO.out hk)
        have HNOT := Lib.hid (fun hk => appP_not HPO.out hk)
        have HPK := Lib.hid (okP_cases HPO.out)
        have HMI := Lib.hid hmi
        clear hmi hcl
        generalize l[j]'HJL.out = p at *
        have HM := Lib.hid hm
        rw [hm] at c1
        clear hm
        have HC0 := Lib.hid c0
        have HC1 := Lib.hid c1
        have HC2 := Lib.hid c2
        go_wp2_with (at_builtin; refine wpList_append_str_at rfl _ _ 47 9 rfl w.heap.size 5 i1 Tryd.underlying47 Tryd.underlying9 hi1 hy0 hy1 hy2 _ o.length _ rfl HP.out.own p.t rfl (by unfold maxLen; have := HOL.out; omega) (by have := HOL.out; omega) hsz ?c1)
        case c1 =>
          intro v4 w4 hown4 hgrow4 hnew4
          have hb4 : Below w.heap.size w w4 := HP.out.below.grown hgrow4 hsz fun q hq => (own_typ1 HP.out.own hq).1
          have HO4 := Lib.hid (own_bytes hown4)
          have HG4 := Lib.hid (own_apart HP.out.gone hgrow4 HP.out.apart)
          have HA4 := Lib.hid (HP.out.apart.grown HP.out.gone hnew4)
          have HB4 := Lib.hid hb4
          have hsz4 := hb4.size
          have hc (q : Nat) : w4.cell? ⟨bb, q, none⟩ = wr.cell? ⟨bb, q, none⟩ := (hb4.cell (p := ⟨bb, q, none⟩) hbb).trans (HP.out.below.cell (p := ⟨bb, q, none⟩) hbb).symm
          have d0 := (hc _).trans HC0.out
          have d1 := (hc _).trans HC1.out
          clear hown4 hgrow4 hnew4 hb4 hc c0 c1 c2
          have HD0 := Lib.hid d0
          have HD1 := Lib.hid d1
          have ha0 : (0 : Int) ≤ (a : Int) := by omega
          have ha1 : (a : Int) ≤ (a : Int) + (m : Int) := by omega
          have ha2 : (a : Int) + (m : Int) ≤ (s.size : Int) := by omega
          have hwm : IntKind.i64.wrap ((a : Int) + (m : Int)) = (a : Int) + (m : Int) := by rw [IntKind.wrap_i64]; omega
          have HXS := Lib.hid (show (s.extract a (a + m)).size = m by rw [ByteArray.size_extract]; omega)
          have hjn : (j : Int) + 1 ≤ 4096 := by omega
          have hwj : IntKind.i64.wrap ((j : Int) + 1) = (j : Int) + 1 := by rw [IntKind.wrap_i64]; omega
          by_cases hk1 : p.k = 1
          · have HK := Lib.hid hk1
            have HT0 := Lib.hid (show p.t.data.toList = [] by
              rcases HPK.out with ⟨k1, k2, k3⟩ | ⟨k1, k2, k3⟩ | ⟨k1, k2, k3⟩
              · rw [str_empty k3]
              · rw [k1] at hk1; exact absurd hk1 (by decide)
              · rw [k1] at hk1; exact absurd hk1 (by decide))
            rw [hk1] at d0
            clear hk1
            go_wp2_with (at_builtin; refine wpList_append_str_at rfl _ _ 47 9 rfl w.heap.size 5 i1 Tryd.underlying47 Tryd.underlying9 hi1 hy0 hy1 hy2 _ (o ++ p.t.data.toList).length _ rfl HO4.out (s.extract a (a + m)) rfl (by rw [HXS.out, HT0.out, List.append_nil]; unfold maxLen; have := HOL.out; omega) (by rw [HXS.out, HT0.out, List.append_nil]; have := HOL.out; omega) hsz4 ?c2)
            case c2 =>
              intro v5 w5 hown5 hgrow5 hnew5
              have hb5 : Below w.heap.size w w5 := HB4.out.grown hgrow5 hsz4 fun q hq => (own_typ1 HO4.out hq).1
              have HO5 := Lib.hid (own_bytes (own_len hown5 (by rw [HXS.out, List.length_append, show p.t.data.toList.length = p.t.size from Array.length_toList ..])))
              have HG5 := Lib.hid (own_apart HG4.out hgrow5 HA4.out)
              have HA5 := Lib.hid (HA4.out.grown HG4.out hnew5)
              have HB5 := Lib.hid hb5
              have hc (q : Nat) : w5.cell? ⟨bb, q, none⟩ = w4.cell? ⟨bb, q, none⟩ := (hb5.cell (p := ⟨bb, q, none⟩) hbb).trans (HB4.out.cell (p := ⟨bb, q, none⟩) hbb).symm
              have d1 := (hc _).trans HD1.out
              clear hown5 hgrow5 hnew5 hb5 hc
              go_wp2_with fail
              go_roundw
              case rel => exact ⟨j + 1, a + m, _, _, by omega, by go_num, by go_num, ⟨by rw [HSI.out, ← HP.out.at_, HMI.out], by
                rw [HAT.out, ← HP.out.out, ← HP.out.at_, HRET.out HK.out, HT0.out, List.append_nil, ext_take, HM.out]; rfl, by have := HP.out.rest; omega, HO5.out, HG5.out, HA5.out, HB5.out⟩⟩
              case measure => (simp [intOf] <;> omega)
          · have HK := Lib.hid hk1
            have hb1 : (p.k == 1) = false := by rw [beq_eq_false_iff_ne]; exact hk1
            have hb2 : decide (p.k = 1) = false := decide_eq_false hk1
            clear hk1
            go_wp2_with (at_builtin; refine wpList_append_str_at rfl _ _ 47 9 rfl w.heap.size 5 i1 Tryd.underlying47 Tryd.underlying9 hi1 hy0 hy1 hy2 _ g.length _ rfl HG4.out (s.extract a (a + m)) rfl (by rw [HXS.out]; unfold maxLen; have := HGL.out; omega) (by rw [HXS.out]; have := HGL.out; omega) hsz4 ?c2)
            case c2 =>
              intro v5 w5 hown5 hgrow5 hnew5
              have hb5 : Below w.heap.size w w5 := HB4.out.grown hgrow5 hsz4 fun q hq => (own_typ1 HG4.out hq).1
              have HG5 := Lib.hid (own_bytes (own_len hown5 (by rw [HXS.out])))
              have HO5 := Lib.hid (own_apart HO4.out hgrow5 HA4.out.symm)
              have HA5 := Lib.hid (HA4.out.symm.grown HO4.out hnew5).symm
              have HB5 := Lib.hid hb5
              have hc (q : Nat) : w5.cell? ⟨bb, q, none⟩ = w4.cell? ⟨bb, q, none⟩ := (hb5.cell (p := ⟨bb, q, none⟩) hbb).trans (HB4.out.cell (p := ⟨bb, q, none⟩) hbb).symm
              have d1 := (hc _).trans HD1.out
              clear hown5 hgrow5 hnew5 hb5 hc
              go_wp2_with fail
              go_roundw
              case rel => exact ⟨j + 1, a + m, _, _, by omega, by go_num, by go_num, ⟨by rw [HSI.out, ← HP.out.at_, HMI.out], by
                rw [HAT.out, ← HP.out.out, HNOT.out HK.out], by
                have h1 := HP.out.rest
                rw [List.length_append, ext_take, List.length_take, List.length_drop]
                omega, HO5.out, HG5.out, HA5.out, HB5.out⟩⟩
              case measure => (simp [intOf] <;> omega)
    · as_aux_lemma =>
        have hlt' : ¬ ((j : Int) < (n : Int)) := by omega
        have HE := Lib.hid (show o = appP s.data.toList l by
          have h1 := HP.out.out
          rw [show j = l.length by have := HL.out; omega, List.take_length] at h1
          exact h1)
        obtain ⟨ax, cx, rfl, hconv⟩ := own_conv_drew HP.out.own rfl
        obtain ⟨ay, cy, rfl, hconv2⟩ := own_conv_drew HP.out.gone rfl
        have HBN := Lib.hid (fun k => below_drewN HP.out.below k)
        clear hlt
        go_wp2_with fail
        go_quiet (fail)
        generalize hwz : World.drewN _ _ = wz
        have HBZ := Lib.hid (show Below w.heap.size w wz by rw [← hwz]; exact HBN.out _)
        clear hwz hconv hconv2
        go_wp2_with fail
        go_ret2
        refine ⟨⟨⟨g.toArray⟩, ?_⟩, HBZ.out⟩
        rw [← HE.out]
        rfl
end Go.Proofs.YtfbjbgknfdekfaaDoor
