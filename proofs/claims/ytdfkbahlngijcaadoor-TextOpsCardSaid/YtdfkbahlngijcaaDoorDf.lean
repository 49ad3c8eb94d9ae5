/- Deltas: the text form of the reference: quartoref03.Text. -/
import Derived.Test.YtdfkbahlngijcaaDoorDd
import Derived.Deep.RegionLaw
import Derived.Lib.AppendStr
import Derived.Laws.BytesArg
namespace Go.Proofs.YtdfkbahlngijcaaDoor
open Go.RowKit
set_option linter.unusedVariables false

theorem step_append_str {P : Program} {w : World} {ops : Array Oper} {o : Oper} {a : Act} {K : Act → World → Prop} {Q : Exit → Act → World → Prop} {E : Prop} (hgd : o.guard = none) (sl x : Operand) (t u : TypeId)
    (ho : o.op = .call { callee := .builtin .append, args := #[sl, x], argTypes := #[t, u] })
    (base : Nat) (e : TypeId) (i : TypeInfo) (ht : P.underlying t = some (.slice e)) (hu : P.underlying u = some .string) (hi : P.info? e = some i) (hz : i.zero = some (.int .u8 0))
    (hsize : i.size = 1) (hby : i.bytes = 1)
    (v : Value) (n : Nat) (xs : List Value) (hs : a.eval sl = v) (hown : w.ownsRow base e 1 v n xs) (s : ByteArray) (hx : a.eval x = .string s)
    (h63 : n + s.size ≤ maxLen) (hbytes : n + s.size ≤ 140737488355328) (hbase : base ≤ w.heap.size)
    (h : ∀ v' w', w'.ownsRow base e 1 v' (n + s.size) (xs ++ Lib.strCells s) → w.grownBy w' v.ownBlock → K (a.put o.dst v') w') :
    if Region.wanted o (yielded ops a.tmps) = true then Oper.wp P o a w K Q else E := by
  have hw : Region.wanted o (yielded ops a.tmps) = true := by simp [Region.wanted, hgd]
  rw [if_pos hw]
  obtain ⟨v', w', hr, h2, h3, h4⟩ := Lib.run_append_own_string (P := P) w base t u o.type e i ht hu hi hz hsize hby v n xs hown s h63 hbytes hbase
  unfold Oper.wp execOp
  simp only [ho, resolve, invoke, builtin, Sem.run_bind, Sem.run_pure, Result.andThen_ok, List.map_toArray, List.map_cons, List.map_nil, hs, hx, hr]
  exact h _ _ h2 h3

theorem own_below {w w' : World} {B s : Nat} {e : TypeId} {v : Value} {n : Nat} {xs : List Value} (h : w.ownsRow B e s v n xs) (hb : Below w.heap.size w w') : w'.ownsRow B e s v n xs := by
  refine ⟨h.1, ?_⟩
  rcases h.2 with hn | ⟨g, cap, cur, hv, hbg, hg, rest⟩
  · exact .inl hn
  · exact .inr ⟨g, cap, cur, hv, hbg, block_below hb hg (block_lt hg), rest⟩
theorem own_text {w : World} {B : Nat} {v : Value} {b t d : List UInt8} {c : UInt8} {x : Int} (h : w.ownsRow B 5 1 v (b.length + 1 + (⟨d.toArray⟩ : ByteArray).size) (Lib.byteCells b ++ [.int .u8 x] ++ Lib.strCells ⟨d.toArray⟩)) (hx : (c.toNat : Int) = x) (e : b ++ ([c] ++ d) = t) :
    w.ownsRow B 5 1 v t.length (Lib.byteCells t) := by
  subst e
  subst hx
  rw [strCells_bytes] at h
  have e1 : (b ++ ([c] ++ d)).length = b.length + 1 + (⟨d.toArray⟩ : ByteArray).size := by
    rw [List.length_append, List.length_append, ← Nat.add_assoc]
    rfl
  rw [e1, ← byteCells_app, ← byteCells_app, ← List.append_assoc]
  exact h
theorem own_len {w : World} {B s : Nat} {e : TypeId} {v : Value} {n m : Nat} {xs : List Value} (h : w.ownsRow B e s v n xs) (k : n = m) : w.ownsRow B e s v m xs := k ▸ h
/-- the bytes of a row of the call's own, nil too, as a string -/
theorem own_conv {w : World} {B : Nat} {v : Value} {l : List UInt8} {n : Nat} (h : w.ownsRow B 5 1 v n (Lib.byteCells l)) (hn : l.length = n) :
    ∃ ao cap, v = .slice ao n cap ∧ (convert 73 9 (.slice ao n cap)).run Tryd.prog w = .ok (.string ⟨l.toArray⟩) w := by
  subst hn
  rcases h with ⟨_, ⟨h1, h2⟩ | ⟨g, cap, cur, rfl, hb, hg, hcap, hm, hs, htk⟩⟩
  · refine ⟨none, 0, by rw [h1, h2], ?_⟩
    rw [h2]
    obtain rfl := List.eq_nil_of_length_eq_zero h2
    exact run_convert_bytes_nil (P := Tryd.prog) w 73 5 Tryd.underlying73 Tryd.underlying5 0 0 _ Tryd.underlying9
  · refine ⟨_, cap, rfl, run_convert_bytes_back (P := Tryd.prog) w 73 9 5 ⟨g, 0, none⟩ cap l Tryd.underlying73 Tryd.underlying5 Tryd.underlying9 (fun j hj => ?_)⟩
    rw [add_to, block_cell hg, Nat.zero_add]
    have e := congrArg (fun l => l[j]?) htk
    rw [List.getElem?_take_of_lt (by omega), Array.getElem?_toList] at e
    rw [e]
    simp [Lib.byteCells, hj]
theorem hexD_lo {n : Nat} (h : n < 10) : ((hexD n).toNat : Int) = 48 + n := by
  unfold hexD
  rw [if_pos h, UInt8.toNat_ofNat']
  omega
theorem hexD_hi {n : Nat} (h : ¬ n < 10) (h2 : n < 16) : ((hexD n).toNat : Int) = 87 + n := by
  unfold hexD
  rw [if_neg h, UInt8.toNat_ofNat']
  omega
set_option maxRecDepth 100000 in
set_option maxHeartbeats 2000000 in
theorem hex_any (n : Nat) (h : n < 16) (w : World) : Calls Tryd.prog 71 #[.int .u8 n] w fun e w' => e = .returned (.int .u8 (hexD n).toNat) ∧ w = w' := by
  by_cases h10 : n < 10
  · have HE := Lib.hid (hexD_lo h10)
    have hW : IntKind.u8.wrap (48 + (n : Int)) = 48 + (n : Int) := wrap8 _ (by omega) (by omega)
    have h1 : (n : Int) < 10 := by omega
    go_enter Tryd.func71, Tryd.ntmps71
    go_wp2_with fail
    go_ret
    exact ⟨by rw [HE.out] <;> rfl, rfl⟩
  · have HE := Lib.hid (hexD_hi h10 h)
    have hW : IntKind.u8.wrap (87 + (n : Int)) = 87 + (n : Int) := wrap8 _ (by omega) (by omega)
    have h1 : ¬ ((n : Int) < 10) := by omega
    go_enter Tryd.func71, Tryd.ntmps71
    go_wp2_with fail
    go_ret
    exact ⟨by rw [HE.out] <;> rfl, rfl⟩

set_option maxRecDepth 100000 in
set_option maxHeartbeats 8000000 in
theorem refText_any (ao : Option Addr) (n c : Nat) (l : List Pc) (w : World) (h : IsR fP w ao n l) (hn63 : n ≤ 9223372036854775807) :
    Calls Tryd.prog 34 #[.slice ao n c] w fun e w' => e = .returned (.tuple #[.string ⟨(txtP l).toArray⟩, .int .i64 (checkP l)]) ∧ Below w.heap.size w w' := by
  obtain ⟨i0, hi0, hz0, hz1, hz2⟩ := info_parts infoU8
  have hl := h.1
  have HC := Lib.hid (refCheck_pc ao n c l w h hn63)
  have HR := Lib.hid h
  clear h
  go_enter Tryd.func34, Tryd.ntmps34
  go_wp2_with fail
  refine (HC.out).mono ?_; rintro e w1 ⟨rfl, hb1⟩
  have HB1 := Lib.hid hb1
  clear hb1 HC
  by_cases hc : checkP l = 0
  · have HE := Lib.hid (show txtP l = textL l by unfold txtP; rw [if_pos hc])
    have HCK := Lib.hid hc
    rw [hc]
    clear hc
    go_wp2_with fail
    go_loopw [5, 6] (fun vo s wr => ∃ (j : Nat), j ≤ n ∧ s = .int .i64 j ∧ wr.ownsRow w.heap.size 5 1 vo (textL (l.take j)).length (Lib.byteCells (textL (l.take j))) ∧ Below w.heap.size w wr) (fun _ s _ => n - (intOf s).toNat)
    case atStart => exact ⟨0, Nat.zero_le _, rfl, ⟨rfl, .inl ⟨rfl, rfl⟩⟩, HB1.out⟩
    case round =>
      obtain ⟨j, hj, rfl, hown, hbr⟩ := hrel
      have HOWN := Lib.hid hown
      have HBR := Lib.hid hbr
      have hsz := hbr.size
      clear hown hbr
      by_cases hlt : j < n
      · have hjl : j < l.length := by omega
        have hj1 : (j : Int) < (n : Int) := by omega
        have hok : okP l[j] = true := (check_inv HCK.out).2.1 l[j] (List.getElem_mem hjl)
        have hn20 : l[j].n ≤ 1048576 := by
          have := inn_le (check_inv HCK.out).2.1 (List.getElem_mem hjl)
          have := (check_inv HCK.out).2.2.1
          omega
        have HSH := Lib.hid (text_short HCK.out j)
        have HSB := Lib.hid (before_len HCK.out j)
        have HS1 := Lib.hid (text_short HCK.out (j + 1))
        have HBP := Lib.hid (before_pc hjl)
        have HOK := Lib.hid (okP_cases hok)
        have HN := Lib.hid hn20
        have hj0 : (0 : Int) ≤ (j : Int) := by omega
        clear hok hn20
        go_upto_if 20 with (fail)
        go_cut [5] from 13 to 86 (fun vo wq => wq.ownsRow w.heap.size 5 1 vo (before l j).length (Lib.byteCells (before l j)) ∧ Below w.heap.size w wq)
        case first =>
          by_cases h0 : j = 0
          · subst h0
            go_wp2_with fail
            go_meet
            case rel => exact ⟨HOWN.out, HBR.out⟩
          · have hj2 : (0 : Int) < (j : Int) := by omega
            have HE0 := Lib.hid (show before l j = textL (l.take j) ++ [32] by unfold before; rw [if_neg h0])
            clear h0
            go_wp2_with (at_builtin; refine wpList_append_lies _ rfl _ _ 73 rfl w.heap.size 5 i0 (.int .u8 0) 1 1 Tryd.underlying73 hi0 hz0 hz1 hz2 rfl (by decide) _ _ _ rfl (HOWN.out.alloc _) ⟨wr.heap.size, 0, none⟩ 1 1 [.int .u8 32] rfl rfl (World.news_of_block (cs := #[_]) (t := 5) (fr := (0, 0)) (heap_alloc_new wr _)) (by simp [Value.oneCell']) (by omega) (by unfold maxLen; have := HSH.out; omega) (by have := HSH.out; omega) (by simp; omega) (wr.heap.size + 1) (by simp) ?c1)
            case c1 =>
              intro gg cap w2 hown2 hgrow hat hlt'
              have HO := Lib.hid (show w2.ownsRow w.heap.size 5 1 (.slice (some ⟨gg, 0, none⟩) ((textL (l.take j)).length + 1) cap) (before l j).length (Lib.byteCells (before l j)) by
                rw [HE0.out, List.length_append, ← byteCells_app]
                exact hown2)
              have HB := Lib.hid ((HBR.out.alloc hsz _).grown hgrow (by simp; omega) fun q hq => (own_typ1 HOWN.out hq).1)
              clear hown2 hgrow hat hlt'
              go_wp2_with fail
              go_meet
              case rel => exact ⟨HO.out, HB.out⟩
        case rest =>
          obtain ⟨hown, hb⟩ := hcut
          obtain ⟨bb, off, rfl, hbb, hcl⟩ := HR.out.pc hb hlt
          obtain ⟨c0, c1, c2⟩ := hcl hjl
          have HO := Lib.hid hown
          have HB := Lib.hid hb
          have hsz2 := hb.size
          clear hcl hown hb HOWN HBR hsz
          generalize l[j] = p at *
          rcases HOK.out with ⟨h1, h2, h3⟩ | ⟨h1, h2, h3⟩ | ⟨h1, h2, h3⟩
          · obtain ⟨m, hm⟩ : ∃ m : Nat, p.n = m := ⟨p.n.toNat, by omega⟩
            have hm20 : m ≤ 1048576 := by have := HN.out; omega
            have HE1 := Lib.hid (show pcT p = [61] ++ Lib.decDigits m by
              unfold pcT
              rw [h1, hm]
              rfl)
            have HDL := Lib.hid (decDigits_len 7 m (by decide) (by omega))
            rw [h1] at c0
            rw [hm] at c1
            have C1 := Lib.hid c1
            have cca : (wc.alloc (.cells #[.int .u8 61] 5)).cell? ⟨bb, off + j * 3 + 1, none⟩ = some (.int .i64 m) := (((Below.refl wc.heap.size wc).alloc (Nat.le_refl _) _).cell (p := ⟨bb, off + j * 3 + 1, none⟩) (by show bb < _; omega)).trans c1
            clear h1 h2 h3 hm
            go_wp2_with fail
            go_region_law (first
              | (refine step_append_lies _ (by rfl) _ _ _ (by rfl) w.heap.size 5 i0 _ 1 1 Tryd.underlying73 hi0 hz0 hz1 hz2 rfl (by decide) _ (before l j).length _ (by rfl) ((HO.out.alloc _).drew) ⟨wc.heap.size, 0, none⟩ 1 1 [_] (by rfl) (by rfl) (World.news_of_block (cs := #[_]) (t := 5) (fr := (0, 0)) (heap_alloc_new wc _)) (by simp [Value.oneCell']) (by omega) (by unfold maxLen; have := HSB.out; omega) (by have := HSB.out; omega) (by simp; omega) (wc.heap.size + 1) (by simp) ?_; intro gg cap w2 hown2 hgrow hat hlt'; have hbw : Below w.heap.size w w2 := (HB.out.alloc hsz2 _).drew.grown hgrow (by simp; omega) fun q hq => (own_typ1 HO.out hq).1; have cc1 : w2.cell? ⟨bb, off + j * 3 + 1, none⟩ = some (.int .i64 m) := (hbw.cell (p := ⟨bb, off + j * 3 + 1, none⟩) hbb).trans ((HB.out.cell (p := ⟨bb, off + j * 3 + 1, none⟩) hbb).symm.trans C1.out); have HBW := Lib.hid hbw; have HOW := Lib.hid hown2; clear hbw hown2 hgrow hat hlt')
              | (go_simp; go_at_call 70; refine (digits_nat m (by omega) _).mono ?_; rintro e w3 ⟨rfl, hb3⟩; have HO3 := Lib.hid (own_below HOW.out hb3); have HB3 := Lib.hid (HBW.out.trans (hb3.mono HBW.out.size)); clear hb3)
              | (refine step_append_str (by rfl) _ _ _ _ (by rfl) w.heap.size 5 i0 Tryd.underlying73 Tryd.underlying9 hi0 hz0 hz1 hz2 _ _ _ (by rfl) HO3.out _ (by rfl) (by unfold maxLen; have := HSB.out; have := HDL.out; show _ + 1 + (Lib.decDigits m).length ≤ _; omega) (by have := HSB.out; have := HDL.out; show _ + 1 + (Lib.decDigits m).length ≤ _; omega) HB3.out.size ?_; intro v4 w4 hown4 hgrow4; have HB4 := Lib.hid (HB3.out.grown hgrow4 HB3.out.size fun q hq => (own_typ1 HO3.out hq).1); have HO4 := Lib.hid hown4; clear hown4 hgrow4))
            all_goals
              have HO5 := Lib.hid (own_text (c := 61) HO4.out rfl (by rw [← HE1.out, HBP.out]))
              clear HO HB HBW HOW HO3 HB3 HO4 c0 c1 c2 cc1 cca
              go_wp2_with fail
              go_roundw
              case rel => exact ⟨j + 1, by omega, by go_num, HO5.out, HB4.out⟩
              case measure => simp [intOf]; omega
          · obtain ⟨m, hm⟩ : ∃ m : Nat, p.n = m := ⟨p.n.toNat, by omega⟩
            have hm20 : m ≤ 1048576 := by have := HN.out; omega
            have HE1 := Lib.hid (show pcT p = [45] ++ Lib.decDigits m by
              unfold pcT
              rw [h1, hm]
              rfl)
            have HDL := Lib.hid (decDigits_len 7 m (by decide) (by omega))
            rw [h1] at c0
            rw [hm] at c1
            have C1 := Lib.hid c1
            have cca : (wc.alloc (.cells #[.int .u8 45] 5)).cell? ⟨bb, off + j * 3 + 1, none⟩ = some (.int .i64 m) := (((Below.refl wc.heap.size wc).alloc (Nat.le_refl _) _).cell (p := ⟨bb, off + j * 3 + 1, none⟩) (by show bb < _; omega)).trans c1
            clear h1 h2 h3 hm
            go_wp2_with fail
            go_region_law (first
              | (refine step_append_lies _ (by rfl) _ _ _ (by rfl) w.heap.size 5 i0 _ 1 1 Tryd.underlying73 hi0 hz0 hz1 hz2 rfl (by decide) _ (before l j).length _ (by rfl) ((HO.out.alloc _).drew) ⟨wc.heap.size, 0, none⟩ 1 1 [_] (by rfl) (by rfl) (World.news_of_block (cs := #[_]) (t := 5) (fr := (0, 0)) (heap_alloc_new wc _)) (by simp [Value.oneCell']) (by omega) (by unfold maxLen; have := HSB.out; omega) (by have := HSB.out; omega) (by simp; omega) (wc.heap.size + 1) (by simp) ?_; intro gg cap w2 hown2 hgrow hat hlt'; have hbw : Below w.heap.size w w2 := (HB.out.alloc hsz2 _).drew.grown hgrow (by simp; omega) fun q hq => (own_typ1 HO.out hq).1; have cc1 : w2.cell? ⟨bb, off + j * 3 + 1, none⟩ = some (.int .i64 m) := (hbw.cell (p := ⟨bb, off + j * 3 + 1, none⟩) hbb).trans ((HB.out.cell (p := ⟨bb, off + j * 3 + 1, none⟩) hbb).symm.trans C1.out); have HBW := Lib.hid hbw; have HOW := Lib.hid hown2; clear hbw hown2 hgrow hat hlt')
              | (go_simp; go_at_call 70; refine (digits_nat m (by omega) _).mono ?_; rintro e w3 ⟨rfl, hb3⟩; have HO3 := Lib.hid (own_below HOW.out hb3); have HB3 := Lib.hid (HBW.out.trans (hb3.mono HBW.out.size)); clear hb3)
              | (refine step_append_str (by rfl) _ _ _ _ (by rfl) w.heap.size 5 i0 Tryd.underlying73 Tryd.underlying9 hi0 hz0 hz1 hz2 _ _ _ (by rfl) HO3.out _ (by rfl) (by unfold maxLen; have := HSB.out; have := HDL.out; show _ + 1 + (Lib.decDigits m).length ≤ _; omega) (by have := HSB.out; have := HDL.out; show _ + 1 + (Lib.decDigits m).length ≤ _; omega) HB3.out.size ?_; intro v4 w4 hown4 hgrow4; have HB4 := Lib.hid (HB3.out.grown hgrow4 HB3.out.size fun q hq => (own_typ1 HO3.out hq).1); have HO4 := Lib.hid hown4; clear hown4 hgrow4))
            all_goals
              have HO5 := Lib.hid (own_text (c := 45) HO4.out rfl (by rw [← HE1.out, HBP.out]))
              clear HO HB HBW HOW HO3 HB3 HO4 c0 c1 c2 cc1 cca
              go_wp2_with fail
              go_roundw
              case rel => exact ⟨j + 1, by omega, by go_num, HO5.out, HB4.out⟩
              case measure => simp [intOf]; omega
          · have HE1 := Lib.hid (show pcT p = [43] ++ hexL p.t.data.toList by
              unfold pcT
              rw [h1]
              rfl)
            have HLT := Lib.hid (show p.t.size ≤ 3000000 by
              have := HS1.out
              rw [← HBP.out, HE1.out, List.length_append, List.length_append, hexL_len] at this
              have e : p.t.data.toList.length = p.t.size := Array.length_toList ..
              omega)
            rw [h1] at c0
            have HCT := Lib.hid ((HB.out.cell (p := ⟨bb, off + j * 3 + 2, none⟩) hbb).symm.trans c2)
            clear h1 h2 h3
            go_wp2_with (at_builtin; refine wpList_append_lies _ rfl _ _ 73 rfl w.heap.size 5 i0 (.int .u8 0) 1 1 Tryd.underlying73 hi0 hz0 hz1 hz2 rfl (by decide) _ _ _ rfl (HO.out.alloc _) ⟨wc.heap.size, 0, none⟩ 1 1 [.int .u8 43] rfl rfl (World.news_of_block (cs := #[_]) (t := 5) (fr := (0, 0)) (heap_alloc_new wc _)) (by simp [Value.oneCell']) (by omega) (by unfold maxLen; have := HSB.out; omega) (by have := HSB.out; omega) (by simp; omega) (wc.heap.size + 1) (by simp) ?c1)
            case c1 =>
              intro gg cap w2 hown2 hgrow hat hlt'
              have HO2 := Lib.hid (show w2.ownsRow w.heap.size 5 1 (.slice (some ⟨gg, 0, none⟩) ((before l j).length + 1) cap) ((before l j).length + 1 + 2 * 0) (Lib.byteCells (before l j ++ [43] ++ hexL (p.t.data.toList.take 0))) by
                rw [show before l j ++ [43] ++ hexL (p.t.data.toList.take 0) = before l j ++ [43] from List.append_nil _, ← byteCells_app]
                exact hown2)
              have HB2 := Lib.hid ((HB.out.alloc hsz2 _).grown hgrow (by simp; omega) fun q hq => (own_typ1 HO.out hq).1)
              clear hown2 hgrow hat hlt' HO HB c0 c1 c2 hsz2
              go_wp2_with fail
              go_loopw [5, 7] (fun vo s wr => ∃ (i : Nat), i ≤ p.t.size ∧ s = .int .i64 i ∧ wr.ownsRow w.heap.size 5 1 vo ((before l j).length + 1 + 2 * i) (Lib.byteCells (before l j ++ [43] ++ hexL (p.t.data.toList.take i))) ∧ Below w.heap.size w wr) (fun _ s _ => p.t.size - (intOf s).toNat)
              case atStart => exact ⟨0, Nat.zero_le _, rfl, HO2.out, HB2.out⟩
              case round =>
                obtain ⟨i, hi, rfl, hown, hbr⟩ := hrel
                have HOWN := Lib.hid hown
                have HBR := Lib.hid hbr
                have hsz := hbr.size
                have ct := (hbr.cell (p := ⟨bb, off + j * 3 + 2, none⟩) hbb).trans HCT.out
                clear hown hbr HO2 HB2
                have hlt3 := HLT.out
                by_cases hlt2 : i < p.t.size
                · have hi1 : (i : Int) < (p.t.size : Int) := by omega
                  have hi0' : (0 : Int) ≤ (i : Int) := by omega
                  have hb := u8lt p.t[i]
                  have hW : IntKind.u8.wrap ((p.t[i].toNat : Int) / 16) = (p.t[i].toNat : Int) / 16 := wrap8 _ (by omega) (by omega)
                  have hT : Int.tmod (p.t[i].toNat : Int) 16 = (p.t[i].toNat : Int) % 16 := Int.tmod_eq_emod_of_nonneg (by omega)
                  have HXT := Lib.hid (hexL_take p.t hlt2)
                  have HQ := Lib.hid (fun u => show Calls Tryd.prog 71 #[.int .u8 ((p.t[i].toNat : Int) / 16)] u _ from hex_any (p.t[i].toNat / 16) (by omega) u)
                  have HM := Lib.hid (fun u => show Calls Tryd.prog 71 #[.int .u8 ((p.t[i].toNat : Int) % 16)] u _ from hex_any (p.t[i].toNat % 16) (by omega) u)
                  go_wp2_with fail
                  go_region_held3 (fun w' => w'.cell? ⟨bb, off + j * 3 + 2, none⟩ = some (.string p.t)) (first | exact ct | exact ct3 | go_keep) (first
                    | (refine step_append_lies _ (by rfl) _ _ _ (by rfl) w.heap.size 5 i0 _ 1 1 Tryd.underlying73 hi0 hz0 hz1 hz2 rfl (by decide) _ ((before l j).length + 1 + 2 * i) _ (by rfl) ((HOWN.out.alloc _).drew) ⟨wr.heap.size, 0, none⟩ 2 2 [_, _] (by rfl) (by rfl) (World.news_of_block (cs := #[_, _]) (t := 5) (fr := (0, 0)) (heap_alloc_new wr _)) (by simp [Value.oneCell']) (by omega) (by unfold maxLen; have := HSB.out; omega) (by have := HSB.out; omega) (by simp; omega) (wr.heap.size + 1) (by simp) ?_; intro gg cap w3 hown3 hgrow hat hlt'; have hbw : Below w.heap.size w w3 := (HBR.out.alloc hsz _).drew.grown hgrow (by simp; omega) fun q hq => (own_typ1 HOWN.out hq).1; have ct3 := (hbw.cell (p := ⟨bb, off + j * 3 + 2, none⟩) hbb).trans HCT.out)
                    | (go_at_call 71; (with_reducible refine (HQ.out _).mono ?_); rintro e w4 ⟨rfl, rfl⟩)
                    | (go_at_call 71; (with_reducible refine (HM.out _).mono ?_); rintro e w4 ⟨rfl, rfl⟩))
                  all_goals
                    have k1 := hexC (p.t[i].toNat / 16) (by omega)
                    have HO := Lib.hid (show w3.ownsRow w.heap.size 5 1 (.slice (some ⟨gg, 0, none⟩) ((before l j).length + 1 + 2 * i + 2) cap) ((before l j).length + 1 + 2 * (i + 1)) (Lib.byteCells (before l j ++ [43] ++ hexL (p.t.data.toList.take (i + 1)))) by
                      rw [HXT.out, show (before l j).length + 1 + 2 * (i + 1) = (before l j).length + 1 + 2 * i + 2 by omega, ← List.append_assoc, ← byteCells_app]
                      exact hown3)
                    have HB := Lib.hid hbw
                    clear hown3 hgrow hat hlt' hbw ct3 k1 HOWN HBR ct
                    go_wp2_with fail
                    go_roundw
                    case rel => exact ⟨i + 1, by omega, by go_num, HO.out, HB.out⟩
                    case measure => simp [intOf]; omega
                · obtain rfl : i = p.t.size := by omega
                  have HO5 := Lib.hid (show wr.ownsRow w.heap.size 5 1 _ (textL (l.take (j + 1))).length (Lib.byteCells (textL (l.take (j + 1)))) by
                    have := HOWN.out
                    rw [show p.t.data.toList.take p.t.size = p.t.data.toList from List.take_of_length_le (Nat.le_of_eq (Array.length_toList ..)), List.append_assoc, ← HE1.out, HBP.out] at this
                    refine own_len this ?_
                    rw [← HBP.out, HE1.out, List.length_append, List.length_append, hexL_len, ← Nat.add_assoc]
                    show _ = _ + 1 + 2 * p.t.data.toList.length
                    rw [show p.t.data.toList.length = p.t.size from Array.length_toList ..])
                  go_wp2_with fail
                  go_roundw
                  case rel => exact ⟨j + 1, by omega, by go_num, HO5.out, HBR.out⟩
                  case measure => simp [intOf]; omega
      · obtain rfl : j = n := by omega
        rw [List.take_of_length_le (by omega)] at HOWN
        obtain ⟨ao', cap, rfl, hconv⟩ := own_conv HOWN.out rfl
        clear HOWN
        go_wp2_with fail
        go_ret2
        exact ⟨by rw [HE.out, HCK.out] <;> rfl, HBR.out⟩
  · have HE := Lib.hid (show txtP l = [] by unfold txtP; rw [if_neg hc])
    have hc2 : (checkP l == 0) = false := by rw [beq_eq_false_iff_ne]; exact hc
    clear hc
    go_wp2_with fail
    go_ret2
    exact ⟨by rw [HE.out] <;> rfl, HB1.out⟩
end Go.Proofs.YtdfkbahlngijcaaDoor
