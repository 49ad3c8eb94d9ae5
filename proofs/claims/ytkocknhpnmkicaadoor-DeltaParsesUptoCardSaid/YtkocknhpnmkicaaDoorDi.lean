/- Deltas: the normal form of the program: form. -/
import Derived.Test.YtkocknhpnmkicaaDoorDh
namespace Go.Proofs.YtkocknhpnmkicaaDoor
open Go.RowKit
set_option linter.unusedVariables false

theorem isF_text {B bO bT bG : Nat} {v : Value} {o : List Dp} {t s : List UInt8} {g : Nat} {w w' : World} (h : IsF B bO bT bG v o t g w) (hA : Lib.IsBuilderF 65 5 B bT (Lib.byteCells (t ++ s)) w') (hb : Below B w w') (ho : Lib.OthersKept 5 (some bT) w w') :
    IsF B bO bT bG v o (t ++ s) g w' := by
  obtain ⟨n1, n2, n3, n4⟩ := h.ne
  refine ⟨others_cells ho h.out n1 (by decide), own_kept h.own (KeptF.of_others (bO := bO) (bG := bG) (v := .slice none 0 0) hb ho) (by decide) fun q hq => ⟨(n4 q hq).1, (n4 q hq).2.1, (n4 q hq).2.2, by simp [Value.ownBlock]⟩, hA, others_cells ho h.gone (Ne.symm n3) (by decide), h.bo, h.bg⟩
theorem isF_drew {B bO bT bG : Nat} {v : Value} {o : List Dp} {t : List UInt8} {g : Nat} {w : World} (h : IsF B bO bT bG v o t g w) : IsF B bO bT bG v o t g w.drew := ⟨h.out, h.own, h.text, h.gone, h.bo, h.bg⟩
theorem isF_alloc {B bO bT bG : Nat} {v : Value} {o : List Dp} {t : List UInt8} {g : Nat} {w : World} (h : IsF B bO bT bG v o t g w) (x : Obj) : IsF B bO bT bG v o t g (w.alloc x) :=
  ⟨block_alloc h.out x, h.own.alloc x, h.text.alloc x, block_alloc h.gone x, h.bo, h.bg⟩
theorem isF_lt {B bO bT bG : Nat} {v : Value} {o : List Dp} {t : List UInt8} {g : Nat} {w : World} (h : IsF B bO bT bG v o t g w) : bO < w.heap.size ∧ bT < w.heap.size ∧ bG < w.heap.size ∧ ∀ q, v.ownBlock = some q → q < w.heap.size :=
  ⟨block_lt h.out, BuilderF_lt h.text, block_lt h.gone, fun q hq => own_lt h.own hq⟩
/-- the number of the last kept piece, stored -/
theorem isF_last {B bO bT bG : Nat} {gg cap len : Nat} {o : List Dp} {m : Nat} {t : List UInt8} {g : Nat} {w : World} (h : IsF B bO bT bG (.slice (some ⟨gg, 0, none⟩) len cap) (o ++ [.ret m]) t g w) (hl : len = o.length + 1) (k : Nat) :
    IsF B bO bT bG (.slice (some ⟨gg, 0, none⟩) len cap) (o ++ [.ret k]) t g (w.setCell ⟨gg, o.length * 3 + 1, none⟩ (.int .i64 k)) := by
  obtain ⟨n1, n2, n3, n4⟩ := h.ne
  subst hl
  obtain ⟨m1, m2, m3⟩ := n4 gg rfl
  have hst := (show w.ownsRow B 38 3 (.slice (some ⟨gg, 0, none⟩) (o.length + 1) cap) (o.length + 1) (flatR fP ((o ++ [Dp.ret m]).map toP)) from own_len h.own (by simp)).stored (o.length * 3 + 1) (.int .i64 k)
  obtain ⟨cur, hcur⟩ := (own_typS h.own rfl).2
  refine ⟨block_setCell_other h.out m1 _, ?_, ?_, block_setCell_other h.gone m3 _, h.bo, h.bg⟩
  · refine own_len (n := o.length + 1) ?_ (by simp)
    have e : (flatR fP ((o ++ [Dp.ret m]).map toP)).set (o.length * 3 + 1) (.int .i64 k) = flatR fP ((o ++ [Dp.ret k]).map toP) := by
      rw [List.map_append, List.map_append, flatR_app, flatR_app]
      have hlen : (flatR fP (o.map toP)).length = o.length * 3 := by rw [flatR_len fP_len, List.length_map]
      rw [List.set_append, if_neg (by omega), hlen, show o.length * 3 + 1 - o.length * 3 = 1 by omega]
      rfl
    rw [e] at hst
    exact hst.1
  · have key : ∀ p, Lib.BuilderAtF 65 5 B bT p (Lib.byteCells t) w → Lib.BuilderAtF 65 5 B bT p (Lib.byteCells t) (w.setCell ⟨gg, o.length * 3 + 1, none⟩ (.int .i64 k)) := by
      rintro p ⟨h1, u, h2, h3, h4⟩
      refine ⟨h1, u, block_setCell_other h2 (by exact m2) _, ⟨h3.1, ?_⟩, h4⟩
      rcases h3.2 with hn | ⟨q, cap', cu, fz, hv, hbg, hq, rest⟩
      · exact .inl hn
      · exact .inr ⟨q, cap', cu, fz, hv, hbg, block_setCell_other hq (fun e : gg = q => by
          subst e
          exact absurd rfl (cells_ty hcur hq (by decide))) _, rest⟩
    exact h.text.elim (fun x => .inl (key _ x)) (fun x => .inr (key _ x))

/-- between the pieces -/
def FormAt (l : List Pc) (n B bO bT bG : Nat) (w : World) (j : Nat) (wr : World) : Prop :=
  ∃ (v : Value) (o : List Dp) (t : List UInt8) (g : Nat), IsF B bO bT bG v o t g wr ∧ Dp.form (o ++ (Dp.gapI t ++ (Dp.gapD g ++ (l.drop j).map ofP))) = Dp.form (l.map ofP) ∧ Dp.Norm o ∧ Dp.EndsR o ∧ o.length ≤ 3 * j ∧ Below w.heap.size w wr ∧ w.heap.size + 3 ≤ wr.heap.size
theorem sI_gap (t : List UInt8) (g : Nat) : Dp.sI (Dp.gapI t) = 0 ∧ Dp.sI (Dp.gapD g) = g ∧ Dp.sO (Dp.gapI t) = t.length ∧ Dp.sO (Dp.gapD g) = 0 := by
  unfold Dp.gapI Dp.gapD
  by_cases h1 : t = [] <;> by_cases h2 : g = 0 <;> simp [h1, h2, Dp.sI, Dp.sO, Dp.inn, Dp.out]
theorem form_sums {l : List Pc} {o : List Dp} {t : List UInt8} {g j : Nat} (h : Dp.form (o ++ (Dp.gapI t ++ (Dp.gapD g ++ (l.drop j).map ofP))) = Dp.form (l.map ofP)) :
    Dp.sI o + g + sIP (l.drop j) = sIP l ∧ Dp.sO o + t.length + sOP (l.drop j) = sOP l := by
  obtain ⟨g1, g2, g3, g4⟩ := sI_gap t g
  have hI := congrArg Dp.sI h
  have hO := congrArg Dp.sO h
  rw [Dp.sI_form, Dp.sI_form, Dp.sI_append, Dp.sI_append, Dp.sI_append, g1, g2] at hI
  rw [Dp.sO_form, Dp.sO_form, Dp.sO_append, Dp.sO_append, Dp.sO_append, g3, g4] at hO
  unfold sIP sOP
  exact ⟨by rw [← hI]; omega, by rw [← hO]; omega⟩
theorem drop_sums {l : List Pc} {j : Nat} (h : j < l.length) : sIP (l.drop j) = (ofP l[j]).inn + sIP (l.drop (j + 1)) ∧ sOP (l.drop j) = (ofP l[j]).out + sOP (l.drop (j + 1)) := by
  rw [List.drop_eq_getElem_cons h]
  exact ⟨rfl, rfl⟩
theorem own_form {w : World} {B s : Nat} {e : TypeId} {v : Value} {n : Nat} {xs : List Value} (h : w.ownsRow B e s v n xs) : ∃ ao cap, v = .slice ao n cap ∧ (0 < n → ∃ g, ao = some ⟨g, 0, none⟩) := by
  rcases h.2 with ⟨h1, h2⟩ | ⟨g, cap, cur, h1, _⟩
  · exact ⟨none, 0, by rw [h1, h2], fun h => by omega⟩
  · exact ⟨_, cap, h1, fun _ => ⟨g, rfl⟩⟩
theorem ret_more {o : List Dp} {m k : Nat} {r F : List Dp} (h : Dp.form (o ++ [.ret m] ++ .ret k :: r) = F) : Dp.form (o ++ [.ret (m + k)] ++ (Dp.gapI [] ++ (Dp.gapD 0 ++ r))) = F := by
  rw [← h, List.append_assoc, List.append_assoc]
  refine Dp.form_congr o ?_
  exact (Dp.cons_ret m k _).symm
theorem put_more {o : List Dp} {k : Nat} {r F : List Dp} (h : Dp.form (o ++ .ret k :: r) = F) : Dp.form (o ++ [.ret k] ++ (Dp.gapI [] ++ (Dp.gapD 0 ++ r))) = F := by
  rw [← h, List.append_assoc]
  rfl
theorem fits_ret {p : Dp} {a b : Nat} (h : Dp.fits p (.ret a)) : Dp.fits p (.ret b) := by cases p <;> exact h
theorem norm_ret {o : List Dp} {a b : Nat} (h : Dp.Norm (o ++ [.ret a])) : Dp.Norm (o ++ [.ret b]) := Dp.norm_snoc (Dp.norm_init h) fun u p e => fits_ret (Dp.norm_last h u p e)
theorem last_ret {o : List Dp} (h : ¬ ∃ o1 m1, o = o1 ++ [.ret m1]) (k : Nat) : Dp.lastFits o (.ret k) := fun u p e => by
  cases p with
  | ret m => exact absurd ⟨u, m, e⟩ h
  | ins t => trivial
  | del m => trivial
theorem nil_or_snoc (o : List Dp) : o = [] ∨ ∃ o1 d, o = o1 ++ [d] := by
  rcases List.eq_nil_or_concat o with h | ⟨l, a, h⟩
  · exact .inl h
  · exact .inr ⟨l, a, by rw [h]; simp⟩
theorem str_cells (t : ByteArray) : Lib.strCells t = Lib.byteCells t.data.toList := by
  rw [← strCells_bytes]
theorem form_begin (l : List Pc) (n : Nat) (w : World) (w' : World) (hw : w' = ((w.alloc (.cells #[.slice none 0 0] 22)).alloc (.cells #[.pointer none, .slice none 0 0] 65)).alloc (.cells #[.int .i64 0] 3)) :
    FormAt l n w.heap.size w.heap.size (w.heap.size + 1) (w.heap.size + 1 + 1) w 0 w' := by
  subst hw
  refine ⟨.slice none 0 0, [], [], 0, ⟨?_, ⟨rfl, .inl ⟨rfl, rfl⟩⟩, ?_, ?_, Nat.le_refl _, by omega⟩, rfl, trivial, Dp.EndsR.nil, Nat.zero_le _, ?_, by simp⟩
  · exact block_alloc (block_alloc (block_new _ _) _) _
  · refine (byteCells_nilB (.inl rfl) (by omega) ?_)
    exact block_alloc (block_new' _ _ _ (by simp)) _
  · exact block_new' _ _ _ (by simp)
  · exact (((Below.refl _ w).alloc (Nat.le_refl _) _).alloc (by simp) _).alloc (by simp; omega) _

set_option maxRecDepth 100000 in
set_option maxHeartbeats 8000000 in
theorem form_any (ao : Option Addr) (n c : Nat) (l : List Pc) (w : World) (h : IsR fP w ao n l) (hn : n ≤ 300000) (hok : AllOk l) (hI : sIP l ≤ 1000000000000) (hO : sOP l ≤ 100000000000000) :
    Calls Tryd.prog 43 #[.slice ao n c] w fun e w' => ∃ v, e = .returned v ∧ w'.ownsRow w.heap.size 38 3 v (formP l).length (flatR fP (formP l)) ∧ Below w.heap.size w w' := by
  obtain ⟨i0, hi0, hz0, hz1, hz2⟩ := info_parts infoPc
  have hmf : ∀ (fn : Fn) (first cap : Array Value) (w : World), (Instr.makeFunc fn first cap).run Tryd.prog w = .ok (.func fn first cap) w := fun _ _ _ _ => rfl
  have hl := h.1
  have HR := Lib.hid h
  have HOK := Lib.hid hok
  clear h hok
  go_enter Tryd.func43, Tryd.ntmps43
  go_wp2_with fail
  go_loopw [13] (fun s wr => ∃ (j : Nat), j ≤ n ∧ s = .int .i64 j ∧ FormAt l n w.heap.size w.heap.size (w.heap.size + 1) (w.heap.size + 1 + 1) w j wr) (fun s _ => n - (intOf s).toNat)
  case atStart => exact ⟨0, Nat.zero_le _, rfl, form_begin l n w _ rfl⟩
  case round =>
    obtain ⟨j, hj, rfl, v, o, t, g, hF, hform, hnorm, hends, hlen, hbr, hsz⟩ := hrel
    obtain ⟨hs1, hs2⟩ := form_sums hform
    have HF := Lib.hid hF
    have HFORM := Lib.hid hform
    have HNORM := Lib.hid hnorm
    have HENDS := Lib.hid hends
    have HBR := Lib.hid hbr
    have HLT := Lib.hid (isF_lt hF)
    by_cases hlt : j < n
    · have hjl : j < l.length := by omega
      obtain ⟨hd1, hd2⟩ := drop_sums hjl
      have HPI := Lib.hid (inP_of (HOK.out l[j] (List.getElem_mem hjl)))
      have HPK := Lib.hid (okP_cases (HOK.out l[j] (List.getElem_mem hjl)))
      have HDR := Lib.hid (show (l.drop j).map ofP = ofP l[j] :: (l.drop (j + 1)).map ofP by rw [List.drop_eq_getElem_cons hjl]; rfl)
      have hj1 : (j : Int) < (n : Int) := by omega
      have hj0 : (0 : Int) ≤ (j : Int) := by omega
      obtain ⟨bb, off, rfl, hbb, hcl⟩ := HR.out.pc hbr hlt
      obtain ⟨c0, c1, c2⟩ := hcl hjl
      have hgI : g ≤ 1000000000000 := by omega
      have htO : t.length ≤ 100000000000000 := by omega
      have HSI := Lib.hid hs1
      have HSO := Lib.hid hs2
      have HD1 := Lib.hid hd1
      have HD2 := Lib.hid hd2
      clear hF hform hnorm hends hbr hcl hs1 hs2 hd1 hd2
      generalize l[j] = p at *
      have HP := Lib.hid (block_new wr (.cells #[.int .u8 p.k, .int .i64 p.n, .string p.t] 38))
      have HFA := Lib.hid (isF_alloc HF.out (.cells #[.int .u8 p.k, .int .i64 p.n, .string p.t] 38))
      have HBA := Lib.hid (HBR.out.alloc HBR.out.size (.cells #[.int .u8 p.k, .int .i64 p.n, .string p.t] 38))
      rcases HPK.out with ⟨h1, h2, h3⟩ | ⟨h1, h2, h3⟩ | ⟨h1, h2, h3⟩
      · obtain ⟨m, hm⟩ : ∃ m : Nat, p.n = m := ⟨p.n.toNat, by omega⟩
        have hop : ofP p = .ret m := by
          unfold ofP
          rw [h1, hm]
          rfl
        have hm1 : 0 < m := by omega
        have hin : (ofP p).inn = m := by rw [hop]; rfl
        have hpt := str_empty h3
        have hmI : Dp.sI o + g + m ≤ 1000000000000 := by have := HSI.out; have := HD1.out; omega
        have HNEW := Lib.hid (show Dp.form ((o ++ (Dp.gapI t ++ Dp.gapD g)) ++ (.ret m :: (l.drop (j + 1)).map ofP)) = Dp.form (l.map ofP) by
          rw [← HFORM.out, HDR.out, hop, List.append_assoc, List.append_assoc])
        have HNO := Lib.hid (Dp.norm_gap HNORM.out HENDS.out t g)
        rw [h1] at c0
        rw [hm] at c1
        rw [hpt] at c2
        have HCE := Lib.hid (show (.cells #[.int .u8 p.k, .int .i64 p.n, .string p.t] 38 : Obj) = .cells #[.int .u8 1, .int .i64 m, .string ⟨#[]⟩] 38 by rw [h1, hm, hpt])
        rw [HCE.out] at HFA HBA HP
        have HFL := Lib.hid (flush_any w.heap.size w.heap.size (w.heap.size + 1) (w.heap.size + 1 + 1) v o t g _ HFA.out (by simp; omega) (by omega) htO (by omega))
        clear h1 h2 h3 hm hop hin hpt
        go_wp2_with fail
        refine (HFL.out).mono ?_; rintro e w2 ⟨rfl, v2, hf2, hk2, hv2⟩
        have hp2 : w2.heap[wr.heap.size]? = some (.cells #[.int .u8 1, .int .i64 m, .string ⟨#[]⟩] 38 (0, 0)) := hk2.2 _ _ HP.out (by omega) (by omega) (by omega) (fun e => by have := HLT.out.2.2.2 _ e; omega) (fun c fz e => by injection e with _ e2; exact absurd e2 (by decide))
        obtain ⟨o2, ho2⟩ : ∃ o2, o2 = o ++ (Dp.gapI t ++ Dp.gapD g) := ⟨_, rfl⟩
        have hsi2 : Dp.sI o2 = Dp.sI o + g := by
          obtain ⟨g1, g2, -, -⟩ := sI_gap t g
          rw [ho2, Dp.sI_append, Dp.sI_append, g1, g2]; omega
        have hlen2 : o2.length ≤ 3 * j + 2 := by
          rw [ho2, List.length_append, List.length_append]
          unfold Dp.gapI Dp.gapD
          by_cases h1 : t = [] <;> by_cases h2 : g = 0 <;> simp [h1, h2] <;> omega
        have hnew := HNEW.out
        have hno := HNO.out
        rw [← ho2] at hf2 hnew hno
        have HF2 := Lib.hid hf2
        have HB2 := Lib.hid (HBA.out.trans hk2.1)
        have HP2 := Lib.hid hp2
        have hs2 : w.heap.size + 3 ≤ w2.heap.size := by have := hk2.1.size; simp at this; omega
        clear hk2 hv2 ho2 HFL HNEW HNO HF HFORM HNORM HENDS HBR HLT HFA HBA HP HDR
        obtain ⟨ao2, cap2, rfl, hsome⟩ := own_form hf2.own
        have cO := block_cell hf2.out 0
        have fO := block_free hf2.out 0
        simp at cO
        by_cases hr : ∃ o1 m1, o2 = o1 ++ [.ret m1]
        · obtain ⟨o1, m1, rfl⟩ := hr
          obtain ⟨gg, rfl⟩ := hsome (by simp)
          have hL : (o1 ++ [Dp.ret m1]).length = o1.length + 1 := by simp
          have hown := hf2.own
          rw [hL] at hown cO
          have hk0 := hown.cellAt (o1.length * 3) (by omega)
          have hk1 := hown.cellAt (o1.length * 3 + 1) (by omega)
          have hf1 := hown.frozenAt (o1.length * 3 + 1)
          have hj2 : o1.length < ((o1 ++ [Dp.ret m1]).map toP).length := by simp
          have hat : ((o1 ++ [Dp.ret m1]).map toP)[o1.length] = ⟨1, m1, ⟨#[]⟩⟩ := by simp [toP]
          have e0 := flatR_at fP_len (f := fP) ((o1 ++ [Dp.ret m1]).map toP) o1.length 0 hj2 (by omega)
          have e1 := flatR_at fP_len (f := fP) ((o1 ++ [Dp.ret m1]).map toP) o1.length 1 hj2 (by omega)
          rw [hat] at e0 e1
          rw [show o1.length * 3 = o1.length * 3 + 0 from rfl, e0] at hk0
          rw [e1] at hk1
          have hk0' : w2.cell? ⟨gg, o1.length * 3, none⟩ = some (.int .u8 1) := hk0
          have hk1' : w2.cell? ⟨gg, o1.length * 3 + 1, none⟩ = some (.int .i64 m1) := hk1
          have hm1I : m1 + m ≤ 1000000000000 := by
            rw [Dp.sI_append] at hsi2
            have : Dp.sI [Dp.ret m1] = m1 := rfl
            omega
          have hadd : IntKind.i64.wrap ((m1 : Int) + (m : Int)) = (m1 : Int) + (m : Int) := IntWalk.i64_in _ (by omega)
          have hob : o1.length ≤ 1000000 := by omega
          have hob0 : (0 : Int) ≤ (o1.length : Int) := by omega
          have hob1 : (o1.length : Int) ≤ 1000000 := by omega
          have HSI2 := Lib.hid hsi2
          have HN2 := Lib.hid hnew
          have HM2 := Lib.hid hno
          (have q0 := block_cell hp2 0; have q1 := block_cell hp2 1; have q2 := block_cell hp2 2; have f0 := block_free hp2 0; have f1 := block_free hp2 1; have f2 := block_free hp2 2; have hz := block_lt hp2; simp at q0 q1 q2)
          clear hf2 hp2 hown hk0 hk1 hj2 hat e0 e1 hsi2 hnew hno hL hsome
          go_wp2_with fail
          have hsub : IntKind.i64.wrap ((o1.length : Int) + 1 - 1) = (o1.length : Int) := by rw [Int.add_sub_cancel]; exact IntWalk.i64_in _ (by omega)
          go_region
          all_goals
            have hf3 := isF_last HF2.out (by simp) (m1 + m)
            simp only [Int.natCast_add] at hf3
            have HF3 := Lib.hid hf3
            have HB3 := Lib.hid (HB2.out.setCell (p := ⟨gg, o1.length * 3 + 1, none⟩) (own_typS HF2.out.own rfl).1 (.int .i64 ((m1 : Int) + (m : Int))))
            clear hf3 hk0' hk1' hf1 cO fO q0 q1 q2 f0 f1 f2
            go_wp2_with fail
            go_roundw
            case rel => exact ⟨j + 1, by omega, by go_num, _, _, [], 0, isF_drew HF3.out, ret_more HN2.out, norm_ret HM2.out, Dp.EndsR.snoc _ _, by simp at hlen2 ⊢; omega, HB3.out.drew, by simp [World.setCell]; omega⟩
            case measure => simp [intOf]; omega
        · have HSI2 := Lib.hid hsi2
          have HN2 := Lib.hid hnew
          have HM2 := Lib.hid hno
          have HLF := Lib.hid (last_ret hr m)
          have HNE2 := Lib.hid hf2.ne
          rcases nil_or_snoc o2 with rfl | ⟨o1, d, rfl⟩
          · have hown := hf2.own
            have HOW := Lib.hid (show w2.ownsRow w.heap.size 38 3 (.slice ao2 0 cap2) 0 (flatR fP (([] : List Dp).map toP)) from hown)
            have HOWN := Lib.hid (fun (v : Value) (wq : World) (h : wq.ownsRow w.heap.size 38 3 v (0 + 1) (flatR fP (([] : List Dp).map toP) ++ fP (toP (.ret m)))) => h)
            have cO : w2.cell? ⟨w.heap.size, 0, none⟩ = some (.slice ao2 0 cap2) := cO
            (have q0 := block_cell hp2 0; have q1 := block_cell hp2 1; have q2 := block_cell hp2 2; have f0 := block_free hp2 0; have f1 := block_free hp2 1; have f2 := block_free hp2 2; have hz := block_lt hp2; simp at q0 q1 q2)
            clear hf2 hp2 hsi2 hnew hno hsome hr hown
            go_wp2_with (at_builtin; refine wpList_append_lies _ rfl _ _ 22 rfl w.heap.size 38 i0 _ 3 32 Tryd.underlying22 hi0 hz0 hz1 hz2 rfl (by decide) _ 0 _ rfl (HOW.out.alloc _) ⟨w2.heap.size, 0, none⟩ 1 1 [.int .u8 1, .int .i64 m, .string ⟨#[]⟩] rfl rfl (World.news_of_block (cs := #[_, _, _]) (t := 38) (fr := (0, 0)) (heap_alloc_new w2 _)) (by simp [Value.oneCell']) (by omega) (by unfold maxLen; omega) (by omega) (by simp; omega) (w2.heap.size + 1) (by simp) ?c1)
            case c1 =>
              intro gg cap w4 hown4 hgrow4 hat4 hlt4
              have hat : ∀ q, (Value.slice (some ⟨gg, 0, none⟩) (0 + 1) cap).ownBlock = some q → (Value.slice ao2 0 cap2).ownBlock = some q ∨ w2.heap.size ≤ q := fun q hq => by
                obtain rfl : gg = q := by simpa [Value.ownBlock] using hq
                rcases hat4 with h | h
                · exact .inl h
                · exact .inr (by omega)
              obtain ⟨hf5, hk5⟩ := isF_put (d := .ret m) HF2.out (by omega) (KeptF.refl _ _ _ _ _ _) _ (HOWN.out _ _ hown4) hgrow4 hat
              have k4 : w4.heap[w.heap.size]? = some (.cells #[.slice ao2 0 cap2] 22 (0, 0)) := by
                rw [hgrow4.block w.heap.size (block_lt (block_alloc HF2.out.out _)) (fun e => (HNE2.out.2.2.2 _ e.symm).1 rfl)]
                exact block_alloc HF2.out.out _
              have c4 := block_cell k4 0
              have f4 := block_free k4 0
              simp at c4
              have HF5 := Lib.hid hf5
              have HB5 := Lib.hid (HB2.out.trans hk5.1)
              have HS5 := Lib.hid hk5.1.size
              clear hf5 hk5 hown4 hgrow4 hat4 hat k4 q0 q1 q2 f0 f1 f2
              go_wp2_with fail
              go_roundw
              case rel => exact ⟨j + 1, by omega, by go_num, _, _, [], 0, HF5.out, put_more HN2.out, Dp.norm_snoc HM2.out HLF.out, Dp.EndsR.snoc _ _, by simp at hlen2 ⊢; omega, HB5.out, by have := HS5.out; omega⟩
              case measure => simp [intOf]; omega
          · obtain ⟨g2, rfl⟩ := hsome (by simp)
            have hL : (o1 ++ [d]).length = o1.length + 1 := by simp
            have hown := hf2.own
            rw [hL] at hown cO
            have hk0 := hown.cellAt (o1.length * 3) (by omega)
            have hj2 : o1.length < ((o1 ++ [d]).map toP).length := by simp
            have hat : ((o1 ++ [d]).map toP)[o1.length] = toP d := by simp
            have e0 := flatR_at fP_len (f := fP) ((o1 ++ [d]).map toP) o1.length 0 hj2 (by omega)
            rw [hat] at e0
            rw [show o1.length * 3 = o1.length * 3 + 0 from rfl, e0] at hk0
            have hk0' : w2.cell? ⟨g2, o1.length * 3, none⟩ = some (.int .u8 (toP d).k) := hk0
            have hkd : ((toP d).k == 1) = false := by
              cases d with
              | ret x => exact absurd ⟨o1, x, rfl⟩ hr
              | ins x => rfl
              | del x => rfl
            have hob : o1.length ≤ 1000000 := by omega
            have hob0 : (0 : Int) ≤ (o1.length : Int) := by omega
            have hob1 : (o1.length : Int) ≤ 1000000 := by omega
            obtain ⟨xs, hxs⟩ : ∃ xs, xs = flatR fP ((o1 ++ [d]).map toP) := ⟨_, rfl⟩
            rw [← hxs] at hown
            have HXS := Lib.hid hxs
            have HOW := Lib.hid hown
            have HOWN := Lib.hid (fun (v : Value) (wq : World) (h : wq.ownsRow w.heap.size 38 3 v (o1.length + 1 + 1) (xs ++ fP (toP (.ret m)))) => show wq.ownsRow w.heap.size 38 3 v ((o1 ++ [d]).length + 1) (flatR fP ((o1 ++ [d]).map toP) ++ fP (toP (.ret m))) from own_len (by rw [← HXS.out]; exact h) (by simp))
            (have q0 := block_cell hp2 0; have q1 := block_cell hp2 1; have q2 := block_cell hp2 2; have f0 := block_free hp2 0; have f1 := block_free hp2 1; have f2 := block_free hp2 2; have hz := block_lt hp2; simp at q0 q1 q2)
            clear hxs hf2 hp2 hown hk0 hj2 hat e0 hsi2 hnew hno hL hsome hr
            go_wp2_with (at_builtin; refine wpList_append_lies _ rfl _ _ 22 rfl w.heap.size 38 i0 _ 3 32 Tryd.underlying22 hi0 hz0 hz1 hz2 rfl (by decide) _ (o1.length + 1) _ rfl (HOW.out.alloc _) ⟨w2.heap.size, 0, none⟩ 1 1 [.int .u8 1, .int .i64 m, .string ⟨#[]⟩] rfl rfl (World.news_of_block (cs := #[_, _, _]) (t := 38) (fr := (0, 0)) (heap_alloc_new w2 _)) (by simp [Value.oneCell']) (by omega) (by unfold maxLen; omega) (by omega) (by simp; omega) (w2.heap.size + 1) (by simp) ?c1)
            case c1 =>
              intro gg cap w4 hown4 hgrow4 hat4 hlt4
              have hat : ∀ q, (Value.slice (some ⟨gg, 0, none⟩) ((o1.length + 1) + 1) cap).ownBlock = some q → (Value.slice (some ⟨g2, 0, none⟩) (o1.length + 1) cap2).ownBlock = some q ∨ w2.heap.size ≤ q := fun q hq => by
                obtain rfl : gg = q := by simpa [Value.ownBlock] using hq
                rcases hat4 with h | h
                · exact .inl h
                · exact .inr (by omega)
              obtain ⟨hf5, hk5⟩ := isF_put (d := .ret m) HF2.out (by omega) (KeptF.refl _ _ _ _ _ _) _ (HOWN.out _ _ hown4) hgrow4 hat
              have k4 : w4.heap[w.heap.size]? = some (.cells #[.slice (some ⟨g2, 0, none⟩) (o1.length + 1) cap2] 22 (0, 0)) := by
                rw [hgrow4.block w.heap.size (block_lt (block_alloc HF2.out.out _)) (fun e => (HNE2.out.2.2.2 _ e.symm).1 rfl)]
                have hh := HF2.out.out
                rw [List.length_append] at hh
                exact block_alloc hh _
              have c4 := block_cell k4 0
              have f4 := block_free k4 0
              simp at c4
              have HF5 := Lib.hid hf5
              have HB5 := Lib.hid (HB2.out.trans hk5.1)
              have HS5 := Lib.hid hk5.1.size
              clear hf5 hk5 hown4 hgrow4 hat4 hat k4 q0 q1 q2 f0 f1 f2
              go_wp2_with fail
              go_roundw
              case rel => exact ⟨j + 1, by omega, by go_num, _, _, [], 0, HF5.out, put_more HN2.out, Dp.norm_snoc HM2.out HLF.out, Dp.EndsR.snoc _ _, by simp at hlen2 ⊢; omega, HB5.out, by have := HS5.out; omega⟩
              case measure => simp [intOf]; omega
      · obtain ⟨m, hm⟩ : ∃ m : Nat, p.n = m := ⟨p.n.toNat, by omega⟩
        have hop : ofP p = .del m := by
          unfold ofP
          rw [h1, hm]
          rfl
        have hm1 : 0 < m := by omega
        have hin : (ofP p).inn = m := by rw [hop]; rfl
        have hmI : g + m ≤ 1000000000000 := by have := HSI.out; have := HD1.out; omega
        have hadd : IntKind.i64.wrap ((g : Int) + (m : Int)) = (g : Int) + (m : Int) := IntWalk.i64_in _ (by omega)
        have HNEW := Lib.hid (show Dp.form (o ++ (Dp.gapI t ++ (Dp.gapD (g + m) ++ (l.drop (j + 1)).map ofP))) = Dp.form (l.map ofP) by
          rw [← HFORM.out, HDR.out, hop]
          exact Dp.form_congr o (Dp.gap_del t m g hm1 _).symm)
        rw [h1] at c0
        rw [hm] at c1
        have HCE := Lib.hid (show (.cells #[.int .u8 p.k, .int .i64 p.n, .string p.t] 38 : Obj) = .cells #[.int .u8 3, .int .i64 m, .string p.t] 38 by rw [h1, hm])
        rw [HCE.out] at HFA HBA HP
        have cG := block_cell HFA.out.gone 0
        have fG := block_free HFA.out.gone 0
        simp at cG
        obtain ⟨hg6, hk6⟩ := isF_gone HFA.out (g + m)
        have HG6 := Lib.hid hg6
        have HB6 := Lib.hid (HBA.out.trans hk6.1)
        clear h1 h2 h3 hm hop hin hg6 hk6
        go_wp2_with fail
        go_roundw
        case rel => exact ⟨j + 1, by omega, by go_num, v, o, t, g + m, HG6.out, HNEW.out, HNORM.out, HENDS.out, by omega, HB6.out, by simp [World.setCell]; omega⟩
        case measure => simp [intOf]; omega
      · have hop : ofP p = .ins p.t.data.toList := by
          unfold ofP
          rw [h1]
          rfl
        have htn : p.t.data.toList ≠ [] := fun e => h3 (by
          show p.t.data.size = 0
          rw [← Array.length_toList, e]; rfl)
        have hou : (ofP p).out = p.t.size := by rw [hop]; exact Array.length_toList ..
        have HTO := Lib.hid (show t.length + p.t.size ≤ 100000000000000 by have := HSO.out; have := HD2.out; omega)
        have HNEW := Lib.hid (show Dp.form (o ++ (Dp.gapI (t ++ p.t.data.toList) ++ (Dp.gapD g ++ (l.drop (j + 1)).map ofP))) = Dp.form (l.map ofP) by
          rw [← HFORM.out, HDR.out, hop]
          exact Dp.form_congr o (Dp.gap_ins t _ g htn _).symm)
        rw [h1] at c0
        have HCE := Lib.hid (show (.cells #[.int .u8 p.k, .int .i64 p.n, .string p.t] 38 : Obj) = .cells #[.int .u8 2, .int .i64 p.n, .string p.t] 38 by rw [h1])
        rw [HCE.out] at HFA HBA HP
        clear h1 h2 h3 hop htn hou
        go_wp2_with fail
        refine (Tryd.Builder_WriteString_k w.heap.size (w.heap.size + 1) _ p.t _ HFA.out.text (by rw [Lib.byteCells_length]; have := HTO.out; omega) (by simp; omega)).mono ?_; rintro e w2 ⟨rfl, hi2, hb2, ho2⟩
        have HF2 := Lib.hid (isF_text HFA.out (s := p.t.data.toList) (by rw [← byteCells_app, ← str_cells]; exact Or.inr hi2) hb2 ho2)
        have HB2 := Lib.hid (HBA.out.trans hb2)
        have hs2 : w.heap.size + 3 ≤ w2.heap.size := by have := hb2.size; simp at this; omega
        clear hi2 hb2 ho2
        go_wp2_with fail
        go_roundw
        case rel => exact ⟨j + 1, by omega, by go_num, v, o, _, g, HF2.out, HNEW.out, HNORM.out, HENDS.out, by omega, HB2.out, hs2⟩
        case measure => simp [intOf]; omega
    · obtain rfl : j = n := by omega
      have htO : t.length ≤ 100000000000000 := by omega
      have HFIN := Lib.hid (show (o ++ (Dp.gapI t ++ Dp.gapD g)).map toP = formP l by
        have h := HFORM.out
        rw [List.drop_eq_nil_of_le (by omega), List.map_nil, List.append_nil, Dp.form_of_norm (Dp.norm_gap HNORM.out HENDS.out t g)] at h
        unfold formP
        rw [h])
      have HFL := Lib.hid (flush_any w.heap.size w.heap.size (w.heap.size + 1) (w.heap.size + 1 + 1) v o t g _ HF.out (by omega) (by omega) htO (by omega))
      go_wp2_with fail
      refine (HFL.out).mono ?_; rintro e w2 ⟨rfl, v2, hf2, hk2, hv2⟩
      have hown : w2.ownsRow w.heap.size 38 3 v2 (formP l).length (flatR fP (formP l)) := by
        rw [← HFIN.out]
        exact own_len hf2.own (by simp)
      have HOWN := Lib.hid hown
      have HB2 := Lib.hid (HBR.out.trans hk2.1)
      have cO := block_cell hf2.out 0
      simp at cO
      clear hf2 hk2 hv2 hown
      go_wp2_with fail
      go_ret
      exact ⟨_, rfl, HOWN.out, HB2.out⟩
end Go.Proofs.YtkocknhpnmkicaaDoor
