/- Deltas: the normal form of the program: flush. -/
import Derived.Test.YtkocknhpnmkicaaDoorDg
namespace Go.Proofs.YtkocknhpnmkicaaDoor
open Go.RowKit
set_option linter.unusedVariables false

theorem byteCells_nilB {T e : TypeId} {B b : Nat} {w : World} {p : Value} (hp : p = .pointer none ∨ p = .pointer (some ⟨b, 0, none⟩)) (hB : B ≤ b) (h : w.heap[b]? = some (.cells #[p, .slice none 0 0] T (0, 0))) : Lib.IsBuilderF T e B b [] w := by
  have : Lib.BuilderAtF T e B b p [] w := ⟨hB, _, h, ⟨rfl, .inl ⟨rfl, rfl⟩⟩, fun h => by cases h⟩
  rcases hp with rfl | rfl
  · exact .inl this
  · exact .inr this

/-- what flush leaves -/
def Flushed (B bO bT bG : Nat) (v : Value) (o : List Dp) (t : List UInt8) (g : Nat) (w : World) (e : Ending) (w' : World) : Prop :=
  e = .returned (.tuple #[]) ∧ ∃ v', IsF B bO bT bG v' (o ++ (Dp.gapI t ++ Dp.gapD g)) [] 0 w' ∧ KeptF B bO bT bG v w w' ∧ (∀ q, v'.ownBlock = some q → v.ownBlock = some q ∨ w.heap.size ≤ q)

theorem KeptF.drew {B bO bT bG : Nat} {v : Value} (w : World) : KeptF B bO bT bG v w w.drew := ⟨(Below.refl _ _).drew, fun _ _ h _ _ _ _ _ => h⟩
theorem builder_cells2 {T e : TypeId} {B b : Nat} {bs : List Value} {w : World} (h : Lib.IsBuilderF T e B b bs w) : ∃ p v, w.heap[b]? = some (.cells #[p, v] T (0, 0)) := by
  rcases h with ⟨_, v, hb, _⟩ | ⟨_, v, hb, _⟩ <;> exact ⟨_, _, hb⟩
theorem builder_B {T e : TypeId} {B b : Nat} {bs : List Value} {w : World} (h : Lib.IsBuilderF T e B b bs w) : B ≤ b := by
  rcases h with ⟨h, _⟩ | ⟨h, _⟩ <;> exact h
theorem own_lt {w : World} {B s : Nat} {e : TypeId} {v : Value} {n : Nat} {xs : List Value} (h : w.ownsRow B e s v n xs) {q : Nat} (hq : v.ownBlock = some q) : q < w.heap.size := by
  obtain ⟨-, cur, hcur⟩ := own_typS h hq
  exact block_lt hcur
/-- one piece more, stored: what holds -/
theorem isF_put {B bO bT bG : Nat} {v v' : Value} {o : List Dp} {d : Dp} {t : List UInt8} {g : Nat} {w w3 w4 : World} (h : IsF B bO bT bG v o t g w3) (hB : B ≤ w3.heap.size) (hk : KeptF B bO bT bG v w w3) (x : Obj)
    (hown : w4.ownsRow B 38 3 v' (o.length + 1) (flatR fP (o.map toP) ++ fP (toP d))) (hg : (w3.alloc x).grownBy w4 v.ownBlock) (hat : ∀ q, v'.ownBlock = some q → v.ownBlock = some q ∨ w3.heap.size ≤ q) :
    IsF B bO bT bG v' (o ++ [d]) t g (w4.setCell ⟨bO, 0, none⟩ v') ∧ KeptF B bO bT bG v w (w4.setCell ⟨bO, 0, none⟩ v') := by
  obtain ⟨n1, n2, n3, n4⟩ := h.ne
  have bl : ∀ {b : Nat} {ob : Obj}, w3.heap[b]? = some ob → v.ownBlock ≠ some b → w4.heap[b]? = some ob := fun {b ob} hb hv => by
    rw [hg.block b (block_lt (block_alloc hb x)) (fun e => hv e.symm)]
    exact block_alloc hb x
  have hO4 := bl h.out fun e => (n4 _ e).1 rfl
  have hG4 := bl h.gone fun e => (n4 _ e).2.2 rfl
  have hT4 : Lib.IsBuilderF 65 5 B bT (Lib.byteCells t) w4 := by
    have key : ∀ p, Lib.BuilderAtF 65 5 B bT p (Lib.byteCells t) w3 → Lib.BuilderAtF 65 5 B bT p (Lib.byteCells t) w4 := by
      rintro p ⟨h1, u, h2, h3, h4⟩
      refine ⟨h1, u, bl h2 fun e => (n4 _ e).2.1 rfl, ⟨h3.1, ?_⟩, h4⟩
      rcases h3.2 with hn | ⟨q, cap, cur, fz, hv, hbg, hq, rest⟩
      · exact .inl hn
      · refine .inr ⟨q, cap, cur, fz, hv, hbg, bl hq fun e => ?_, rest⟩
        obtain ⟨-, cu, hcu⟩ := own_typS h.own e
        exact absurd rfl (cells_ty hcu hq (by decide))
    exact h.text.elim (fun x => .inl (key _ x)) (fun x => .inr (key _ x))
  have hB4 : B ≤ (w3.alloc x).heap.size := by simp; omega
  have hk4 : KeptF B bO bT bG v w w4 := (hk.trans (KeptF.alloc (v := v) hB x) fun q hq => .inl hq).trans (KeptF.grown (v := v) hg hB4 fun q hq => (own_typS h.own hq).1) fun q hq => .inl hq
  have hs : KeptF B bO bT bG v w4 (w4.setCell ⟨bO, 0, none⟩ v') := KeptF.set h.bo (.inl rfl) _
  obtain ⟨p, u, hT4c⟩ := builder_cells2 hT4
  refine ⟨⟨block_setCell hO4 0 v', ?_, ?_, block_setCell_other hG4 (by exact n2) _, h.bo, h.bg⟩, hk4.trans hs fun q hq => .inl hq⟩
  · have := own_kept (v := .slice none 0 0) hown (KeptF.set (bT := bT) (bG := bG) (p := ⟨bO, 0, none⟩) h.bo (.inl rfl) v') (by decide) fun q hq => by
      obtain ⟨-, cu, hcu⟩ := own_typS hown hq
      exact ⟨cells_ty hcu hO4 (by decide), cells_ty hcu hT4c (by decide), cells_ty hcu hG4 (by decide), by simp [Value.ownBlock]⟩
    rw [List.length_append, List.map_append, flatR_app, List.map_cons, List.map_nil, flatR_one]
    exact this
  · have key : ∀ p, Lib.BuilderAtF 65 5 B bT p (Lib.byteCells t) w4 → Lib.BuilderAtF 65 5 B bT p (Lib.byteCells t) (w4.setCell ⟨bO, 0, none⟩ v') := by
      rintro p ⟨h1, u, h2, h3, h4⟩
      refine ⟨h1, u, block_setCell_other h2 (by exact n1) _, ⟨h3.1, ?_⟩, h4⟩
      rcases h3.2 with hn | ⟨q, cap, cur, fz, hv, hbg, hq, rest⟩
      · exact .inl hn
      · exact .inr ⟨q, cap, cur, fz, hv, hbg, block_setCell_other hq (fun e : bO = q => by
          subst e
          exact absurd rfl (cells_ty hO4 hq (by decide))) _, rest⟩
    exact hT4.elim (fun x => .inl (key _ x)) (fun x => .inr (key _ x))
/-- the text's builder emptied -/
theorem isF_reset {B bO bT bG : Nat} {v : Value} {o : List Dp} {t : List UInt8} {g : Nat} {w : World} (h : IsF B bO bT bG v o t g w) :
    IsF B bO bT bG v o [] g ((w.setCell ⟨bT, 0, none⟩ (.pointer none)).setCell ⟨bT, 1, none⟩ (.slice none 0 0)) ∧ KeptF B bO bT bG v w ((w.setCell ⟨bT, 0, none⟩ (.pointer none)).setCell ⟨bT, 1, none⟩ (.slice none 0 0)) := by
  obtain ⟨n1, n2, n3, n4⟩ := h.ne
  obtain ⟨p, u, hT⟩ := builder_cells2 h.text
  have hBT := builder_B h.text
  have hk : KeptF B bO bT bG v w ((w.setCell ⟨bT, 0, none⟩ (.pointer none)).setCell ⟨bT, 1, none⟩ (.slice none 0 0)) := (KeptF.set (v := v) (p := ⟨bT, 0, none⟩) hBT (.inr (.inl rfl)) _).trans (KeptF.set (v := v) (p := ⟨bT, 1, none⟩) hBT (.inr (.inl rfl)) _) fun q hq => .inl hq
  have hk0 : KeptF B bO bT bG (.slice none 0 0) w ((w.setCell ⟨bT, 0, none⟩ (.pointer none)).setCell ⟨bT, 1, none⟩ (.slice none 0 0)) := (KeptF.set (v := .slice none 0 0) (p := ⟨bT, 0, none⟩) hBT (.inr (.inl rfl)) _).trans (KeptF.set (v := .slice none 0 0) (p := ⟨bT, 1, none⟩) hBT (.inr (.inl rfl)) _) fun q hq => .inl hq
  refine ⟨⟨block_setCell_other (block_setCell_other h.out (Ne.symm n1) _) (Ne.symm n1) _, ?_, ?_, block_setCell_other (block_setCell_other h.gone n3 _) n3 _, h.bo, h.bg⟩, hk⟩
  · exact own_kept h.own hk0 (by decide) fun q hq => ⟨(n4 q hq).1, (n4 q hq).2.1, (n4 q hq).2.2, by simp [Value.ownBlock]⟩
  · exact byteCells_nilB (.inl rfl) hBT (block_setCell (block_setCell hT 0 _) 1 _)
/-- the number of the gap stored -/
theorem isF_gone {B bO bT bG : Nat} {v : Value} {o : List Dp} {t : List UInt8} {g : Nat} {w : World} (h : IsF B bO bT bG v o t g w) (m : Nat) :
    IsF B bO bT bG v o t m (w.setCell ⟨bG, 0, none⟩ (.int .i64 m)) ∧ KeptF B bO bT bG v w (w.setCell ⟨bG, 0, none⟩ (.int .i64 m)) := by
  obtain ⟨n1, n2, n3, n4⟩ := h.ne
  have hk0 : KeptF B bO bT bG (.slice none 0 0) w (w.setCell ⟨bG, 0, none⟩ (.int .i64 m)) := KeptF.set (v := .slice none 0 0) (p := ⟨bG, 0, none⟩) h.bg (.inr (.inr rfl)) _
  refine ⟨⟨block_setCell_other h.out (Ne.symm n2) _, ?_, ?_, block_setCell h.gone 0 _, h.bo, h.bg⟩, KeptF.set (p := ⟨bG, 0, none⟩) h.bg (.inr (.inr rfl)) _⟩
  · exact own_kept h.own hk0 (by decide) fun q hq => ⟨(n4 q hq).1, (n4 q hq).2.1, (n4 q hq).2.2, by simp [Value.ownBlock]⟩
  · have key : ∀ p, Lib.BuilderAtF 65 5 B bT p (Lib.byteCells t) w → Lib.BuilderAtF 65 5 B bT p (Lib.byteCells t) (w.setCell ⟨bG, 0, none⟩ (.int .i64 m)) := by
      rintro p ⟨h1, u, h2, h3, h4⟩
      refine ⟨h1, u, block_setCell_other h2 (by exact Ne.symm n3) _, ⟨h3.1, ?_⟩, h4⟩
      rcases h3.2 with hn | ⟨q, cap, cur, fz, hv, hbg, hq, rest⟩
      · exact .inl hn
      · exact .inr ⟨q, cap, cur, fz, hv, hbg, block_setCell_other hq (fun e : bG = q => by
          subst e
          exact absurd rfl (cells_ty h.gone hq (by decide))) _, rest⟩
    exact h.text.elim (fun x => .inl (key _ x)) (fun x => .inr (key _ x))
theorem len_any (B b : Nat) (t : List UInt8) (w : World) (h : Lib.IsBuilderF 65 5 B b (Lib.byteCells t) w) :
    Calls Tryd.prog 56 #[.pointer (some ⟨b, 0, none⟩)] w fun e w' => e = .returned (.int .i64 t.length) ∧ w = w' := by
  refine (Tryd.Builder_Len_f B b _ w h).mono ?_
  rintro e w' ⟨rfl, rfl⟩
  exact ⟨by rw [Lib.byteCells_length], rfl⟩
set_option maxRecDepth 100000 in
set_option maxHeartbeats 2000000 in
theorem reset_any (b : Nat) (p v : Value) (w : World) (h : w.heap[b]? = some (.cells #[p, v] 65 (0, 0))) :
    Calls Tryd.prog 57 #[.pointer (some ⟨b, 0, none⟩)] w fun e w' => e = .returned (.tuple #[]) ∧ w' = (w.setCell ⟨b, 0, none⟩ (.pointer none)).setCell ⟨b, 1, none⟩ (.slice none 0 0) := by
  (have q0 := block_cell h 0; have q1 := block_cell h 1; have f0 := block_free h 0; have f1 := block_free h 1; have hz := block_lt h; simp at q0 q1)
  clear h
  go_enter Tryd.func57, Tryd.ntmps57
  go_wp2_with fail
  go_end0
  exact ⟨rfl, rfl⟩
def Mid (B bO bT bG : Nat) (v : Value) (o : List Dp) (t : List UInt8) (g : Nat) (w wq : World) : Prop :=
  ∃ v', IsF B bO bT bG v' (o ++ Dp.gapI t) [] g wq ∧ KeptF B bO bT bG v w wq ∧ (∀ q, v'.ownBlock = some q → v.ownBlock = some q ∨ w.heap.size ≤ q) ∧ B ≤ wq.heap.size

set_option maxRecDepth 100000 in
set_option maxHeartbeats 8000000 in
theorem flush_any (B bO bT bG : Nat) (v : Value) (o : List Dp) (t : List UInt8) (g : Nat) (w : World) (h : IsF B bO bT bG v o t g w) (hB : B ≤ w.heap.size) (ho : o.length ≤ 1000000) (ht : t.length ≤ 100000000000000) (hg : g ≤ 9223372036854775807) :
    Calls Tryd.prog 55 #[.pointer (some ⟨bT, 0, none⟩), .pointer (some ⟨bO, 0, none⟩), .pointer (some ⟨bG, 0, none⟩)] w (Flushed B bO bT bG v o t g w) := by
  obtain ⟨i0, hi0, hz0, hz1, hz2⟩ := info_parts infoPc
  have HF := Lib.hid h
  have HNE := Lib.hid h.ne
  have HL := Lib.hid (len_any B bT t w h.text)
  clear h
  go_enter Tryd.func55, Tryd.ntmps55
  go_wp2_with fail
  refine (HL.out).mono ?_; rintro e w1 ⟨rfl, rfl⟩
  go_upto_if 4 with (fail)
  go_cut [] from 3 to 17 (fun wq => Mid B bO bT bG v o t g w wq)
  case first =>
    by_cases htn : t = []
    · have HM := Lib.hid (show Mid B bO bT bG v o t g w w from ⟨v, by have := HF.out; rw [htn] at this ⊢; rw [show o ++ Dp.gapI [] = o from List.append_nil _]; exact this, KeptF.refl _ _ _ _ _ _, fun q hq => .inl hq, hB⟩)
      subst htn
      go_wp2_with fail
      go_meet
      case rel => exact HM.out
    · have hlt : (0 : Int) < (t.length : Int) := by have := List.length_pos_iff.2 htn; omega
      have hO := block_cell HF.out.out 0
      have hOf := block_free HF.out.out 0
      simp at hO
      go_wp2_with fail
      go_region_law (first
        | (refine step_append_lies _ (by rfl) _ _ _ (by rfl) B 38 i0 _ 3 32 Tryd.underlying22 hi0 hz0 hz1 hz2 rfl (by decide) v o.length _ (by rfl) ((HO3.out.alloc _).drew) ⟨w3.heap.size, 0, none⟩ 1 1 [_, _, _] (by rfl) (by rfl) (World.news_of_block (cs := #[_, _, _]) (t := 38) (fr := (0, 0)) (heap_alloc_new w3 _)) (by simp [Value.oneCell']) (by omega) (by unfold maxLen; omega) (by omega) (by simp; omega) (w3.heap.size + 1) (by simp) ?_; intro gg cap w4 hown4 hgrow4 hat4 hlt4; have k4 : w4.heap[bO]? = some (.cells #[v] 22 (0, 0)) := (hgrow4.block bO (block_lt (block_alloc K3.out _)) (fun e => (HNE.out.2.2.2 bO e.symm).1 rfl)).trans (block_alloc K3.out _); have cO4 : w4.cell? ⟨bO, 0, none⟩ = some v := block_cell k4 0; have fO4 : w4.frozen? ⟨bO, 0, none⟩ = false := block_free k4 0; have K4 := Lib.hid k4; clear k4)
        | (go_simp; go_at_call 48; refine (Tryd.Builder_String_any_k B bT t w.drew (show Lib.IsBuilderF 65 5 B bT (Lib.byteCells t) w.drew from HF.out.text) hB).mono ?_; rintro e w3 ⟨rfl, hi3, hb3', ho3'⟩; have hb3 : Below B w w3 := (Below.refl B w).drew.trans hb3'; have ho3 : Lib.OthersKept 5 (some bT) w w3 := ho3'; have k3 := others_cells ho3 HF.out.out HNE.out.1 (by decide); have cO3 : w3.cell? ⟨bO, 0, none⟩ = some v := block_cell k3 0; have K3 := Lib.hid k3; clear k3; have cA3 : (w3.alloc (.cells #[.int .u8 2, .int .i64 0, .string ⟨t.toArray⟩] 38)).cell? ⟨bO, 0, none⟩ = some v := block_cell (block_alloc K3.out _) 0; have HO3 := Lib.hid (own_kept HF.out.own (KeptF.of_others (bO := bO) (bG := bG) (v := .slice none 0 0) hb3 ho3) (by decide) fun q hq => ⟨(HNE.out.2.2.2 q hq).1, (HNE.out.2.2.2 q hq).2.1, (HNE.out.2.2.2 q hq).2.2, by simp [Value.ownBlock]⟩); have hB3 : B ≤ w3.heap.size := Nat.le_trans hB hb3.size; have HF3 := Lib.hid (show IsF B bO bT bG v o t g w3 from ⟨K3.out, HO3.out, hi3, others_cells ho3 HF.out.gone (Ne.symm HNE.out.2.2.1) (by decide), HF.out.bo, HF.out.bg⟩); have HK3 := Lib.hid (show KeptF B bO bT bG v w w3 from KeptF.of_others hb3 ho3); clear hi3 hb3 ho3 hb3' ho3'))
      all_goals
        obtain ⟨hf5, hk5⟩ := isF_put (d := .ins t) HF3.out hB3 HK3.out _ hown4 hgrow4 (fun q hq => by
          obtain rfl : gg = q := by simpa [Value.ownBlock] using hq
          rcases hat4 with h | h
          · exact .inl h
          · exact .inr (by omega))
        have HAT := Lib.hid (show ∀ q, (Value.slice (some ⟨gg, 0, none⟩) (o.length + 1) cap).ownBlock = some q → v.ownBlock = some q ∨ w.heap.size ≤ q from fun q hq => by
          obtain rfl : gg = q := by simpa [Value.ownBlock] using hq
          have := HK3.out.1.size
          rcases hat4 with h | h
          · exact .inl h
          · exact .inr (by omega))
        obtain ⟨pp, uu, hT5⟩ := builder_cells2 hf5.text
        obtain ⟨hf6, hk6⟩ := isF_reset hf5
        have HF6 := Lib.hid hf6
        have HK6 := Lib.hid (hk5.trans hk6 fun q hq => HAT.out q hq)
        have HT5 := Lib.hid hT5
        clear hf5 hk5 hf6 hk6 hT5 hown4 hgrow4 hat4 hlt4 HF3 HK3 HO3 K3 K4 cA3 cO3 cO4 fO4
        go_wp2_with fail
        refine (reset_any bT pp uu _ HT5.out).mono ?_; rintro e w6 ⟨rfl, hw6⟩
        have HM := Lib.hid (show Mid B bO bT bG v o t g w w6 from by
          rw [hw6]
          refine ⟨_, by rw [show Dp.gapI t = [Dp.ins t] from if_neg htn]; exact HF6.out, HK6.out, HAT.out, ?_⟩
          exact Nat.le_trans hB HK6.out.1.size)
        clear hw6 HF6 HK6 HAT HT5
        go_wp2_with fail
        go_meet
        case rel => exact HM.out
  case rest =>
    obtain ⟨v1, h1, hk1, hv1, hB1⟩ := hcut
    obtain ⟨o1, ho1⟩ : ∃ o1, o1 = o ++ Dp.gapI t := ⟨_, rfl⟩
    rw [← ho1] at h1
    have HO1 := Lib.hid ho1
    have HF1 := Lib.hid h1
    have HK1 := Lib.hid hk1
    have HV1 := Lib.hid hv1
    have HNE1 := Lib.hid h1.ne
    have cO := block_cell h1.out 0
    have cG := block_cell h1.gone 0
    have fG := block_free h1.gone 0
    have fO := block_free h1.out 0
    have hol : o1.length ≤ 1000001 := by
      rw [ho1, List.length_append]
      unfold Dp.gapI
      by_cases h : t = [] <;> simp [h] <;> omega
    simp at cO cG
    clear h1 hk1 hv1 ho1
    by_cases hg0 : g = 0
    · have HEQ := Lib.hid (show o ++ (Dp.gapI t ++ Dp.gapD g) = o1 by rw [HO1.out, hg0]; unfold Dp.gapD; rw [if_pos rfl, List.append_nil])
      subst hg0
      go_wp2_with fail
      go_end0
      exact ⟨rfl, v1, by rw [HEQ.out]; exact HF1.out, HK1.out, HV1.out⟩
    · have hg1 : (0 : Int) < (g : Int) := by omega
      have HEQ := Lib.hid (show o ++ (Dp.gapI t ++ Dp.gapD g) = o1 ++ [Dp.del g] by rw [HO1.out]; unfold Dp.gapD; rw [if_neg hg0, List.append_assoc])
      clear hg0
      go_wp2_with (at_builtin; refine wpList_append_lies _ rfl _ _ 22 rfl B 38 i0 _ 3 32 Tryd.underlying22 hi0 hz0 hz1 hz2 rfl (by decide) _ o1.length _ rfl (HF1.out.own.alloc _) ⟨wc.heap.size, 0, none⟩ 1 1 [.int .u8 3, .int .i64 g, .string ⟨#[]⟩] rfl rfl (World.news_of_block (cs := #[_, _, _]) (t := 38) (fr := (0, 0)) (heap_alloc_new wc _)) (by simp [Value.oneCell']) (by omega) (by unfold maxLen; omega) (by omega) (by simp; omega) (wc.heap.size + 1) (by simp) ?c1)
      case c1 =>
        intro gg cap w4 hown4 hgrow4 hat4 hlt4
        have hat : ∀ q, (Value.slice (some ⟨gg, 0, none⟩) (o1.length + 1) cap).ownBlock = some q → v1.ownBlock = some q ∨ wc.heap.size ≤ q := fun q hq => by
          obtain rfl : gg = q := by simpa [Value.ownBlock] using hq
          rcases hat4 with h | h
          · exact .inl h
          · exact .inr (by omega)
        obtain ⟨hf5, hk5⟩ := isF_put (d := .del g) HF1.out hB1 (KeptF.refl _ _ _ _ _ _) _ hown4 hgrow4 hat
        have k4 : w4.heap[bO]? = some (.cells #[v1] 22 (0, 0)) := by
          rw [hgrow4.block bO (block_lt (block_alloc HF1.out.out _)) (fun e => (HNE1.out.2.2.2 bO e.symm).1 rfl)]
          exact block_alloc HF1.out.out _
        have k4G : w4.heap[bG]? = some (.cells #[.int .i64 g] 3 (0, 0)) := by
          rw [hgrow4.block bG (block_lt (block_alloc HF1.out.gone _)) (fun e => (HNE1.out.2.2.2 bG e.symm).2.2 rfl)]
          exact block_alloc HF1.out.gone _
        have c4 := block_cell k4 0
        have f4 := block_free k4 0
        have c4G := block_cell k4G 0
        have f4G := block_free k4G 0
        simp at c4 c4G
        have hne2 := HNE1.out.2.1
        have HN2 := Lib.hid hne2
        have HFL := Lib.hid (show Flushed B bO bT bG v o t g w (.returned (.tuple #[])) ((w4.setCell ⟨bO, 0, none⟩ (.slice (some ⟨gg, 0, none⟩) (o1.length + 1) cap)).setCell ⟨bG, 0, none⟩ (.int .i64 0)) from by
          obtain ⟨hf6, hk6⟩ := isF_gone hf5 0
          refine ⟨rfl, _, by rw [HEQ.out]; exact hf6, ?_, fun q hq => ?_⟩
          · exact HK1.out.trans (hk5.trans hk6 hat) HV1.out
          · rcases hat q hq with h | h
            · exact HV1.out q h
            · have := HK1.out.1.size
              exact .inr (by omega))
        clear hf5 hk5 hown4 hgrow4 hat4 hat k4 k4G
        go_wp2_with fail
        go_end0
        exact HFL.out
end Go.Proofs.YtkocknhpnmkicaaDoor
