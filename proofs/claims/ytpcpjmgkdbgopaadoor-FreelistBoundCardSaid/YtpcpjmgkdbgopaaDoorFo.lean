/- The freelist: returned slices; Handles of the program. -/
import Derived.Test.YtpcpjmgkdbgopaaDoorFn
namespace Go.Proofs.YtpcpjmgkdbgopaaDoor
open Go.RowKit

/-- the value is a slice of n elements of its own (no block below B), f 0, f 1, .. -/
def Rs (w : World) (B : Nat) (t : TypeId) (v : Value) (n : Nat) (f : Nat → Value) : Prop :=
  ∃ (ao : Option Addr) (c : Nat), v = .slice ao n c ∧ (0 < n → ∃ b cap, ao = some ⟨b, 0, none⟩ ∧ B ≤ b ∧ Arr w b t cap n f)
theorem Rs.sl {w : World} {B : Nat} {t : TypeId} {v : Value} {n : Nat} {f : Nat → Value} (h : Rs w B t v n f) : Sl w v n f := by
  obtain ⟨ao, c, rfl, h⟩ := h
  refine ⟨ao, c, rfl, fun hn => ?_⟩
  obtain ⟨b, cap, rfl, -, ha⟩ := h hn
  exact ⟨b, 0, rfl, fun i hi => by rw [Nat.zero_add]; exact ha.cell hi⟩
theorem Rs.drewN {w : World} {B : Nat} {t : TypeId} {v : Value} {n : Nat} {f : Nat → Value} (h : Rs w B t v n f) (m : Nat) : Rs (w.drewN m) B t v n f := h
theorem Rs.keep {w w' : World} {B K : Nat} {t : TypeId} {v : Value} {n : Nat} {f : Nat → Value} (h : Rs w B t v n f) (hb : Below K w w') (hK : w.heap.size ≤ K) : Rs w' B t v n f := by
  obtain ⟨ao, c, rfl, h⟩ := h
  refine ⟨ao, c, rfl, fun hn => ?_⟩
  obtain ⟨b, cap, e, hB, ha⟩ := h hn
  exact ⟨b, cap, e, hB, ha.keep (hb.block b (Nat.lt_of_lt_of_le ha.lt hK))⟩
theorem Rs.low {w : World} {B B' : Nat} {t : TypeId} {v : Value} {n : Nat} {f : Nat → Value} (h : Rs w B t v n f) (hb : B' ≤ B) : Rs w B' t v n f := by
  obtain ⟨ao, c, rfl, h⟩ := h
  refine ⟨ao, c, rfl, fun hn => ?_⟩
  obtain ⟨b, cap, e, hB, ha⟩ := h hn
  exact ⟨b, cap, e, Nat.le_trans hb hB, ha⟩
theorem Rs.nil (w : World) (B : Nat) (t : TypeId) (f : Nat → Value) : Rs w B t (.slice none 0 0) 0 f := ⟨none, 0, rfl, fun h => absurd h (Nat.lt_irrefl 0)⟩
theorem Rs.of_own {w : World} {B : Nat} {t : TypeId} {v : Value} {l : List Nat} {e : Nat → Value} (h : w.ownsRow B t 1 v l.length (l.map e)) : Rs w B t v l.length (fun i => e (l.getD i 0)) := by
  obtain ⟨-, ⟨h, h2⟩ | ⟨g, cap', cur, h1, hg, h2, h3, -, h4, h5⟩⟩ := h
  · exact ⟨none, 0, by rw [h, h2], fun hn => by omega⟩
  · subst h1
    refine ⟨_, _, rfl, fun _ => ⟨g, cur.size, rfl, hg, cur, h2, rfl, by omega, fun i hi => ?_⟩⟩
    have := congrArg (fun l => l[i]?) h5
    simp only [List.getElem?_take, Array.getElem?_toList] at this
    rw [if_pos (by omega)] at this
    rw [this]
    simp [hi]

theorem slots_all {x : FL} {s i : Nat} (h : i < (slotsTo x s x.n).length) : (slotsTo x s x.n).getD i 0 < x.n ∧ x.st ((slotsTo x s x.n).getD i 0) = s := by
  have hm : (slotsTo x s x.n).getD i 0 ∈ slotsTo x s x.n := by
    rw [List.getD_eq_getElem?_getD, List.getElem?_eq_getElem h]; exact List.getElem_mem h
  unfold slotsTo at hm
  have := List.mem_filter.1 hm
  exact ⟨List.mem_range.1 this.1, of_decide_eq_true this.2⟩

/-- the first k live handles -/
def hsTo (x : FL) (k : Nat) : List Value := ((slotsTo x 1 x.n).take k).map (encH x)
theorem hsTo_snoc (x : FL) {k : Nat} (h : k < (slotsTo x 1 x.n).length) : hsTo x (k + 1) = hsTo x k ++ [encH x ((slotsTo x 1 x.n).getD k 0)] := by
  unfold hsTo
  rw [List.take_add_one, List.map_append, List.getElem?_eq_getElem h]
  simp [h]
theorem hsTo_all (x : FL) : hsTo x (slotsTo x 1 x.n).length = (slotsTo x 1 x.n).map (encH x) := by
  unfold hsTo
  rw [List.take_length]
theorem own_low {w : World} {B B' : Nat} {t : TypeId} {v : Value} {n : Nat} {l : List Value} (h : w.ownsRow B t 1 v n l) (hb : B' ≤ B) : w.ownsRow B' t 1 v n l := by
  obtain ⟨h0, h | ⟨g, cap', cur, h1, hg, h2⟩⟩ := h
  · exact ⟨h0, .inl h⟩
  · exact ⟨h0, .inr ⟨g, cap', cur, h1, Nat.le_trans hb hg, h2⟩⟩

set_option maxRecDepth 100000 in
set_option maxHeartbeats 2000000 in
theorem handles_none (w : World) :
    Calls Tryd.prog 25 #[.pointer none] w fun e w' => e = .returned (.slice none 0 0) ∧ ∃ n, w' = w.drewN n := by
  go_enter Tryd.func25, Tryd.ntmps25
  go_wp2_with fail
  refine (slots_none 1 _).mono ?_; rintro e w1 ⟨rfl, rfl⟩
  go_wp2_with fail
  go_loop [3, 11] (fun a i => a = .slice none 0 0 ∧ i = .int .i64 0) (fun _ _ => 0)
  case atStart => exact ⟨rfl, rfl⟩
  case round =>
    obtain ⟨rfl, rfl⟩ := hrel
    go_wp2_with fail
    go_ret
    exact ⟨rfl, 0, rfl⟩

set_option maxRecDepth 100000 in
set_option maxHeartbeats 2000000 in
theorem handles_any (b : LB) (x : FL) (w : World) (hl : IsL w b x) (hfi : FInv x) :
    Calls Tryd.prog 25 #[.pointer (some ⟨b.p, 0, none⟩)] w fun e w' => NewHs w x e w' := by
  obtain ⟨i0, hi, hz0, hz1, hz2⟩ := info_parts infoH
  have HS := Lib.hid (slots_any b x 1 w hl hfi.n2)
  obtain ⟨l0, l1, l2, l3⟩ := hl
  have hn := hfi.n2
  have HF := Lib.hid hfi
  have HG := Lib.hid l3
  have HGL := Lib.hid l3.lt
  have HP := Lib.hid l0
  have HPL := Lib.hid (block_lt l0)
  clear l0 l1 l2 l3 hfi
  go_enter Tryd.func25, Tryd.ntmps25
  go_wp2_with fail
  refine HS.out.mono ?_; rintro e w1 ⟨v, rfl, ho, hb⟩
  obtain ⟨ao, c, rfl, hv⟩ := Rs.of_own ho
  have HV := Lib.hid hv
  have HSZ := Lib.hid hb.size
  have HB1 := Lib.hid hb
  have hlen := slotsTo_len x 1 x.n
  clear ho hb hv
  go_wp2_with fail
  go_loopw [3, 11] (fun a i wr => ∃ k : Nat, k ≤ (slotsTo x 1 x.n).length ∧ i = .int .i64 k ∧ wr.ownsRow w1.heap.size 33 1 a k (hsTo x k) ∧ Below w1.heap.size w1 wr) (fun _ i _ => (slotsTo x 1 x.n).length - (intOf i).toNat)
  case atStart => exact ⟨0, Nat.zero_le _, rfl, ⟨rfl, .inl ⟨rfl, rfl⟩⟩, Below.refl _ _⟩
  case round =>
    obtain ⟨k, hk, rfl, hown, hbr⟩ := hrel
    have hsz := hbr.size
    have HO := Lib.hid hown
    have HB := Lib.hid hbr
    clear hown
    by_cases hlt : k < (slotsTo x 1 x.n).length
    · obtain ⟨vb, vcap, rfl, hvb, hva⟩ := HV.out (by omega)
      have c1 : wr.cell? ⟨vb, k, none⟩ = some (.int .i64 ((slotsTo x 1 x.n).getD k 0)) := (hva.keep (hbr.block vb hva.lt)).cell hlt
      have hs1 := (slots_all hlt).1
      have HMK := Lib.hid (mkOK_of HF.out hs1)
      have HSN := Lib.hid (hsTo_snoc x hlt)
      have bb : Below w.heap.size w wr := HB1.out.trans (hbr.mono HSZ.out)
      have hp := block_below bb HP.out HPL.out
      have c3 : wr.cell? ⟨b.g, (slotsTo x 1 x.n).getD k 0, none⟩ = some (.int .u64 (x.gn ((slotsTo x 1 x.n).getD k 0))) := (HG.out.keep (bb.block b.g HGL.out)).cell hs1
      have hk1 : (k : Int) < ((slotsTo x 1 x.n).length : Int) := by omega
      have HOA : ∀ A, (wr.alloc A).ownsRow w1.heap.size 33 1 u3 k (hsTo x k) := fun A => HO.out.alloc A
      have HHO := Lib.hid HOA
      have HHN := Lib.hid (cell_one_new wr (encH x ((slotsTo x 1 x.n).getD k 0)) 33)
      have HLTK := Lib.hid hlt
      clear HOA hbr bb hva hvb
      (have q0 := block_cell hp 0; have q1 := block_cell hp 1; have q2 := block_cell hp 2; have q3 := block_cell hp 3; have f0 := block_free hp 0; have f1 := block_free hp 1; have f2 := block_free hp 2; have f3 := block_free hp 3; have hz := block_lt hp; simp at q0 q1 q2 q3)
      clear hp
      generalize hsl : (slotsTo x 1 x.n).getD k 0 = sl at *
      have hsi : (sl : Int) < (x.n : Int) := by omega
      go_wp2_with fail
      refine (make_ok _ _ _ HMK.out).mono ?_; rintro e w2 ⟨rfl, rfl⟩
      go_wp2_with (at_builtin; refine wpList_append_own_at _ rfl _ _ 32 rfl w1.heap.size 33 i0 (.int .u64 0) 1 8 Tryd.underlying32 hi hz0 hz1 hz2 rfl (by decide) _ k (hsTo x k) rfl (HHO.out _) ⟨wr.heap.size, 0, none⟩ 1 _ [encH x sl] rfl rfl HHN.out (encH_one x [sl]) ?c3 ?c4 ?c5 ?_)
      case c3 => unfold maxLen; omega
      case c4 => omega
      case c5 => simp; omega
      intro v' w2 hown1 hgrow _ hblk
      have hbr2 : Below w1.heap.size w1 w2 := (HB.out.alloc hsz _).grown hgrow (Nat.le_trans hsz (by simp)) (fun q hq => by
        obtain ⟨_, ⟨e1, _⟩ | ⟨g, cap, cur, e1, e2, _⟩⟩ := HO.out
        · rw [e1] at hq; cases hq
        · rw [e1] at hq; injection hq with hq; subst hq; exact e2)
      have hown2 : w2.ownsRow w1.heap.size 33 1 v' (k + 1) (hsTo x (k + 1)) := by
        rw [HSN.out]
        exact hown1
      have HO2 := Lib.hid hown2
      have HB2 := Lib.hid hbr2
      clear hown1 hgrow hblk hbr2 hown2
      go_wp2_with fail
      go_roundw
      case rel => exact ⟨k + 1, by omega, by go_num, HO2.out, HB2.out⟩
      case measure => simp [intOf]; omega
    · obtain rfl : k = (slotsTo x 1 x.n).length := by omega
      clear hbr
      go_wp2_with fail
      go_ret
      refine ⟨_, rfl, ?_, HB1.out.trans (HB.out.mono HSZ.out)⟩
      have := HO.out
      rw [hsTo_all] at this
      exact own_low this HSZ.out
end Go.Proofs.YtpcpjmgkdbgopaaDoor
