/- Children in memory. The contract of formed. -/
import Derived.Test.YtbodacjhhkjdfaaNa
namespace Go.Proofs.Ytbodacjhhkjdfaa
open Go.RowKit

def cellK (w : World) (b o : Nat) (x : Kid) : Prop :=
  w.cell? ⟨b, o, none⟩ = some (.int .u64 x.1) ∧ w.cell? ⟨b, o + 1, none⟩ = some (.int .i64 x.2.1) ∧ w.cell? ⟨b, o + 2, none⟩ = some (.int .i64 x.2.2.1) ∧ w.cell? ⟨b, o + 3, none⟩ = some (.int .i64 x.2.2.2)
/-- the slice value (a, n) reads as the children l -/
def IsKs (w : World) (a : Option Addr) (n : Nat) (l : List Kid) : Prop :=
  l.length = n ∧ (∀ x ∈ l, 0 ≤ x.1 ∧ x.1 ≤ 18446744073709551615) ∧ (0 < n → ∃ b off, a = some ⟨b, off, none⟩ ∧ ∀ k (h : k < l.length), cellK w b (off + k * 4) l[k])
def aggK (x : Kid) : Value := .agg #[.int .u64 x.1, .int .i64 x.2.1, .int .i64 x.2.2.1, .int .i64 x.2.2.2]
def aggN (h : Int) (t : ByteArray) (a : Option Addr) (n c : Nat) : Value := .agg #[.int .i64 h, .string t, .slice a n c]

theorem cellK_below {B : Nat} {w w' : World} {b o : Nat} {x : Kid} (h : cellK w b o x) (hb : Below B w w') (hB : b < B) : cellK w' b o x := by
  obtain ⟨h0, h1, h2, h3⟩ := h
  exact ⟨by rw [hb.cell (p := ⟨b, o, none⟩) hB]; exact h0, by rw [hb.cell (p := ⟨b, o + 1, none⟩) hB]; exact h1, by rw [hb.cell (p := ⟨b, o + 2, none⟩) hB]; exact h2, by rw [hb.cell (p := ⟨b, o + 3, none⟩) hB]; exact h3⟩
theorem cellK_lt {w : World} {b o : Nat} {x : Kid} (h : cellK w b o x) : b < w.heap.size := by
  have := h.1
  rcases Nat.lt_or_ge b w.heap.size with hb | hb
  · exact hb
  · simp [World.cell?, Array.getElem?_eq_none hb] at this
theorem IsKs.below {B : Nat} {w w' : World} {a : Option Addr} {n : Nat} {l : List Kid} (h : IsKs w a n l) (hb : Below B w w') (hB : ∀ b o, a = some ⟨b, o, none⟩ → 0 < n → b < B) : IsKs w' a n l := by
  obtain ⟨h1, hr, h2⟩ := h
  refine ⟨h1, hr, fun hn => ?_⟩
  obtain ⟨b, off, e, h3⟩ := h2 hn
  exact ⟨b, off, e, fun k hk => cellK_below (h3 k hk) hb (hB b off e hn)⟩
theorem IsKs.lt {w : World} {n : Nat} {l : List Kid} {b off : Nat} (h : IsKs w (some ⟨b, off, none⟩) n l) (hn : 0 < n) : b < w.heap.size := by
  obtain ⟨h1, _, h2⟩ := h
  obtain ⟨b', off', e, h3⟩ := h2 hn
  injection e with e
  injection e with e1 e2 e3
  subst e1 e2
  exact cellK_lt (h3 0 (by omega))
theorem IsKs.later {w w' : World} {a : Option Addr} {n : Nat} {l : List Kid} (h : IsKs w a n l) (hb : Below w.heap.size w w') : IsKs w' a n l :=
  h.below hb (by
    rintro b o rfl hn
    exact h.lt hn)

theorem formedP_leaf (t : ByteArray) (l : List Kid) : formedP ⟨0, t, l⟩ ↔ 1 ≤ t.size ∧ t.size ≤ 16 ∧ l.length = 0 := by
  unfold formedP
  constructor
  · rintro (⟨_, h⟩ | ⟨h, _⟩)
    · exact h
    · exact absurd h (by simp)
  · intro h
    exact Or.inl ⟨rfl, h⟩
theorem hCheck_ok (h : Int) (w : World) (h0 : 0 ≤ h) (h1 : h ≤ 18446744073709551615) (hk : hOK h) :
    Calls Try.prog 34 #[.int .u64 h] w fun e w' => e = .returned (.int .i64 0) ∧ w = w' := by
  have := hCheck_any h w h0 h1
  rwa [show hErr h = 0 from if_pos hk] at this
theorem hCheck_no (h : Int) (w : World) (h0 : 0 ≤ h) (h1 : h ≤ 18446744073709551615) (hk : ¬ hOK h) :
    Calls Try.prog 34 #[.int .u64 h] w fun e w' => e = .returned (.int .i64 2) ∧ w = w' := by
  have := hCheck_any h w h0 h1
  rwa [show hErr h = 2 from if_neg hk] at this

set_option maxRecDepth 100000 in
set_option maxHeartbeats 1000000 in
theorem formed_leaf (t : ByteArray) (l : List Kid) (ao : Option Addr) (n c : Nat) (w : World) (hl : l.length = n) :
    Calls Try.prog 47 #[aggN 0 t ao n c] w fun e w' => e = .returned (.bool (decide (formedP ⟨0, t, l⟩))) ∧ Below w.heap.size w w' := by
  unfold aggN
  by_cases c1 : (1 : Int) ≤ (t.size : Int)
  · by_cases c2 : (t.size : Int) ≤ 16
    · by_cases c3 : n = 0
      · subst c3
        have e : decide (formedP ⟨0, t, l⟩) = true := decide_eq_true ((formedP_leaf t l).2 ⟨by omega, by omega, hl⟩)
        rw [e]
        clear e
        go_enter Try.func47, Try.ntmps47
        go_wp2_with fail
        go_ret
        exact ⟨rfl, by go_grown⟩
      · have c3' : ((n : Int) == 0) = false := by simpa using c3
        have e : decide (formedP ⟨0, t, l⟩) = false := decide_eq_false fun h => c3 (hl ▸ ((formedP_leaf t l).1 h).2.2)
        rw [e]
        clear e c3 hl
        go_enter Try.func47, Try.ntmps47
        go_wp2_with fail
        go_ret
        exact ⟨rfl, by go_grown⟩
    · have e : decide (formedP ⟨0, t, l⟩) = false := decide_eq_false fun h => by have := (formedP_leaf t l).1 h; omega
      rw [e]
      clear e hl
      go_enter Try.func47, Try.ntmps47
      go_wp2_with fail
      go_ret
      exact ⟨rfl, by go_grown⟩
  · have e : decide (formedP ⟨0, t, l⟩) = false := decide_eq_false fun h => by have := (formedP_leaf t l).1 h; omega
    rw [e]
    clear e hl
    go_enter Try.func47, Try.ntmps47
    go_wp2_with fail
    go_ret
    exact ⟨rfl, by go_grown⟩

set_option maxRecDepth 100000 in
set_option maxHeartbeats 1000000 in
theorem formed_bad (h : Int) (t : ByteArray) (ao : Option Addr) (n c : Nat) (w : World) (h0 : h ≠ 0) (hx : ¬ (1 ≤ h ∧ h ≤ 16 ∧ t = ⟨#[]⟩ ∧ 2 ≤ n ∧ n ≤ 4)) :
    Calls Try.prog 47 #[aggN h t ao n c] w fun e w' => e = .returned (.bool false) ∧ Below w.heap.size w w' := by
  unfold aggN
  have h0' : (h == 0) = false := by simpa using h0
  by_cases c1 : h < 1
  · go_enter Try.func47, Try.ntmps47
    go_wp2_with fail
    go_ret
    exact ⟨rfl, by go_grown⟩
  by_cases c2 : 16 < h
  · go_enter Try.func47, Try.ntmps47
    go_wp2_with fail
    go_ret
    exact ⟨rfl, by go_grown⟩
  by_cases c3 : t = ⟨#[]⟩
  · subst c3
    by_cases c4 : (n : Int) < 2
    · clear hx
      go_enter Try.func47, Try.ntmps47
      go_wp2_with fail
      go_ret
      exact ⟨rfl, by go_grown⟩
    · have c5 : (4 : Int) < n := by
        rcases Int.lt_or_le 4 n with h | h
        · exact h
        · exact absurd ⟨by omega, by omega, rfl, by omega, by omega⟩ hx
      clear hx
      go_enter Try.func47, Try.ntmps47
      go_wp2_with fail
      go_ret
      exact ⟨rfl, by go_grown⟩
  · have c3' : t.toList.isEmpty = false := by
      rw [ByteArray.toList_eq]
      rcases h : t.data.toList with _ | _
      · exact absurd (by cases t; simp at h; simp [h]) c3
      · rfl
    clear hx c3
    go_enter Try.func47, Try.ntmps47
    go_wp2_with fail
    go_ret
    exact ⟨rfl, by go_grown⟩

set_option maxRecDepth 100000 in
set_option maxHeartbeats 2000000 in
theorem formed_inner (m : Nat) (l : List Kid) (b off n c : Nat) (w : World) (hl : l.length = n) (hm : m ≤ 15) (hn : 2 ≤ n ∧ n ≤ 4) (hu : ∀ x ∈ l, 0 ≤ x.1 ∧ x.1 ≤ 18446744073709551615) (hk : ∀ k (h : k < l.length), cellK w b (off + k * 4) l[k]) :
    Calls Try.prog 47 #[aggN ((m + 1 : Nat) : Int) ⟨#[]⟩ (some ⟨b, off, none⟩) n c] w fun e w' => e = .returned (.bool (decide (∀ x ∈ l, kidOK m x))) ∧ Below w.heap.size w w' := by
  unfold aggN
  have hbw : b < w.heap.size := cellK_lt (hk 0 (by omega))
  have h0 : (((m + 1 : Nat) : Int) == 0) = false := by simp; omega
  have h1 : ¬ ((m + 1 : Nat) : Int) < 1 := by omega
  have h2 : ¬ (16 : Int) < ((m + 1 : Nat) : Int) := by omega
  have h3 : ¬ (n : Int) < 2 := by omega
  have h4 : ¬ (4 : Int) < (n : Int) := by omega
  have hw : wrap64 (((m + 1 : Nat) : Int) - 1) = (m : Int) := by rw [show ((m + 1 : Nat) : Int) - 1 = (m : Int) by omega]; exact IntWalk.wrap64_in _ (by omega)
  have HK := Lib.hid hk
  have HU := Lib.hid hu
  have HL := Lib.hid hl
  clear hk hu hl
  go_enter Try.func47, Try.ntmps47
  go_wp2_with fail
  refine (bounds_any m _ hm).mono ?_; rintro e w1 ⟨rfl, rfl⟩
  go_wp2_with fail
  go_loopw [61] (fun i wr => ∃ k : Nat, k ≤ n ∧ i = .int .i64 k ∧ Below w.heap.size w wr ∧ ∀ j (hj : j < l.length), j < k → kidOK m l[j]) (fun i _ => n - (intOf i).toNat)
  case atStart => exact ⟨0, Nat.zero_le _, rfl, by go_grown, fun _ _ h => absurd h (Nat.not_lt_zero _)⟩
  case round =>
    obtain ⟨k, hkn, rfl, hbr, hall⟩ := hrel
    have HALL := Lib.hid hall
    clear hall
    have HBR := Lib.hid hbr
    have hsz := hbr.size
    by_cases hlt : k < n
    · have hkl : k < l.length := by rw [HL.out]; exact hlt
      obtain ⟨m0, m1, m2, m3⟩ := cellK_below (HK.out k hkl) hbr hbw
      obtain ⟨u0, u1⟩ := HU.out l[k] (List.getElem_mem hkl)
      clear hbr
      by_cases t1 : hOK l[k].1
      · by_cases t2 : l[k].2.1 < (bnd m).1
        · have e : decide (∀ x ∈ l, kidOK m x) = false := decide_eq_false fun h => by have := h l[k] (List.getElem_mem hkl); unfold kidOK at this; omega
          have HE := Lib.hid e
          clear e
          go_wp2_with fail
          refine (hCheck_ok _ _ u0 u1 t1).mono ?_; rintro e w1 ⟨rfl, rfl⟩
          go_wp2_with fail
          go_ret
          exact ⟨congrArg (fun b => Ending.returned (.bool b)) HE.out.symm, by have := HBR.out; go_grown⟩
        by_cases t3 : (bnd m).2 < l[k].2.1
        · have e : decide (∀ x ∈ l, kidOK m x) = false := decide_eq_false fun h => by have := h l[k] (List.getElem_mem hkl); unfold kidOK at this; omega
          have HE := Lib.hid e
          clear e
          go_wp2_with fail
          refine (hCheck_ok _ _ u0 u1 t1).mono ?_; rintro e w1 ⟨rfl, rfl⟩
          go_wp2_with fail
          go_ret
          exact ⟨congrArg (fun b => Ending.returned (.bool b)) HE.out.symm, by have := HBR.out; go_grown⟩
        by_cases t4 : l[k].2.2.1 < 0
        · have e : decide (∀ x ∈ l, kidOK m x) = false := decide_eq_false fun h => by have := h l[k] (List.getElem_mem hkl); unfold kidOK at this; omega
          have HE := Lib.hid e
          clear e
          go_wp2_with fail
          refine (hCheck_ok _ _ u0 u1 t1).mono ?_; rintro e w1 ⟨rfl, rfl⟩
          go_wp2_with fail
          go_ret
          exact ⟨congrArg (fun b => Ending.returned (.bool b)) HE.out.symm, by have := HBR.out; go_grown⟩
        by_cases t5 : l[k].2.1 < l[k].2.2.1
        · have e : decide (∀ x ∈ l, kidOK m x) = false := decide_eq_false fun h => by have := h l[k] (List.getElem_mem hkl); unfold kidOK at this; omega
          have HE := Lib.hid e
          clear e
          go_wp2_with fail
          refine (hCheck_ok _ _ u0 u1 t1).mono ?_; rintro e w1 ⟨rfl, rfl⟩
          go_wp2_with fail
          go_ret
          exact ⟨congrArg (fun b => Ending.returned (.bool b)) HE.out.symm, by have := HBR.out; go_grown⟩
        by_cases t6 : l[k].2.2.2 < 0
        · have e : decide (∀ x ∈ l, kidOK m x) = false := decide_eq_false fun h => by have := h l[k] (List.getElem_mem hkl); unfold kidOK at this; omega
          have HE := Lib.hid e
          clear e
          go_wp2_with fail
          refine (hCheck_ok _ _ u0 u1 t1).mono ?_; rintro e w1 ⟨rfl, rfl⟩
          go_wp2_with fail
          go_ret
          exact ⟨congrArg (fun b => Ending.returned (.bool b)) HE.out.symm, by have := HBR.out; go_grown⟩
        by_cases t7 : l[k].2.2.1 < l[k].2.2.2
        · have e : decide (∀ x ∈ l, kidOK m x) = false := decide_eq_false fun h => by have := h l[k] (List.getElem_mem hkl); unfold kidOK at this; omega
          have HE := Lib.hid e
          clear e
          go_wp2_with fail
          refine (hCheck_ok _ _ u0 u1 t1).mono ?_; rintro e w1 ⟨rfl, rfl⟩
          go_wp2_with fail
          go_ret
          exact ⟨congrArg (fun b => Ending.returned (.bool b)) HE.out.symm, by have := HBR.out; go_grown⟩
        have hg : kidOK m l[k] := ⟨t1, by omega, by omega, by omega, by omega, by omega, by omega⟩
        have HG := Lib.hid hg
        clear hg
        go_wp2_with fail
        refine (hCheck_ok _ _ u0 u1 t1).mono ?_; rintro e w1 ⟨rfl, rfl⟩
        go_wp2_with fail
        go_roundw
        case rel =>
          refine ⟨k + 1, by omega, by go_num, by have := HBR.out; go_grown, fun j hj hjk => ?_⟩
          rcases Nat.lt_or_ge j k with h | h
          · exact HALL.out j hj h
          · obtain rfl : j = k := by omega
            exact HG.out
        case measure => simp [intOf]; omega
      · have e : decide (∀ x ∈ l, kidOK m x) = false := decide_eq_false fun h => by have := h l[k] (List.getElem_mem hkl); unfold kidOK at this; exact t1 this.1
        have HE := Lib.hid e
        clear e
        go_wp2_with fail
        refine (hCheck_no _ _ u0 u1 t1).mono ?_; rintro e w1 ⟨rfl, rfl⟩
        go_wp2_with fail
        go_ret
        exact ⟨congrArg (fun b => Ending.returned (.bool b)) HE.out.symm, by have := HBR.out; go_grown⟩
    · have e : decide (∀ x ∈ l, kidOK m x) = true := decide_eq_true fun x hx => by
        obtain ⟨j, hj, rfl⟩ := List.getElem_of_mem hx
        exact HALL.out j hj (by have := HL.out; omega)
      have HE := Lib.hid e
      clear e hbr
      go_wp2_with fail
      go_ret
      exact ⟨congrArg (fun b => Ending.returned (.bool b)) HE.out.symm, HBR.out⟩

theorem formed_any (x : Nd) (ao : Option Addr) (n c : Nat) (w : World) (hk : IsKs w ao n x.kids) :
    Calls Try.prog 47 #[aggN x.h x.text ao n c] w fun e w' => e = .returned (.bool (decide (formedP x))) ∧ Below w.heap.size w w' := by
  obtain ⟨h, t, l⟩ := x
  obtain ⟨hl, hu, hc⟩ := hk
  simp only at hl hu hc ⊢
  by_cases h0 : h = 0
  · subst h0
    exact formed_leaf t l ao n c w hl
  · by_cases hx : 1 ≤ h ∧ h ≤ 16 ∧ t = ⟨#[]⟩ ∧ 2 ≤ n ∧ n ≤ 4
    · obtain ⟨h1, h2, rfl, h4⟩ := hx
      obtain ⟨m, rfl⟩ : ∃ m : Nat, h = ((m + 1 : Nat) : Int) := ⟨(h - 1).toNat, by omega⟩
      obtain ⟨b, off, rfl, hc'⟩ := hc (by omega)
      have := formed_inner m l b off n c w hl (by omega) h4 hu hc'
      have e : decide (formedP ⟨((m + 1 : Nat) : Int), ⟨#[]⟩, l⟩) = decide (∀ x ∈ l, kidOK m x) := by
        refine decide_eq_decide.2 ⟨?_, fun h => Or.inr ⟨h1, h2, rfl, ?_, ?_, ?_⟩⟩
        · rintro (⟨h, _⟩ | ⟨_, _, _, _, _, h⟩)
          · exact absurd h h0
          · have e : (((m + 1 : Nat) : Int) - 1).toNat = m := by omega
            rw [← e]; exact h
        · simp only; omega
        · simp only; omega
        · have e : (((m + 1 : Nat) : Int) - 1).toNat = m := by omega
          simp only; rw [e]; exact h
      rw [e]; exact this
    · have e : decide (formedP ⟨h, t, l⟩) = false := by
        refine decide_eq_false ?_
        rintro (⟨h, _⟩ | ⟨h1, h2, h3, h4, h5, _⟩)
        · exact h0 h
        · refine hx ⟨h1, h2, ?_, ?_, ?_⟩
          · cases t; simpa [ByteArray.size] using h3
          · simp only at h4; omega
          · simp only at h5; omega
      rw [e]; exact formed_bad h t ao n c w h0 hx
end Go.Proofs.Ytbodacjhhkjdfaa
