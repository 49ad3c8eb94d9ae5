/- The arena: below. -/
import Derived.Test.YtfgkbnnojogjpaaQq
namespace Go.Proofs.Ytfgkbnnojogjpaa
open Go.RowKit
set_option linter.unusedVariables false

def belP (A : AS) (h : Int) : Prop := ∃ p ∈ A.it, ∃ k ∈ p.2.kids, k.1 = h
def BelR (A : AS) (h : Int) (w : World) (e : Ending) (w' : World) : Prop := ∃ b : Bool, e = .returned (.bool b) ∧ (b = true ↔ belP A h) ∧ Below w.heap.size w w'
theorem hsF_live {x : FL} (hf : FInv x) {i : Nat} (hi : i < (slotsTo x 1 x.n).length) : liveL x (hsF x i) := by
  have hm : (slotsTo x 1 x.n).getD i 0 ∈ slotsTo x 1 x.n := by
    rw [List.getD_eq_getElem?_getD, List.getElem?_eq_getElem hi]
    exact List.getElem_mem hi
  have h2 := List.mem_filter.1 hm
  exact (live_iff hf _).2 ⟨_, List.mem_range.1 h2.1, by simpa using h2.2, rfl⟩
theorem hsF_all {x : FL} (hf : FInv x) {h : Int} (hl : liveL x h) : ∃ i, i < (slotsTo x 1 x.n).length ∧ hsF x i = h := by
  obtain ⟨s, h1, h2, rfl⟩ := (live_iff hf h).1 hl
  have hm : s ∈ slotsTo x 1 x.n := List.mem_filter.2 ⟨List.mem_range.2 h1, by simpa using h2⟩
  obtain ⟨i, hi, e⟩ := List.getElem_of_mem hm
  refine ⟨i, hi, ?_⟩
  unfold hsF
  rw [List.getD_eq_getElem?_getD, List.getElem?_eq_getElem hi]
  show hMk ((slotsTo x 1 x.n)[i]) _ = _
  rw [e]
  rfl
theorem Rs.cell {w : World} {B : Nat} {t : TypeId} {ao : Option Addr} {n c : Nat} {f : Nat → Value} (h : Rs w B t (.slice ao n c) n f) {i : Nat} (hi : i < n) : ∃ b, ao = some ⟨b, 0, none⟩ ∧ w.cell? ⟨b, i, none⟩ = some (f i) := by
  obtain ⟨ao', c', e, h⟩ := h
  cases e
  obtain ⟨b, cap, e, -, har⟩ := h (by omega)
  exact ⟨b, e, har.cell hi⟩
theorem bel_no {A : AS} (hi : AInv A) {h : Int} (H : ∀ t, t < (slotsTo A.x 1 A.x.n).length → ∀ k ∈ (nodeOf A (hsF A.x t)).kids, k.1 ≠ h) : ¬ belP A h := by
  rintro ⟨p, hp, k, hk, rfl⟩
  have hl := (hi.liv p.1).2 (List.mem_map.2 ⟨p, hp, rfl⟩)
  obtain ⟨i, h1, h2⟩ := hsF_all hi.f hl
  refine H i h1 k ?_ rfl
  rw [h2]
  unfold nodeOf
  rw [lookI_mem hi.nd hp]
  exact hk

set_option maxRecDepth 100000 in
set_option maxHeartbeats 4000000 in
theorem below_any (w0 : World) (B : PB) (A : AS) (h : Int) (w : World) (hs : SoloA w0 w B A) :
    Calls Try.prog 19 #[.pointer (some ⟨B.p, 0, none⟩), .int .u64 h] w fun e w' => BelR A h w e w' := by
  have HS := Lib.hid hs
  have hn1 := parts_n hs.inv.f
  have hn2 := hs.inv.f.n2
  have hil16 : (slotsTo A.x 1 A.x.n).length ≤ 16384 := by omega
  clear hs hn1 hn2
  go_enter Try.func19, Try.ntmps19
  go_wp2_with fail
  refine (handlesA_any B A w HS.out.is HS.out.inv.f).mono ?_; rintro e w1 hh
  obtain ⟨vl, rfl, hfl, hb⟩ := hh.rs
  obtain ⟨il, hil⟩ : ∃ il, il = (slotsTo A.x 1 A.x.n).length := ⟨_, rfl⟩
  rw [← hil] at hfl hil16
  have HIL := Lib.hid hil
  obtain ⟨al, cl, rfl, -⟩ := id hfl
  have HL1 := Lib.hid (show Rs w1 w.heap.size 31 (.slice al il cl) il (fun i => .int .u64 (hsF A.x i)) from hfl)
  have HB1 := Lib.hid hb
  have HS1 := Lib.hid (HS.out.below hb)
  clear hh hfl hb hil
  go_wp2_with fail
  go_loopw [6] (fun s6 wr => ∃ i : Nat, i ≤ il ∧ s6 = .int .i64 i ∧ (∀ t, t < i → ∀ k ∈ (nodeOf A (hsF A.x t)).kids, k.1 ≠ h) ∧ Below w1.heap.size w1 wr) (fun s6 _ => il - (intOf s6).toNat)
  case atStart => exact ⟨0, Nat.zero_le _, rfl, fun t ht => absurd ht (Nat.not_lt_zero _), Below.refl _ _⟩
  case round =>
    obtain ⟨i, hin, rfl, hno, hbr⟩ := hrel
    have HNO := Lib.hid hno
    have HBR := Lib.hid hbr
    have HSR := Lib.hid (HS1.out.below hbr)
    have HLR := Lib.hid (show Rs wr w.heap.size 31 (.slice al il cl) il (fun i => .int .u64 (hsF A.x i)) from HL1.out.keep hbr (Nat.le_refl _))
    clear hno hbr
    by_cases hlt : i < il
    · have hj1 : (i : Int) < (il : Int) := by omega
      obtain ⟨b, rfl, hcell⟩ := HLR.out.cell hlt
      have q0 : wr.cell? ⟨b, i, none⟩ = some (.int .u64 (hsF A.x i)) := hcell
      have hlv := hsF_live HSR.out.inv.f (i := i) (by rw [← HIL.out]; exact hlt)
      have HMEM := Lib.hid (nodeOf_live HSR.out.inv hlv).1
      have HOK := Lib.hid (HSR.out.inv.ok _ HMEM.out)
      have HGT := Lib.hid (getA_live B A (hsF A.x i) wr HSR.out.is HSR.out.inv hlv)
      have HNX := Lib.hid (show (∀ k ∈ (nodeOf A (hsF A.x i)).kids, k.1 ≠ h) → ∀ t, t < i + 1 → ∀ k ∈ (nodeOf A (hsF A.x t)).kids, k.1 ≠ h from fun H t ht => by
        by_cases e : t = i
        · rw [e]; exact H
        · exact HNO.out t (by omega))
      clear hcell hlv HNO
      simp only at HOK
      generalize nodeOf A (hsF A.x i) = nd at *
      generalize hsF A.x i = th at *
      go_wp2_with fail
      refine (HGT.out).mono ?_; rintro e w5 ⟨v, rfl, hown, hb5⟩
      obtain ⟨sl, rfl, hks⟩ := hown
      obtain ⟨ao2, cap2, rfl, hik, -, -⟩ := hks.ks
      have HB5 := Lib.hid (HBR.out.trans ((hb5.alloc hb5.size (.cells #[.int .i64 nd.h, .string nd.text, .slice ao2 nd.kids.length cap2] 36)).mono HBR.out.size))
      have hy5 := block_new w5 (.cells #[.int .i64 nd.h, .string nd.text, .slice ao2 nd.kids.length cap2] 36)
      have HIK := Lib.hid (hik.later ((Below.refl _ _).alloc (Nat.le_refl _) (.cells #[.int .i64 nd.h, .string nd.text, .slice ao2 nd.kids.length cap2] 36)))
      have hk4 := kids4 HOK.out
      clear hb5 hks hik q0 HGT
      go_wp2_with fail
      obtain ⟨Y, hY⟩ : ∃ Y, Y = w5.heap.size := ⟨_, rfl⟩
      rw [← hY] at hy5
      generalize w5.alloc (.cells #[.int .i64 nd.h, .string nd.text, .slice ao2 nd.kids.length cap2] 36) = w6 at *
      rw [← hY]
      clear hY
      (have q0 := block_cell hy5 0; have q1 := block_cell hy5 1; have q2 := block_cell hy5 2; have f0 := block_free hy5 0; have f1 := block_free hy5 1; have f2 := block_free hy5 2; have hz := block_lt hy5; simp at q0 q1 q2)
      clear hy5
      go_loop [9] (fun s9 => ∃ j : Nat, j ≤ nd.kids.length ∧ s9 = .int .i64 j ∧ ∀ t (ht : t < nd.kids.length), t < j → nd.kids[t].1 ≠ h) (fun s9 => nd.kids.length - (intOf s9).toNat)
      case atStart => exact ⟨0, Nat.zero_le _, rfl, fun t _ ht => absurd ht (Nat.not_lt_zero _)⟩
      case round =>
        obtain ⟨j, hjn, rfl, hnj⟩ := hrel
        have HNJ := Lib.hid hnj
        clear hnj
        by_cases hjl : j < nd.kids.length
        · have hj2 : (j : Int) < (nd.kids.length : Int) := by omega
          obtain ⟨bb2, off2, rfl, hcell⟩ := HIK.out.2.2 (by omega)
          obtain ⟨e0, -, -, -⟩ := hcell j hjl
          clear hcell
          have HKM := Lib.hid (List.getElem_mem hjl)
          have HNJ2 := Lib.hid (show nd.kids[j].1 ≠ h → ∀ t (ht : t < nd.kids.length), t < j + 1 → nd.kids[t].1 ≠ h from fun H t ht hlt => by
            by_cases e : t = j
            · subst e; exact H
            · exact HNJ.out t ht (by omega))
          by_cases hkh : nd.kids[j].1 = h
          · have HBL := Lib.hid (show belP A h from ⟨_, HMEM.out, _, HKM.out, hkh⟩)
            rw [hkh] at e0
            clear hkh HNJ2 HKM HNJ
            go_wp2_with fail
            go_ret
            exact ⟨true, rfl, ⟨fun _ => HBL.out, fun _ => rfl⟩, below_two HB1.out HB5.out⟩
          · have hkb : (nd.kids[j].1 == h) = false := by simpa using hkh
            have HN3 := Lib.hid (HNJ2.out hkh)
            clear hkh HNJ2 HNJ HKM
            generalize nd.kids[j].1 = ka at *
            go_wp2_with fail
            go_round
            case rel => exact ⟨j + 1, by omega, by go_num, HN3.out⟩
            case measure => simp [intOf]; omega
        · obtain rfl : j = nd.kids.length := by omega
          have HN4 := Lib.hid (HNX.out (fun k hk => by
            obtain ⟨t, ht, rfl⟩ := List.getElem_of_mem hk
            exact HNJ.out t ht ht))
          clear HNJ HNX
          go_wp2_with fail
          go_roundw
          case rel => exact ⟨i + 1, by omega, by go_num, HN4.out, HB5.out⟩
          case measure => simp [intOf]; omega
    · obtain rfl : i = il := by omega
      have HBN := Lib.hid (bel_no HSR.out.inv (h := h) (by rw [← HIL.out]; exact HNO.out))
      clear HNO
      go_wp2_with fail
      go_ret
      exact ⟨false, rfl, ⟨(fun hh => by cases hh), fun hh => absurd hh HBN.out⟩, below_two HB1.out HBR.out⟩
end Go.Proofs.Ytfgkbnnojogjpaa
