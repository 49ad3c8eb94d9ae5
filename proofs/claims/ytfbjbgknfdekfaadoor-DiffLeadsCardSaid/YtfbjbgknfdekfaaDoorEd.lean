/- Diff: Common of the program: its walk. -/
import Derived.Test.YtfbjbgknfdekfaaDoorEc
namespace Go.Proofs.YtfbjbgknfdekfaaDoor
open Go.RowKit
set_option linter.unusedVariables false

theorem bytes_below (w : World) (e : TypeId) (s : ByteArray) : Below w.heap.size w (Lib.bytesWorld w e s) := by
  have h : ∀ (w : World) (a : Addr) (n : Nat), Below w.heap.size w (w.freeze a n) ∨ True := fun _ _ _ => .inr trivial
  refine ⟨?_, ?_, ?_, by rw [Lib.bytesWorld_size]; omega, fun k hk => Lib.bytesWorld_at_old w e s k hk⟩
  all_goals
    unfold Lib.bytesWorld World.freeze
    split <;> rfl
theorem bytes_in (w : World) (s : ByteArray) : InB (Lib.bytesWorld w 5 s) (some ⟨w.heap.size, 0, none⟩) s.data.toList := fun _ =>
  ⟨w.heap.size, 0, rfl, by rw [Lib.bytesWorld_size]; omega, fun j hj => by
    have h2 : s.data.toList.length = s.size := Array.length_toList ..
    rw [Nat.zero_add, Lib.bytesWorld_cell w _ s j (by omega), List.getD_eq_getElem?_getD, List.getElem?_eq_getElem hj]
    rfl⟩
theorem cv_bytes (s : ByteArray) (w : World) : (convert 9 47 (.string s)).run Tryd.prog w = .ok (.slice (some ⟨w.heap.size, 0, none⟩) s.size (grownCap w s.size 0 5)) (Lib.bytesWorld w 5 s) :=
  Lib.run_convert_string_bytes w _ _ _ s Tryd.underlying9 Tryd.underlying47 Tryd.underlying5

set_option maxRecDepth 100000 in
set_option maxHeartbeats 4000000 in
theorem common_any (a b : ByteArray) (w : World) (ha : a.size ≤ 140737488355328) (hb : b.size ≤ 140737488355328) :
    Calls Tryd.prog 11 #[.string a, .string b] w fun e w' => e = .returned (.tuple #[.int .i64 (comP a b), .int .i64 (comS a b)]) ∧ Below w.heap.size w w' := by
  have hla : a.data.toList.length = a.size := Array.length_toList ..
  have hlb : b.data.toList.length = b.size := Array.length_toList ..
  have HLA := Lib.hid hla
  have HLB := Lib.hid hlb
  have hcv1 := cv_bytes a
  have hcv2 := cv_bytes b
  clear hla hlb
  go_enter Tryd.func11, Tryd.ntmps11
  go_wp2_with fail
  clear hcv1 hcv2
  have HR1 := Lib.hid (fun u => reversed_any a u ha)
  have HR2 := Lib.hid (fun u => reversed_any b u hb)
  have hb1 := bytes_below w 5 a
  have hb2 := bytes_below (Lib.bytesWorld w 5 a) 5 b
  have HB2 := Lib.hid (below_two hb1 hb2)
  have HC1 := Lib.hid (same_any _ _ a.size b.size (grownCap w a.size 0 5) (grownCap (Lib.bytesWorld w 5 a) b.size 0 5) a.data.toList b.data.toList _ ((bytes_in w a).below hb2) (bytes_in (Lib.bytesWorld w 5 a) b) HLA.out HLB.out (by omega))
  clear hb1 hb2
  refine (HC1.out).mono ?_; rintro e w3 ⟨rfl, hb3⟩
  have HB3 := Lib.hid (below_two HB2.out hb3)
  have hp := pre_le a.data.toList b.data.toList
  rw [HLA.out, HLB.out] at hp
  obtain ⟨p1, p2⟩ := hp
  have HP := Lib.hid (show comP a b = down (bnd2 a b) (pre a.data.toList b.data.toList) from rfl)
  generalize pre a.data.toList b.data.toList = q at *
  clear hb3 HC1
  go_wp2_with fail
  go_loopw [4] (fun s wr => ∃ (p : Nat), p ≤ q ∧ s = .int .i64 p ∧ comP a b = down (bnd2 a b) p ∧ Below w.heap.size w wr) (fun s _ => (intOf s).toNat)
  case atStart => exact ⟨q, Nat.le_refl _, rfl, HP.out, HB3.out⟩
  case round =>
    obtain ⟨p, hpq, rfl, hcp, hbr⟩ := hrel
    have HBR := Lib.hid hbr
    have HCP := Lib.hid hcp
    clear hbr hcp
    by_cases h0 : p = 0
    · have h0' : ¬ ((0 : Int) < (p : Int)) := by omega
      have hd0 := decide_eq_false h0'
      have HE := Lib.hid (show comP a b = p by rw [HCP.out, h0]; rfl)
      have HF := Lib.hid (show comP a b ≤ a.size ∧ comP a b ≤ b.size by rw [HE.out]; omega)
      clear h0
      go_wp2_with fail
      refine (HR1.out wr).mono ?_; rintro e w4 ⟨rfl, hin1, hb4⟩
      have HB4 := Lib.hid (below_two HBR.out hb4)
      have HI1 := Lib.hid hin1
      clear hb4 hin1
      go_wp2_with fail
      refine (HR2.out w4).mono ?_; rintro e w5 ⟨rfl, hin2, hb5⟩
      have HB5 := Lib.hid (below_two HB4.out hb5)
      have HC2 := Lib.hid (same_any _ _ a.size b.size a.size b.size a.data.toList.reverse b.data.toList.reverse w5 (HI1.out.below hb5) hin2 (by rw [List.length_reverse]; exact HLA.out) (by rw [List.length_reverse]; exact HLB.out) (by omega))
      clear hb5 hin2
      go_wp2_with fail
      refine (HC2.out).mono ?_; rintro e w6 ⟨rfl, hb6⟩
      have HB6 := Lib.hid (below_two HB5.out hb6)
      clear hb6
      have HS := Lib.hid (show comS a b = down (bndS a b) (min (pre a.data.toList.reverse b.data.toList.reverse) (min a.size b.size - p)) by
        unfold comS comK
        rw [HE.out])
      generalize pre a.data.toList.reverse b.data.toList.reverse = q2 at *
      go_wp2_with fail
      obtain ⟨K, hK⟩ : ∃ K : Nat, K = min q2 (min a.size b.size - p) := ⟨_, rfl⟩
      rw [← hK] at HS
      have hKI : min (q2 : Int) (min (a.size : Int) (b.size : Int) - (p : Int)) = (K : Int) := by omega
      have hKa : K ≤ a.size := by omega
      have hKb : K ≤ b.size := by omega
      rw [hKI]
      clear hK hKI
      go_loopw [5] (fun s wr => ∃ (k : Nat), k ≤ K ∧ s = .int .i64 k ∧ comS a b = down (bndS a b) k ∧ Below w.heap.size w wr) (fun s _ => (intOf s).toNat)
      case atStart => exact ⟨K, Nat.le_refl _, rfl, HS.out, HB6.out⟩
      case round =>
        obtain ⟨k, hkK, rfl, hcs, hbr2⟩ := hrel
        have HBR2 := Lib.hid hbr2
        have HCS := Lib.hid hcs
        clear hbr2 hcs
        by_cases h0 : k = 0
        · have h0' : ¬ ((0 : Int) < (k : Int)) := by omega
          have hd0 := decide_eq_false h0'
          have HE2 := Lib.hid (show comS a b = k by rw [HCS.out, h0]; rfl)
          clear h0
          go_wp2_with fail
          go_ret2
          exact ⟨by rw [HE.out, HE2.out] <;> rfl, HBR2.out⟩
        · have h0' : (0 : Int) < (k : Int) := by omega
          have HA1 := Lib.hid (boundary_any a (a.size - k) (by omega))
          have HA2 := Lib.hid (boundary_any b (b.size - k) (by omega))
          have HND := Lib.hid (fun h : ¬ bndS a b k = true => show comS a b = down (bndS a b) (k - 1) by
            rw [HCS.out]
            obtain ⟨j, rfl⟩ : ∃ j, k = j + 1 := ⟨k - 1, by omega⟩
            exact down_no h)
          have hs1 : (a.size : Int) - (k : Int) = ((a.size - k : Nat) : Int) := by omega
          have hs2 : (b.size : Int) - (k : Int) = ((b.size - k : Nat) : Int) := by omega
          rcases h1 : bnd a (a.size - k) with _ | _
          · have HN := Lib.hid (HND.out (by unfold bndS; rw [h1]; simp))
            rw [h1] at HA1
            clear h1
            go_wp2_with fail
            refine (HA1.out _).mono ?_; rintro e w7 ⟨rfl, rfl⟩
            clear hs1 hs2
            go_wp2_with fail
            go_roundw
            case rel => exact ⟨k - 1, by omega, by first | rfl | (congr 1; omega), HN.out, HBR2.out⟩
            case measure => simp [intOf]; omega
          · rcases h2 : bnd b (b.size - k) with _ | _
            · have HN := Lib.hid (HND.out (by unfold bndS; rw [h1, h2]; decide))
              rw [h1] at HA1
              rw [h2] at HA2
              clear h1 h2
              go_wp2_with fail
              refine (HA1.out _).mono ?_; rintro e w7 ⟨rfl, rfl⟩
              go_wp2_with fail
              refine (HA2.out _).mono ?_; rintro e w8 ⟨rfl, rfl⟩
              clear hs1 hs2
              go_wp2_with fail
              go_roundw
              case rel => exact ⟨k - 1, by omega, by first | rfl | (congr 1; omega), HN.out, HBR2.out⟩
              case measure => simp [intOf]; omega
            · have HE2 := Lib.hid (show comS a b = k by rw [HCS.out]; exact down_yes (by unfold bndS; rw [h1, h2]; rfl))
              rw [h1] at HA1
              rw [h2] at HA2
              clear h1 h2
              go_wp2_with fail
              refine (HA1.out _).mono ?_; rintro e w7 ⟨rfl, rfl⟩
              go_wp2_with fail
              refine (HA2.out _).mono ?_; rintro e w8 ⟨rfl, rfl⟩
              clear hs1 hs2
              go_wp2_with fail
              go_ret2
              exact ⟨by rw [HE.out, HE2.out] <;> rfl, HBR2.out⟩
    · have h0' : (0 : Int) < (p : Int) := by omega
      have HA1 := Lib.hid (boundary_any a p (by omega))
      have HA2 := Lib.hid (boundary_any b p (by omega))
      have HND := Lib.hid (fun h : ¬ bnd2 a b p = true => show comP a b = down (bnd2 a b) (p - 1) by
        rw [HCP.out]
        obtain ⟨k, rfl⟩ : ∃ k, p = k + 1 := ⟨p - 1, by omega⟩
        exact down_no h)
      have hw1 : IntKind.i64.wrap ((p : Int) - 1) = ((p - 1 : Nat) : Int) := by rw [IntKind.wrap_i64]; omega
      rcases h1 : bnd a p with _ | _
      · have HN := Lib.hid (HND.out (by unfold bnd2; rw [h1]; simp))
        rw [h1] at HA1
        clear h1
        go_wp2_with fail
        refine (HA1.out _).mono ?_; rintro e w4 ⟨rfl, rfl⟩
        go_wp2_with fail
        go_roundw
        case rel => exact ⟨p - 1, by omega, by first | rfl | (congr 1; omega), HN.out, HBR.out⟩
        case measure => simp [intOf]; omega
      · rcases h2 : bnd b p with _ | _
        · have HN := Lib.hid (HND.out (by unfold bnd2; rw [h1, h2]; decide))
          rw [h1] at HA1
          rw [h2] at HA2
          clear h1 h2
          go_wp2_with fail
          refine (HA1.out _).mono ?_; rintro e w4 ⟨rfl, rfl⟩
          go_wp2_with fail
          refine (HA2.out _).mono ?_; rintro e w5 ⟨rfl, rfl⟩
          go_wp2_with fail
          go_roundw
          case rel => exact ⟨p - 1, by omega, by first | rfl | (congr 1; omega), HN.out, HBR.out⟩
          case measure => simp [intOf]; omega
        · have HE := Lib.hid (show comP a b = p by rw [HCP.out]; exact down_yes (by unfold bnd2; rw [h1, h2]; rfl))
          rw [h1] at HA1
          rw [h2] at HA2
          clear h1 h2
          go_wp2_with fail
          refine (HA1.out _).mono ?_; rintro e w4 ⟨rfl, rfl⟩
          go_wp2_with fail
          refine (HA2.out _).mono ?_; rintro e w5 ⟨rfl, rfl⟩
          clear HA1 HA2
          go_wp2_with fail
          refine (HR1.out wr).mono ?_; rintro e w4 ⟨rfl, hin1, hb4⟩
          have HB4 := Lib.hid (below_two HBR.out hb4)
          have HI1 := Lib.hid hin1
          clear hb4 hin1
          go_wp2_with fail
          refine (HR2.out w4).mono ?_; rintro e w5 ⟨rfl, hin2, hb5⟩
          have HB5 := Lib.hid (below_two HB4.out hb5)
          have HC2 := Lib.hid (same_any _ _ a.size b.size a.size b.size a.data.toList.reverse b.data.toList.reverse w5 (HI1.out.below hb5) hin2 (by rw [List.length_reverse]; exact HLA.out) (by rw [List.length_reverse]; exact HLB.out) (by omega))
          clear hb5 hin2
          go_wp2_with fail
          refine (HC2.out).mono ?_; rintro e w6 ⟨rfl, hb6⟩
          have HB6 := Lib.hid (below_two HB5.out hb6)
          clear hb6
          have HS := Lib.hid (show comS a b = down (bndS a b) (min (pre a.data.toList.reverse b.data.toList.reverse) (min a.size b.size - p)) by
            unfold comS comK
            rw [HE.out])
          generalize pre a.data.toList.reverse b.data.toList.reverse = q2 at *
          go_wp2_with fail
          obtain ⟨K, hK⟩ : ∃ K : Nat, K = min q2 (min a.size b.size - p) := ⟨_, rfl⟩
          rw [← hK] at HS
          have hKI : min (q2 : Int) (min (a.size : Int) (b.size : Int) - (p : Int)) = (K : Int) := by omega
          have hKa : K ≤ a.size := by omega
          have hKb : K ≤ b.size := by omega
          rw [hKI]
          clear hK hKI
          go_loopw [5] (fun s wr => ∃ (k : Nat), k ≤ K ∧ s = .int .i64 k ∧ comS a b = down (bndS a b) k ∧ Below w.heap.size w wr) (fun s _ => (intOf s).toNat)
          case atStart => exact ⟨K, Nat.le_refl _, rfl, HS.out, HB6.out⟩
          case round =>
            obtain ⟨k, hkK, rfl, hcs, hbr2⟩ := hrel
            have HBR2 := Lib.hid hbr2
            have HCS := Lib.hid hcs
            clear hbr2 hcs
            by_cases h0 : k = 0
            · have h0' : ¬ ((0 : Int) < (k : Int)) := by omega
              have hd0 := decide_eq_false h0'
              have HE2 := Lib.hid (show comS a b = k by rw [HCS.out, h0]; rfl)
              clear h0
              go_wp2_with fail
              go_ret2
              exact ⟨by rw [HE.out, HE2.out] <;> rfl, HBR2.out⟩
            · have h0' : (0 : Int) < (k : Int) := by omega
              have HA1 := Lib.hid (boundary_any a (a.size - k) (by omega))
              have HA2 := Lib.hid (boundary_any b (b.size - k) (by omega))
              have HND := Lib.hid (fun h : ¬ bndS a b k = true => show comS a b = down (bndS a b) (k - 1) by
                rw [HCS.out]
                obtain ⟨j, rfl⟩ : ∃ j, k = j + 1 := ⟨k - 1, by omega⟩
                exact down_no h)
              have hs1 : (a.size : Int) - (k : Int) = ((a.size - k : Nat) : Int) := by omega
              have hs2 : (b.size : Int) - (k : Int) = ((b.size - k : Nat) : Int) := by omega
              rcases h1 : bnd a (a.size - k) with _ | _
              · have HN := Lib.hid (HND.out (by unfold bndS; rw [h1]; simp))
                rw [h1] at HA1
                clear h1
                go_wp2_with fail
                refine (HA1.out _).mono ?_; rintro e w7 ⟨rfl, rfl⟩
                clear hs1 hs2
                go_wp2_with fail
                go_roundw
                case rel => exact ⟨k - 1, by omega, by first | rfl | (congr 1; omega), HN.out, HBR2.out⟩
                case measure => simp [intOf]; omega
              · rcases h2 : bnd b (b.size - k) with _ | _
                · have HN := Lib.hid (HND.out (by unfold bndS; rw [h1, h2]; decide))
                  rw [h1] at HA1
                  rw [h2] at HA2
                  clear h1 h2
                  go_wp2_with fail
                  refine (HA1.out _).mono ?_; rintro e w7 ⟨rfl, rfl⟩
                  go_wp2_with fail
                  refine (HA2.out _).mono ?_; rintro e w8 ⟨rfl, rfl⟩
                  clear hs1 hs2
                  go_wp2_with fail
                  go_roundw
                  case rel => exact ⟨k - 1, by omega, by first | rfl | (congr 1; omega), HN.out, HBR2.out⟩
                  case measure => simp [intOf]; omega
                · have HE2 := Lib.hid (show comS a b = k by rw [HCS.out]; exact down_yes (by unfold bndS; rw [h1, h2]; rfl))
                  rw [h1] at HA1
                  rw [h2] at HA2
                  clear h1 h2
                  go_wp2_with fail
                  refine (HA1.out _).mono ?_; rintro e w7 ⟨rfl, rfl⟩
                  go_wp2_with fail
                  refine (HA2.out _).mono ?_; rintro e w8 ⟨rfl, rfl⟩
                  clear hs1 hs2
                  go_wp2_with fail
                  go_ret2
                  exact ⟨by rw [HE.out, HE2.out] <;> rfl, HBR2.out⟩
end Go.Proofs.YtfbjbgknfdekfaaDoor
