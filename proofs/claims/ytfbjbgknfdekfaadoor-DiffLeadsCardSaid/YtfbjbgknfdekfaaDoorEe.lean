/- Diff: Common of the reference: its walk. -/
import Derived.Test.YtfbjbgknfdekfaaDoorEd
namespace Go.Proofs.YtfbjbgknfdekfaaDoor
open Go.RowKit
set_option linter.unusedVariables false

theorem down_next (f : Nat → Bool) (p : Nat) : down f p = if f p = true then p else down f (p - 1) := by
  cases p with
  | zero => by_cases h : f 0 = true <;> simp [h, down]
  | succ p => rw [down_succ]; rfl
theorem pre_ge {a b : List UInt8} {j : Nat} (h1 : j ≤ a.length) (h2 : j ≤ b.length) (h : a.take j = b.take j) : j ≤ pre a b := by
  rw [pre_at a b j h1 h2 h]; omega
theorem rev_at (s : ByteArray) {k : Nat} (h0 : 0 < k) (h : k ≤ s.size) (h' : k - 1 < s.data.toList.reverse.length) : s.data.toList.reverse[k - 1] = s[s.size - k]'(by omega) := by
  have hl : s.data.toList.length = s.size := Array.length_toList ..
  rw [List.getElem_reverse, Array.getElem_toList]
  have : ∀ (i : Nat) (hi : i < s.data.size), i = s.size - k → s.data[i] = s[s.size - k]'(by omega) := fun i hi e => by subst e; rfl
  exact this _ _ (by omega)

set_option maxRecDepth 100000 in
set_option maxHeartbeats 4000000 in
theorem refCommon_any (a b : ByteArray) (w : World) (ha : a.size ≤ 140737488355328) (hb : b.size ≤ 140737488355328) :
    Calls Tryd.prog 12 #[.string a, .string b] w fun e w' => e = .returned (.tuple #[.int .i64 (comP a b), .int .i64 (comS a b)]) ∧ Below w.heap.size w w' := by
  have hla : a.data.toList.length = a.size := Array.length_toList ..
  have hlb : b.data.toList.length = b.size := Array.length_toList ..
  have HLA := Lib.hid hla
  have HLB := Lib.hid hlb
  have HB := Lib.hid (Below.refl w.heap.size w)
  obtain ⟨N, hN⟩ : ∃ N : Nat, N = min a.size b.size := ⟨_, rfl⟩
  have hNI : min (a.size : Int) (b.size : Int) = (N : Int) := by omega
  have hNa : N ≤ a.size := by omega
  have hNb : N ≤ b.size := by omega
  have HN := Lib.hid hN
  clear hla hlb hN
  go_enter Tryd.func12, Tryd.ntmps12
  go_wp2_with fail
  clear hNI
  go_loopw [7] (fun s wr => ∃ (j : Nat), j ≤ N ∧ s = .int .i64 j ∧ a.data.toList.take j = b.data.toList.take j ∧ Below w.heap.size w wr) (fun s _ => N - (intOf s).toNat)
  case atStart => exact ⟨0, Nat.zero_le _, rfl, rfl, HB.out⟩
  case round =>
    obtain ⟨j, hj, rfl, htk, hbr⟩ := hrel
    have HTK := Lib.hid htk
    have HBR := Lib.hid hbr
    have HBN := Lib.hid (fun k => below_drewN hbr k)
    have hj0 : (0 : Int) ≤ (j : Int) := by omega
    by_cases hgo : ∃ (h1 : j < a.size) (h2 : j < b.size), j < N ∧ a[j] = b[j]
    · obtain ⟨h1, h2, h3, he⟩ := hgo
      have h3' : (j : Int) < (N : Int) := by omega
      have h1' : (j : Int) < (a.size : Int) := by omega
      have h2' : (j : Int) < (b.size : Int) := by omega
      have g1 : j < a.data.toList.length := by rw [HLA.out]; exact h1
      have g2 : j < b.data.toList.length := by rw [HLB.out]; exact h2
      have HTS := Lib.hid (take_same g1 g2 HTK.out (by rw [Array.getElem_toList, Array.getElem_toList]; exact he))
      have hwr : IntKind.i64.wrap ((j : Int) + 1) = (j : Int) + 1 := by rw [IntKind.wrap_i64]; omega
      clear g1 g2
      have hee : ((a[j].toNat : Int) == (b[j].toNat : Int)) = true := by rw [he]; exact beq_self_eq_true _
      clear htk hbr he
      go_wp2_with fail
      go_quiet (fail)
      go_wp2_with fail
      go_roundw
      case rel => exact ⟨j + 1, by omega, by go_num, HTS.out, HBN.out _⟩
      case measure => simp [intOf]; omega
    · by_cases h3 : j < N
      · have h3' : (j : Int) < (N : Int) := by omega
        have h1 : j < a.size := by omega
        have h2 : j < b.size := by omega
        have h1' : (j : Int) < (a.size : Int) := by omega
        have h2' : (j : Int) < (b.size : Int) := by omega
        have hne : a[j] ≠ b[j] := fun e => hgo ⟨h1, h2, h3, e⟩
        have HQ := Lib.hid (show pre a.data.toList b.data.toList = j from pre_stop (by rw [HLA.out]; exact h1) (by rw [HLB.out]; exact h2) HTK.out (by rw [Array.getElem_toList, Array.getElem_toList]; exact hne))
        have HJN := Lib.hid (show j ≤ N from hj)
        have hee : ((a[j].toNat : Int) == (b[j].toNat : Int)) = false := by
          rw [beq_eq_false_iff_ne]
          exact fun e => hne (UInt8.toNat_inj.1 (by omega))
        clear htk hbr hne hgo
        go_wp2_with fail
        go_quiet (fail)
        generalize hwj : World.drewN _ _ = wj
        have HBJ := Lib.hid (show Below w.heap.size w wj by rw [← hwj]; exact HBN.out _)
        clear hwj h3' hee HTK HBN HBR
        have HQ2 := Lib.hid (show comP a b = down (bnd2 a b) j by unfold comP; rw [HQ.out])
        have hjq := HJN.out
        clear HQ
        go_wp2_with fail
        go_loopw [8, 9] (fun s8 s9 wr => ∃ (p : Nat), p ≤ j + 1 ∧ s9 = .int .i64 p ∧ s8 = .int .i64 (down (bnd2 a b) (p - 1) : Nat) ∧ Below w.heap.size w wr) (fun _ s9 _ => j + 2 - (intOf s9).toNat)
        case atStart => exact ⟨0, Nat.zero_le _, rfl, rfl, HBJ.out⟩
        case round =>
          obtain ⟨p, hp, rfl, rfl, hbr3⟩ := hrel
          have HB3 := Lib.hid hbr3
          clear hbr3
          have HDN := Lib.hid (show down (bnd2 a b) (p + 1 - 1) = if bnd2 a b p = true then p else down (bnd2 a b) (p - 1) from down_next _ _)
          by_cases hle : p ≤ j
          · have hle' : (p : Int) ≤ (j : Int) := by omega
            have HA1 := Lib.hid (refBoundary_any a p (by omega))
            have HA2 := Lib.hid (refBoundary_any b p (by omega))
            have hwr : IntKind.i64.wrap ((p : Int) + 1) = (p : Int) + 1 := by rw [IntKind.wrap_i64]; omega
            rcases h1 : bnd a p with _ | _
            · have HD := Lib.hid (show down (bnd2 a b) (p + 1 - 1) = down (bnd2 a b) (p - 1) by rw [HDN.out]; unfold bnd2; rw [h1]; simp)
              rw [h1] at HA1
              clear h1
              go_wp2_with fail
              refine (HA1.out _).mono ?_; rintro e w5 ⟨rfl, rfl⟩
              go_wp2_with fail
              go_roundw
              case rel => exact ⟨p + 1, by omega, by go_num, by rw [HD.out], HB3.out⟩
              case measure => simp [intOf]; omega
            · rcases h2 : bnd b p with _ | _
              · have HD := Lib.hid (show down (bnd2 a b) (p + 1 - 1) = down (bnd2 a b) (p - 1) by rw [HDN.out]; unfold bnd2; rw [h1, h2]; simp)
                rw [h1] at HA1
                rw [h2] at HA2
                clear h1 h2
                go_wp2_with fail
                refine (HA1.out _).mono ?_; rintro e w5 ⟨rfl, rfl⟩
                go_wp2_with fail
                refine (HA2.out _).mono ?_; rintro e w6 ⟨rfl, rfl⟩
                go_wp2_with fail
                go_roundw
                case rel => exact ⟨p + 1, by omega, by go_num, by rw [HD.out], HB3.out⟩
                case measure => simp [intOf]; omega
              · have HD := Lib.hid (show down (bnd2 a b) (p + 1 - 1) = p by rw [HDN.out]; unfold bnd2; rw [h1, h2]; rfl)
                rw [h1] at HA1
                rw [h2] at HA2
                clear h1 h2
                go_wp2_with fail
                refine (HA1.out _).mono ?_; rintro e w5 ⟨rfl, rfl⟩
                go_wp2_with fail
                refine (HA2.out _).mono ?_; rintro e w6 ⟨rfl, rfl⟩
                go_wp2_with fail
                go_roundw
                case rel => exact ⟨p + 1, by omega, by go_num, by rw [HD.out], HB3.out⟩
                case measure => simp [intOf]; omega
          · have hle' : ¬ ((p : Int) ≤ (j : Int)) := by omega
            have hpe : down (bnd2 a b) (p - 1) = comP a b := by rw [HQ2.out]; congr 1; omega
            have hPN : comP a b ≤ N := by rw [HQ2.out]; have := down_le (bnd2 a b) j; omega
            rw [hpe]
            clear hpe HDN
            go_wp2_with fail
            go_loopw [10, 11] (fun s10 s11 wr => ∃ (k : Nat), 1 ≤ k ∧ k ≤ N - comP a b + 1 ∧ s11 = .int .i64 k ∧ s10 = .int .i64 (down (bndS a b) (k - 1) : Nat) ∧ a.data.toList.reverse.take (k - 1) = b.data.toList.reverse.take (k - 1) ∧ Below w.heap.size w wr) (fun _ s11 _ => N + 2 - (intOf s11).toNat)
            case atStart => exact ⟨1, Nat.le_refl _, by omega, rfl, rfl, rfl, HB3.out⟩
            case round =>
              obtain ⟨k, hk1, hk2, rfl, rfl, htk, hbr⟩ := hrel
              have HTK := Lib.hid htk
              have HBR := Lib.hid hbr
              have HBN := Lib.hid (fun k => below_drewN hbr k)
              have hk0 : (0 : Int) ≤ (k : Int) := by omega
              have hNP : IntKind.i64.wrap ((N : Int) - (comP a b : Int)) = ((N - comP a b : Nat) : Int) := by rw [IntKind.wrap_i64]; omega
              have HRA := Lib.hid (show a.data.toList.reverse.length = a.size by rw [List.length_reverse]; exact HLA.out)
              have HRB := Lib.hid (show b.data.toList.reverse.length = b.size by rw [List.length_reverse]; exact HLB.out)
              have HK := Lib.hid (show comS a b = down (bndS a b) (min (pre a.data.toList.reverse b.data.toList.reverse) (N - comP a b)) by
                unfold comS comK
                rw [HN.out])
              clear htk hbr
              by_cases h3 : k ≤ N - comP a b
              · have h3' : (k : Int) ≤ ((N - comP a b : Nat) : Int) := by omega
                have hka : k ≤ a.size := by omega
                have hkb : k ≤ b.size := by omega
                have hs1 : (a.size : Int) - (k : Int) = ((a.size - k : Nat) : Int) := by omega
                have hs2 : (b.size : Int) - (k : Int) = ((b.size - k : Nat) : Int) := by omega
                have hv1 : IntKind.i64.wrap ((a.size - k : Nat) : Int) = ((a.size - k : Nat) : Int) := by rw [IntKind.wrap_i64]; omega
                have hv2 : IntKind.i64.wrap ((b.size - k : Nat) : Int) = ((b.size - k : Nat) : Int) := by rw [IntKind.wrap_i64]; omega
                have ia : a.size - k < a.size := by omega
                have ib : b.size - k < b.size := by omega
                have hi1 : (0 : Int) ≤ ((a.size - k : Nat) : Int) := by omega
                have hi2 : ((a.size - k : Nat) : Int) < (a.size : Int) := by omega
                have hi3 : (0 : Int) ≤ ((b.size - k : Nat) : Int) := by omega
                have hi4 : ((b.size - k : Nat) : Int) < (b.size : Int) := by omega
                obtain ⟨i, hi⟩ : ∃ i, i = a.size - k := ⟨_, rfl⟩
                obtain ⟨j, hj⟩ : ∃ j, j = b.size - k := ⟨_, rfl⟩
                rw [← hi] at hs1 hv1 ia hi1 hi2
                rw [← hj] at hs2 hv2 ib hi3 hi4
                have HAT := Lib.hid (show ∀ (g1 : k - 1 < a.data.toList.reverse.length) (g2 : k - 1 < b.data.toList.reverse.length), a.data.toList.reverse[k - 1] = a[i] ∧ b.data.toList.reverse[k - 1] = b[j] from fun g1 g2 => by
                  subst hi
                  subst hj
                  exact ⟨rev_at a (by omega) hka g1, rev_at b (by omega) hkb g2⟩)
                have HI := Lib.hid hi
                have HJ := Lib.hid hj
                clear hi hj
                by_cases he : a[i] = b[j]
                · have hee : ((a[i].toNat : Int) == (b[j].toNat : Int)) = true := by rw [he]; exact beq_self_eq_true _
                  have HTS := Lib.hid (show a.data.toList.reverse.take (k - 1 + 1) = b.data.toList.reverse.take (k - 1 + 1) from
                    take_same (by rw [HRA.out]; omega) (by rw [HRB.out]; omega) HTK.out (by
                      obtain ⟨e1, e2⟩ := HAT.out (by rw [HRA.out]; omega) (by rw [HRB.out]; omega)
                      rw [e1, e2, he]))
                  have HA1 := Lib.hid (refBoundary_any a i (by omega))
                  have HA2 := Lib.hid (refBoundary_any b j (by omega))
                  have HDN := Lib.hid (show down (bndS a b) (k + 1 - 1) = if bndS a b k = true then k else down (bndS a b) (k - 1) from down_next _ _)
                  have HBS := Lib.hid (show bndS a b k = (bnd a i && bnd b j) by unfold bndS; rw [← HI.out, ← HJ.out])
                  have hwr : IntKind.i64.wrap ((k : Int) + 1) = (k : Int) + 1 := by rw [IntKind.wrap_i64]; omega
                  clear he
                  go_wp2_with fail
                  go_quiet (fail)
                  generalize hwx : World.drewN _ _ = wx
                  have HBX := Lib.hid (show Below w.heap.size w wx by rw [← hwx]; exact HBN.out _)
                  clear hwx
                  rcases h1 : bnd a i with _ | _
                  · have HD := Lib.hid (show down (bndS a b) (k + 1 - 1) = down (bndS a b) (k - 1) by rw [HDN.out, HBS.out, h1]; simp)
                    rw [h1] at HA1
                    clear h1
                    go_wp2_with fail
                    refine (HA1.out _).mono ?_; rintro e w5 ⟨rfl, rfl⟩
                    go_wp2_with fail
                    go_roundw
                    case rel => exact ⟨k + 1, by omega, by omega, by go_num, by rw [HD.out], by rw [show k + 1 - 1 = k - 1 + 1 by omega]; exact HTS.out, HBX.out⟩
                    case measure => simp [intOf]; omega
                  · rcases h2 : bnd b j with _ | _
                    · have HD := Lib.hid (show down (bndS a b) (k + 1 - 1) = down (bndS a b) (k - 1) by rw [HDN.out, HBS.out, h1, h2]; simp)
                      rw [h1] at HA1
                      rw [h2] at HA2
                      clear h1 h2
                      go_wp2_with fail
                      refine (HA1.out _).mono ?_; rintro e w5 ⟨rfl, rfl⟩
                      go_wp2_with fail
                      refine (HA2.out _).mono ?_; rintro e w6 ⟨rfl, rfl⟩
                      go_wp2_with fail
                      go_roundw
                      case rel => exact ⟨k + 1, by omega, by omega, by go_num, by rw [HD.out], by rw [show k + 1 - 1 = k - 1 + 1 by omega]; exact HTS.out, HBX.out⟩
                      case measure => simp [intOf]; omega
                    · have HD := Lib.hid (show down (bndS a b) (k + 1 - 1) = k by rw [HDN.out, HBS.out, h1, h2]; rfl)
                      rw [h1] at HA1
                      rw [h2] at HA2
                      clear h1 h2
                      go_wp2_with fail
                      refine (HA1.out _).mono ?_; rintro e w5 ⟨rfl, rfl⟩
                      go_wp2_with fail
                      refine (HA2.out _).mono ?_; rintro e w6 ⟨rfl, rfl⟩
                      go_wp2_with fail
                      go_roundw
                      case rel => exact ⟨k + 1, by omega, by omega, by go_num, by rw [HD.out], by rw [show k + 1 - 1 = k - 1 + 1 by omega]; exact HTS.out, HBX.out⟩
                      case measure => simp [intOf]; omega
                · have hee : ((a[i].toNat : Int) == (b[j].toNat : Int)) = false := by
                    rw [beq_eq_false_iff_ne]
                    exact fun e => he (UInt8.toNat_inj.1 (by omega))
                  have HE := Lib.hid (show comS a b = down (bndS a b) (k - 1) by
                    obtain ⟨e1, e2⟩ := HAT.out (by rw [HRA.out]; omega) (by rw [HRB.out]; omega)
                    rw [HK.out, pre_stop (a := a.data.toList.reverse) (b := b.data.toList.reverse) (j := k - 1) (by rw [HRA.out]; omega) (by rw [HRB.out]; omega) HTK.out (by rw [e1, e2]; exact he)]
                    rw [Nat.min_eq_left (by omega)])
                  clear he
                  go_wp2_with fail
                  go_quiet (fail)
                  go_wp2_with fail
                  go_ret2
                  exact ⟨by rw [HE.out] <;> rfl, HBN.out _⟩
              · have h3' : ¬ ((k : Int) ≤ ((N - comP a b : Nat) : Int)) := by omega
                have hd3 := decide_eq_false h3
                have HE := Lib.hid (show comS a b = down (bndS a b) (k - 1) by
                  have := pre_ge (a := a.data.toList.reverse) (b := b.data.toList.reverse) (j := k - 1) (by rw [HRA.out]; omega) (by rw [HRB.out]; omega) HTK.out
                  rw [HK.out, Nat.min_eq_right (by omega)]
                  congr 1
                  omega)
                clear h3
                go_wp2_with fail
                go_quiet (fail)
                go_wp2_with fail
                go_ret2
                exact ⟨by rw [HE.out] <;> rfl, HBN.out _⟩
      · have hd3 := decide_eq_false h3
        have h3' : ¬ ((j : Int) < (N : Int)) := by omega
        have HQ := Lib.hid (show pre a.data.toList b.data.toList = j from pre_end (by rw [HLA.out]; omega) (by rw [HLB.out]; omega) HTK.out (by rw [HLA.out, HLB.out]; have := HN.out; omega))
        have HJN := Lib.hid (show j ≤ N from hj)
        clear htk hbr hgo
        go_wp2_with fail
        go_quiet (fail)
        generalize hwj : World.drewN _ _ = wj
        have HBJ := Lib.hid (show Below w.heap.size w wj by rw [← hwj]; exact HBN.out _)
        clear hwj h3' hd3 h3 HTK HBN HBR
        have HQ2 := Lib.hid (show comP a b = down (bnd2 a b) j by unfold comP; rw [HQ.out])
        have hjq := HJN.out
        clear HQ
        go_wp2_with fail
        go_loopw [8, 9] (fun s8 s9 wr => ∃ (p : Nat), p ≤ j + 1 ∧ s9 = .int .i64 p ∧ s8 = .int .i64 (down (bnd2 a b) (p - 1) : Nat) ∧ Below w.heap.size w wr) (fun _ s9 _ => j + 2 - (intOf s9).toNat)
        case atStart => exact ⟨0, Nat.zero_le _, rfl, rfl, HBJ.out⟩
        case round =>
          obtain ⟨p, hp, rfl, rfl, hbr3⟩ := hrel
          have HB3 := Lib.hid hbr3
          clear hbr3
          have HDN := Lib.hid (show down (bnd2 a b) (p + 1 - 1) = if bnd2 a b p = true then p else down (bnd2 a b) (p - 1) from down_next _ _)
          by_cases hle : p ≤ j
          · have hle' : (p : Int) ≤ (j : Int) := by omega
            have HA1 := Lib.hid (refBoundary_any a p (by omega))
            have HA2 := Lib.hid (refBoundary_any b p (by omega))
            have hwr : IntKind.i64.wrap ((p : Int) + 1) = (p : Int) + 1 := by rw [IntKind.wrap_i64]; omega
            rcases h1 : bnd a p with _ | _
            · have HD := Lib.hid (show down (bnd2 a b) (p + 1 - 1) = down (bnd2 a b) (p - 1) by rw [HDN.out]; unfold bnd2; rw [h1]; simp)
              rw [h1] at HA1
              clear h1
              go_wp2_with fail
              refine (HA1.out _).mono ?_; rintro e w5 ⟨rfl, rfl⟩
              go_wp2_with fail
              go_roundw
              case rel => exact ⟨p + 1, by omega, by go_num, by rw [HD.out], HB3.out⟩
              case measure => simp [intOf]; omega
            · rcases h2 : bnd b p with _ | _
              · have HD := Lib.hid (show down (bnd2 a b) (p + 1 - 1) = down (bnd2 a b) (p - 1) by rw [HDN.out]; unfold bnd2; rw [h1, h2]; simp)
                rw [h1] at HA1
                rw [h2] at HA2
                clear h1 h2
                go_wp2_with fail
                refine (HA1.out _).mono ?_; rintro e w5 ⟨rfl, rfl⟩
                go_wp2_with fail
                refine (HA2.out _).mono ?_; rintro e w6 ⟨rfl, rfl⟩
                go_wp2_with fail
                go_roundw
                case rel => exact ⟨p + 1, by omega, by go_num, by rw [HD.out], HB3.out⟩
                case measure => simp [intOf]; omega
              · have HD := Lib.hid (show down (bnd2 a b) (p + 1 - 1) = p by rw [HDN.out]; unfold bnd2; rw [h1, h2]; rfl)
                rw [h1] at HA1
                rw [h2] at HA2
                clear h1 h2
                go_wp2_with fail
                refine (HA1.out _).mono ?_; rintro e w5 ⟨rfl, rfl⟩
                go_wp2_with fail
                refine (HA2.out _).mono ?_; rintro e w6 ⟨rfl, rfl⟩
                go_wp2_with fail
                go_roundw
                case rel => exact ⟨p + 1, by omega, by go_num, by rw [HD.out], HB3.out⟩
                case measure => simp [intOf]; omega
          · have hle' : ¬ ((p : Int) ≤ (j : Int)) := by omega
            have hpe : down (bnd2 a b) (p - 1) = comP a b := by rw [HQ2.out]; congr 1; omega
            have hPN : comP a b ≤ N := by rw [HQ2.out]; have := down_le (bnd2 a b) j; omega
            rw [hpe]
            clear hpe HDN
            go_wp2_with fail
            go_loopw [10, 11] (fun s10 s11 wr => ∃ (k : Nat), 1 ≤ k ∧ k ≤ N - comP a b + 1 ∧ s11 = .int .i64 k ∧ s10 = .int .i64 (down (bndS a b) (k - 1) : Nat) ∧ a.data.toList.reverse.take (k - 1) = b.data.toList.reverse.take (k - 1) ∧ Below w.heap.size w wr) (fun _ s11 _ => N + 2 - (intOf s11).toNat)
            case atStart => exact ⟨1, Nat.le_refl _, by omega, rfl, rfl, rfl, HB3.out⟩
            case round =>
              obtain ⟨k, hk1, hk2, rfl, rfl, htk, hbr⟩ := hrel
              have HTK := Lib.hid htk
              have HBR := Lib.hid hbr
              have HBN := Lib.hid (fun k => below_drewN hbr k)
              have hk0 : (0 : Int) ≤ (k : Int) := by omega
              have hNP : IntKind.i64.wrap ((N : Int) - (comP a b : Int)) = ((N - comP a b : Nat) : Int) := by rw [IntKind.wrap_i64]; omega
              have HRA := Lib.hid (show a.data.toList.reverse.length = a.size by rw [List.length_reverse]; exact HLA.out)
              have HRB := Lib.hid (show b.data.toList.reverse.length = b.size by rw [List.length_reverse]; exact HLB.out)
              have HK := Lib.hid (show comS a b = down (bndS a b) (min (pre a.data.toList.reverse b.data.toList.reverse) (N - comP a b)) by
                unfold comS comK
                rw [HN.out])
              clear htk hbr
              by_cases h3 : k ≤ N - comP a b
              · have h3' : (k : Int) ≤ ((N - comP a b : Nat) : Int) := by omega
                have hka : k ≤ a.size := by omega
                have hkb : k ≤ b.size := by omega
                have hs1 : (a.size : Int) - (k : Int) = ((a.size - k : Nat) : Int) := by omega
                have hs2 : (b.size : Int) - (k : Int) = ((b.size - k : Nat) : Int) := by omega
                have hv1 : IntKind.i64.wrap ((a.size - k : Nat) : Int) = ((a.size - k : Nat) : Int) := by rw [IntKind.wrap_i64]; omega
                have hv2 : IntKind.i64.wrap ((b.size - k : Nat) : Int) = ((b.size - k : Nat) : Int) := by rw [IntKind.wrap_i64]; omega
                have ia : a.size - k < a.size := by omega
                have ib : b.size - k < b.size := by omega
                have hi1 : (0 : Int) ≤ ((a.size - k : Nat) : Int) := by omega
                have hi2 : ((a.size - k : Nat) : Int) < (a.size : Int) := by omega
                have hi3 : (0 : Int) ≤ ((b.size - k : Nat) : Int) := by omega
                have hi4 : ((b.size - k : Nat) : Int) < (b.size : Int) := by omega
                obtain ⟨i, hi⟩ : ∃ i, i = a.size - k := ⟨_, rfl⟩
                obtain ⟨j, hj⟩ : ∃ j, j = b.size - k := ⟨_, rfl⟩
                rw [← hi] at hs1 hv1 ia hi1 hi2
                rw [← hj] at hs2 hv2 ib hi3 hi4
                have HAT := Lib.hid (show ∀ (g1 : k - 1 < a.data.toList.reverse.length) (g2 : k - 1 < b.data.toList.reverse.length), a.data.toList.reverse[k - 1] = a[i] ∧ b.data.toList.reverse[k - 1] = b[j] from fun g1 g2 => by
                  subst hi
                  subst hj
                  exact ⟨rev_at a (by omega) hka g1, rev_at b (by omega) hkb g2⟩)
                have HI := Lib.hid hi
                have HJ := Lib.hid hj
                clear hi hj
                by_cases he : a[i] = b[j]
                · have hee : ((a[i].toNat : Int) == (b[j].toNat : Int)) = true := by rw [he]; exact beq_self_eq_true _
                  have HTS := Lib.hid (show a.data.toList.reverse.take (k - 1 + 1) = b.data.toList.reverse.take (k - 1 + 1) from
                    take_same (by rw [HRA.out]; omega) (by rw [HRB.out]; omega) HTK.out (by
                      obtain ⟨e1, e2⟩ := HAT.out (by rw [HRA.out]; omega) (by rw [HRB.out]; omega)
                      rw [e1, e2, he]))
                  have HA1 := Lib.hid (refBoundary_any a i (by omega))
                  have HA2 := Lib.hid (refBoundary_any b j (by omega))
                  have HDN := Lib.hid (show down (bndS a b) (k + 1 - 1) = if bndS a b k = true then k else down (bndS a b) (k - 1) from down_next _ _)
                  have HBS := Lib.hid (show bndS a b k = (bnd a i && bnd b j) by unfold bndS; rw [← HI.out, ← HJ.out])
                  have hwr : IntKind.i64.wrap ((k : Int) + 1) = (k : Int) + 1 := by rw [IntKind.wrap_i64]; omega
                  clear he
                  go_wp2_with fail
                  go_quiet (fail)
                  generalize hwx : World.drewN _ _ = wx
                  have HBX := Lib.hid (show Below w.heap.size w wx by rw [← hwx]; exact HBN.out _)
                  clear hwx
                  rcases h1 : bnd a i with _ | _
                  · have HD := Lib.hid (show down (bndS a b) (k + 1 - 1) = down (bndS a b) (k - 1) by rw [HDN.out, HBS.out, h1]; simp)
                    rw [h1] at HA1
                    clear h1
                    go_wp2_with fail
                    refine (HA1.out _).mono ?_; rintro e w5 ⟨rfl, rfl⟩
                    go_wp2_with fail
                    go_roundw
                    case rel => exact ⟨k + 1, by omega, by omega, by go_num, by rw [HD.out], by rw [show k + 1 - 1 = k - 1 + 1 by omega]; exact HTS.out, HBX.out⟩
                    case measure => simp [intOf]; omega
                  · rcases h2 : bnd b j with _ | _
                    · have HD := Lib.hid (show down (bndS a b) (k + 1 - 1) = down (bndS a b) (k - 1) by rw [HDN.out, HBS.out, h1, h2]; simp)
                      rw [h1] at HA1
                      rw [h2] at HA2
                      clear h1 h2
                      go_wp2_with fail
                      refine (HA1.out _).mono ?_; rintro e w5 ⟨rfl, rfl⟩
                      go_wp2_with fail
                      refine (HA2.out _).mono ?_; rintro e w6 ⟨rfl, rfl⟩
                      go_wp2_with fail
                      go_roundw
                      case rel => exact ⟨k + 1, by omega, by omega, by go_num, by rw [HD.out], by rw [show k + 1 - 1 = k - 1 + 1 by omega]; exact HTS.out, HBX.out⟩
                      case measure => simp [intOf]; omega
                    · have HD := Lib.hid (show down (bndS a b) (k + 1 - 1) = k by rw [HDN.out, HBS.out, h1, h2]; rfl)
                      rw [h1] at HA1
                      rw [h2] at HA2
                      clear h1 h2
                      go_wp2_with fail
                      refine (HA1.out _).mono ?_; rintro e w5 ⟨rfl, rfl⟩
                      go_wp2_with fail
                      refine (HA2.out _).mono ?_; rintro e w6 ⟨rfl, rfl⟩
                      go_wp2_with fail
                      go_roundw
                      case rel => exact ⟨k + 1, by omega, by omega, by go_num, by rw [HD.out], by rw [show k + 1 - 1 = k - 1 + 1 by omega]; exact HTS.out, HBX.out⟩
                      case measure => simp [intOf]; omega
                · have hee : ((a[i].toNat : Int) == (b[j].toNat : Int)) = false := by
                    rw [beq_eq_false_iff_ne]
                    exact fun e => he (UInt8.toNat_inj.1 (by omega))
                  have HE := Lib.hid (show comS a b = down (bndS a b) (k - 1) by
                    obtain ⟨e1, e2⟩ := HAT.out (by rw [HRA.out]; omega) (by rw [HRB.out]; omega)
                    rw [HK.out, pre_stop (a := a.data.toList.reverse) (b := b.data.toList.reverse) (j := k - 1) (by rw [HRA.out]; omega) (by rw [HRB.out]; omega) HTK.out (by rw [e1, e2]; exact he)]
                    rw [Nat.min_eq_left (by omega)])
                  clear he
                  go_wp2_with fail
                  go_quiet (fail)
                  go_wp2_with fail
                  go_ret2
                  exact ⟨by rw [HE.out] <;> rfl, HBN.out _⟩
              · have h3' : ¬ ((k : Int) ≤ ((N - comP a b : Nat) : Int)) := by omega
                have hd3 := decide_eq_false h3
                have HE := Lib.hid (show comS a b = down (bndS a b) (k - 1) by
                  have := pre_ge (a := a.data.toList.reverse) (b := b.data.toList.reverse) (j := k - 1) (by rw [HRA.out]; omega) (by rw [HRB.out]; omega) HTK.out
                  rw [HK.out, Nat.min_eq_right (by omega)]
                  congr 1
                  omega)
                clear h3
                go_wp2_with fail
                go_quiet (fail)
                go_wp2_with fail
                go_ret2
                exact ⟨by rw [HE.out] <;> rfl, HBN.out _⟩
end Go.Proofs.YtfbjbgknfdekfaaDoor
