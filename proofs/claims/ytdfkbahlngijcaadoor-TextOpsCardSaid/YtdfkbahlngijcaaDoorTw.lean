/- Text: results: Result of the reference. -/
import Derived.Test.YtdfkbahlngijcaaDoorTv
namespace Go.Proofs.YtdfkbahlngijcaaDoor
open Go.RowKit
set_option linter.unusedVariables false

def wordsAt (t : ByteArray) (V : List Int) (i : Nat) : List (List UInt8) := [[111, 107]] ++ ((V.take i).take 4).map numL ++ (if 4 < i then [quoteL t] else []) ++ ((V.take i).drop 4).map numL
theorem wordsAt_few (t : ByteArray) {V : List Int} {i : Nat} (h : i < V.length) (hi : i < 4) : wordsAt t V (i + 1) = wordsAt t V i ++ [numL V[i]] := by
  unfold wordsAt
  rw [List.take_succ_eq_append_getElem h]
  have hl : (V.take i).length = i := by rw [List.length_take]; omega
  have d1 : (V.take i ++ [V[i]]).drop 4 = [] := List.drop_eq_nil_of_le (by rw [List.length_append, hl]; simp; omega)
  have d2 : (V.take i ++ [V[i]]).take 4 = V.take i ++ [V[i]] := List.take_of_length_le (by rw [List.length_append, hl]; simp; omega)
  have d3 : (V.take i).drop 4 = [] := List.drop_eq_nil_of_le (by omega)
  have d4 : (V.take i).take 4 = V.take i := List.take_of_length_le (by omega)
  rw [if_neg (by omega), if_neg (by omega), d1, d2, d3, d4]
  simp only [List.map_append, List.append_assoc, List.map_cons, List.map_nil, List.append_nil]
theorem wordsAt_four (t : ByteArray) {V : List Int} (h : 4 < V.length) : wordsAt t V 5 = wordsAt t V 4 ++ [quoteL t] ++ [numL V[4]] := by
  unfold wordsAt
  rw [List.take_succ_eq_append_getElem h]
  have hl : (V.take 4).length = 4 := by rw [List.length_take]; omega
  rw [if_pos (by omega), if_neg (by omega), List.take_append_of_le_length (by omega), List.drop_append_of_le_length (by omega), List.drop_eq_nil_of_le (by omega)]
  simp
theorem wordsAt_more (t : ByteArray) {V : List Int} {i : Nat} (h : i < V.length) (hi : 4 < i) : wordsAt t V (i + 1) = wordsAt t V i ++ [numL V[i]] := by
  unfold wordsAt
  rw [List.take_succ_eq_append_getElem h]
  have hl : (V.take i).length = i := by rw [List.length_take]; omega
  rw [if_pos (by omega), if_pos hi, List.take_append_of_le_length (by omega), List.drop_append_of_le_length (by omega)]
  simp
theorem wordsAt_end (t : ByteArray) {V : List Int} (h : V.length = 10) : wordsAt t V 10 = [[111, 107]] ++ (V.take 4).map numL ++ [quoteL t] ++ (V.drop 4).map numL := by
  unfold wordsAt
  rw [if_pos (by omega), List.take_of_length_le (by omega : V.length ≤ 10)]
theorem wordsAt_zero (t : ByteArray) (V : List Int) : wordsAt t V 0 = [[111, 107]] := by unfold wordsAt; simp
theorem wordsAt_ne (t : ByteArray) (V : List Int) (i : Nat) : wordsAt t V i ≠ [] := by unfold wordsAt; simp
theorem wordsAt_len (t : ByteArray) {V : List Int} (i : Nat) (h : V.length = 10) (ht : t.size ≤ 1000000) : (joinW (wordsAt t V i)).length ≤ 30000000 := by
  have hk : ∀ x ∈ wordsAt t V i, x.length ≤ 2000001 := by
    intro x hx
    have hq := quote_len t
    unfold wordsAt at hx
    simp only [List.mem_append, List.mem_map, List.mem_singleton] at hx
    rcases hx with ((rfl | ⟨v, _, rfl⟩) | hx) | ⟨v, _, rfl⟩
    · show 2 ≤ _; omega
    · have := numL_len v; omega
    · by_cases h4 : 4 < i
      · rw [if_pos h4, List.mem_singleton] at hx
        subst hx; omega
      · rw [if_neg h4] at hx; exact absurd hx List.not_mem_nil
    · have := numL_len v; omega
  have hn : (wordsAt t V i).length ≤ 12 := by
    unfold wordsAt
    simp only [List.length_append, List.length_map, List.length_singleton, List.length_take, List.length_drop]
    by_cases h4 : 4 < i
    · rw [if_pos h4]; simp; omega
    · rw [if_neg h4]; simp; omega
  have := joinW_most _ _ hk
  have := Nat.mul_le_mul_right (2000001 + 1) hn
  omega
theorem cat_word {S : ByteArray} {A B : List UInt8} (h : S = ⟨A.toArray⟩) : S ++ ((⟨#[32]⟩ : ByteArray) ++ ⟨B.toArray⟩) = ⟨(A ++ 32 :: B).toArray⟩ := by
  subst h
  apply ByteArray.ext
  rw [ByteArray.data_append, ByteArray.data_append]
  simp
theorem word_snoc {S : ByteArray} {ws : List (List UInt8)} {B : List UInt8} (h : S = ⟨(joinW ws).toArray⟩) (hn : ws ≠ []) : S ++ ((⟨#[32]⟩ : ByteArray) ++ ⟨B.toArray⟩) = ⟨(joinW (ws ++ [B])).toArray⟩ := by
  rw [cat_word h, joinW_snoc ws B hn]
theorem bytes_len {S : ByteArray} {l : List UInt8} (h : S = ⟨l.toArray⟩) : S.size = l.length := by
  subst h
  exact List.size_toArray ..
theorem allOK_split {V : List Int} : (allOK V = true) ↔ (allOK (V.take 4) = true ∧ allOK (V.drop 4) = true) := by
  unfold allOK
  conv => lhs; rw [← List.take_append_drop 4 V]
  rw [List.all_append, Bool.and_eq_true]

set_option maxRecDepth 100000 in
set_option maxHeartbeats 8000000 in
theorem refResult_any (r : Rs) (ao : Option Addr) (n c : Nat) (w : World) (h : IsR fP w ao n r.d) (hn : n ≤ 9223372036854775807) (hsz : r.t.size ≤ 1000000) (hg : 0 ≤ r.gr ∧ r.gr < 256) (hk : 0 ≤ r.ik ∧ r.ik < 256) :
    Calls Tryd.prog 13 #[.agg (rsV r ao n c)] w fun e w' => e = .returned (.tuple #[.string ⟨(resR r).1.toArray⟩, .int .i64 (resR r).2]) ∧ Below w.heap.size w w' := by
  have hl := h.1
  have HR := Lib.hid h
  have HB := Lib.hid ((Below.refl w.heap.size w).alloc (Nat.le_refl _) (.cells (rsV r ao n c) 29))
  have HBX := Lib.hid (block_new w (.cells (rsV r ao n c) 29))
  have HSZ := Lib.hid hsz
  have HWL := Lib.hid (words_len r hsz)
  obtain ⟨e, rev, sl, a, gr, t, mb, mr, ml, ik, fr, tu, d⟩ := r
  simp only at hl hg hk hsz HR HSZ HWL
  simp only [rsV] at HB HBX ⊢
  have hwg : IntKind.i64.wrap gr = gr := by rw [IntKind.wrap_i64]; omega
  have hwk : IntKind.i64.wrap ik = ik := by rw [IntKind.wrap_i64]; omega
  clear h hsz hg hk
  by_cases h0 : e < 0
  · have HRE := Lib.hid (show resR ⟨e, rev, sl, a, gr, t, mb, mr, ml, ik, fr, tu, d⟩ = ([], 2) by
      unfold resR; rw [if_pos (by show e ≠ 0; omega), if_pos (.inl h0)])
    go_enter Tryd.func13, Tryd.ntmps13
    go_wp2_with fail
    go_ret2
    exact ⟨by rw [HRE.out] <;> rfl, HB.out⟩
  · go_enter Tryd.func13, Tryd.ntmps13
    go_upto_region 3 with (fail)
    go_cut [4] from 17 to 71 (fun vz wq => vz = .bool (zeroR ⟨e, rev, sl, a, gr, t, mb, mr, ml, ik, fr, tu, d⟩) ∧ wq = w.alloc (.cells #[.int .i64 e, .int .i64 rev, .int .i64 sl, .int .i64 a, .int .u8 gr, .string t, .int .i64 mb, .int .i64 mr, .int .i64 ml, .int .u8 ik, .int .i64 fr, .int .i64 tu, .slice ao n c] 29))
    case first =>
      by_cases hrev : rev = 0
      · subst hrev
        by_cases hsl : sl = 0
        · subst hsl
          by_cases ha : a = 0
          · subst ha
            by_cases hgr : gr = 0
            · subst hgr
              by_cases ht : t.size = 0
              · have et := str_empty ht
                subst et
                clear ht
                by_cases hmb : mb = 0
                · subst hmb
                  by_cases hmr : mr = 0
                  · subst hmr
                    by_cases hml : ml = 0
                    · subst hml
                      by_cases hik : ik = 0
                      · subst hik
                        by_cases hfr : fr = 0
                        · subst hfr
                          by_cases htu : tu = 0
                          · subst htu
                            by_cases hn : n = 0
                            · obtain rfl := hn
                              have hd : d.length = 0 := hl
                              have HZ := Lib.hid (show zeroR ⟨e, 0, 0, 0, 0, ⟨#[]⟩, 0, 0, 0, 0, 0, 0, d⟩ = true by unfold zeroR; simp only [hd] <;> rfl)
                              go_wp2_with fail
                              go_meet
                              case rel => exact ⟨by rw [HZ.out] <;> rfl, rfl⟩
                            · have hd : d.length ≠ 0 := by omega
                              have HZ := Lib.hid (show zeroR ⟨e, 0, 0, 0, 0, ⟨#[]⟩, 0, 0, 0, 0, 0, 0, d⟩ = false by simp [zeroR, hd])
                              have bn : ((n : Int) == 0) = false := by rw [beq_eq_false_iff_ne]; omega
                              clear hn
                              go_wp2_with fail
                              go_meet
                              case rel => exact ⟨by rw [HZ.out] <;> rfl, rfl⟩
                          · have HZ := Lib.hid (show zeroR ⟨e, 0, 0, 0, 0, ⟨#[]⟩, 0, 0, 0, 0, 0, tu, d⟩ = false by simp [zeroR, htu])
                            have btu : (tu == 0) = false := by rw [beq_eq_false_iff_ne]; exact htu
                            clear htu
                            go_wp2_with fail
                            go_meet
                            case rel => exact ⟨by rw [HZ.out] <;> rfl, rfl⟩
                        · have HZ := Lib.hid (show zeroR ⟨e, 0, 0, 0, 0, ⟨#[]⟩, 0, 0, 0, 0, fr, tu, d⟩ = false by simp [zeroR, hfr])
                          have bfr : (fr == 0) = false := by rw [beq_eq_false_iff_ne]; exact hfr
                          clear hfr
                          go_wp2_with fail
                          go_meet
                          case rel => exact ⟨by rw [HZ.out] <;> rfl, rfl⟩
                      · have HZ := Lib.hid (show zeroR ⟨e, 0, 0, 0, 0, ⟨#[]⟩, 0, 0, 0, ik, fr, tu, d⟩ = false by simp [zeroR, hik])
                        have bik : (ik == 0) = false := by rw [beq_eq_false_iff_ne]; exact hik
                        clear hik
                        go_wp2_with fail
                        go_meet
                        case rel => exact ⟨by rw [HZ.out] <;> rfl, rfl⟩
                    · have HZ := Lib.hid (show zeroR ⟨e, 0, 0, 0, 0, ⟨#[]⟩, 0, 0, ml, ik, fr, tu, d⟩ = false by simp [zeroR, hml])
                      have bml : (ml == 0) = false := by rw [beq_eq_false_iff_ne]; exact hml
                      clear hml
                      go_wp2_with fail
                      go_meet
                      case rel => exact ⟨by rw [HZ.out] <;> rfl, rfl⟩
                  · have HZ := Lib.hid (show zeroR ⟨e, 0, 0, 0, 0, ⟨#[]⟩, 0, mr, ml, ik, fr, tu, d⟩ = false by simp [zeroR, hmr])
                    have bmr : (mr == 0) = false := by rw [beq_eq_false_iff_ne]; exact hmr
                    clear hmr
                    go_wp2_with fail
                    go_meet
                    case rel => exact ⟨by rw [HZ.out] <;> rfl, rfl⟩
                · have HZ := Lib.hid (show zeroR ⟨e, 0, 0, 0, 0, ⟨#[]⟩, mb, mr, ml, ik, fr, tu, d⟩ = false by simp [zeroR, hmb])
                  have bmb : (mb == 0) = false := by rw [beq_eq_false_iff_ne]; exact hmb
                  clear hmb
                  go_wp2_with fail
                  go_meet
                  case rel => exact ⟨by rw [HZ.out] <;> rfl, rfl⟩
              · have HZ := Lib.hid (show zeroR ⟨e, 0, 0, 0, 0, t, mb, mr, ml, ik, fr, tu, d⟩ = false by simp [zeroR, ht])
                have bt := str_some ht
                clear ht
                go_wp2_with fail
                go_meet
                case rel => exact ⟨by rw [HZ.out] <;> rfl, rfl⟩
            · have HZ := Lib.hid (show zeroR ⟨e, 0, 0, 0, gr, t, mb, mr, ml, ik, fr, tu, d⟩ = false by simp [zeroR, hgr])
              have bgr : (gr == 0) = false := by rw [beq_eq_false_iff_ne]; exact hgr
              clear hgr
              go_wp2_with fail
              go_meet
              case rel => exact ⟨by rw [HZ.out] <;> rfl, rfl⟩
          · have HZ := Lib.hid (show zeroR ⟨e, 0, 0, a, gr, t, mb, mr, ml, ik, fr, tu, d⟩ = false by simp [zeroR, ha])
            have ba : (a == 0) = false := by rw [beq_eq_false_iff_ne]; exact ha
            clear ha
            go_wp2_with fail
            go_meet
            case rel => exact ⟨by rw [HZ.out] <;> rfl, rfl⟩
        · have HZ := Lib.hid (show zeroR ⟨e, 0, sl, a, gr, t, mb, mr, ml, ik, fr, tu, d⟩ = false by simp [zeroR, hsl])
          have bsl : (sl == 0) = false := by rw [beq_eq_false_iff_ne]; exact hsl
          clear hsl
          go_wp2_with fail
          go_meet
          case rel => exact ⟨by rw [HZ.out] <;> rfl, rfl⟩
      · have HZ := Lib.hid (show zeroR ⟨e, rev, sl, a, gr, t, mb, mr, ml, ik, fr, tu, d⟩ = false by simp [zeroR, hrev])
        have brev : (rev == 0) = false := by rw [beq_eq_false_iff_ne]; exact hrev
        clear hrev
        go_wp2_with fail
        go_meet
        case rel => exact ⟨by rw [HZ.out] <;> rfl, rfl⟩
    case rest =>
      obtain ⟨rfl, rfl⟩ := hcut
      by_cases he : e = 0
      · subst he
        have HRE := Lib.hid (show resR ⟨0, rev, sl, a, gr, t, mb, mr, ml, ik, fr, tu, d⟩ = if allOK (nums1 ⟨0, rev, sl, a, gr, t, mb, mr, ml, ik, fr, tu, d⟩) = true ∧ allOK (nums2 ⟨0, rev, sl, a, gr, t, mb, mr, ml, ik, fr, tu, d⟩) = true ∧ checkP d = 0 then (joinW (wordsR ⟨0, rev, sl, a, gr, t, mb, mr, ml, ik, fr, tu, d⟩), 0) else ([], 2) by
          unfold resR
          rw [if_neg (fun k => k rfl)])
        obtain ⟨V, hV⟩ : ∃ V : List Int, V = [rev, sl, a, gr, mb, mr, ml, ik, fr, tu] := ⟨_, rfl⟩
        have HV1 := Lib.hid (show nums1 ⟨0, rev, sl, a, gr, t, mb, mr, ml, ik, fr, tu, d⟩ = V.take 4 by rw [hV]; rfl)
        have HV2 := Lib.hid (show nums2 ⟨0, rev, sl, a, gr, t, mb, mr, ml, ik, fr, tu, d⟩ = V.drop 4 by rw [hV]; rfl)
        have HWR := Lib.hid (show wordsR ⟨0, rev, sl, a, gr, t, mb, mr, ml, ik, fr, tu, d⟩ = [[111, 107]] ++ (nums1 ⟨0, rev, sl, a, gr, t, mb, mr, ml, ik, fr, tu, d⟩).map numL ++ [quoteL t] ++ (nums2 ⟨0, rev, sl, a, gr, t, mb, mr, ml, ik, fr, tu, d⟩).map numL ++ (if textL d = [] then [] else [textL d]) from rfl)
        have HVL := Lib.hid (show V.length = 10 by rw [hV]; rfl)
        have HVC := Lib.hid (show (#[.int .i64 rev, .int .i64 sl, .int .i64 a, .int .i64 gr, .int .i64 mb, .int .i64 mr, .int .i64 ml, .int .i64 ik, .int .i64 fr, .int .i64 tu] : Array Value) = (V.map (Value.int .i64)).toArray by rw [hV]; rfl)
        rw [HV1.out, HV2.out] at HRE HWR
        clear hV
        go_upto_region 13 with (fail)
        rw [HVC.out]
        have HB1 := Lib.hid (HB.out.alloc (by simp) (.cells (V.map (Value.int .i64)).toArray 69))
        have HBX1 := Lib.hid (block_alloc HBX.out (.cells (V.map (Value.int .i64)).toArray 69))
        have HAR1 := Lib.hid (block_new' (w.alloc (.cells #[.int .i64 0, .int .i64 rev, .int .i64 sl, .int .i64 a, .int .u8 gr, .string t, .int .i64 mb, .int .i64 mr, .int .i64 ml, .int .u8 ik, .int .i64 fr, .int .i64 tu, .slice ao n c] 29)) (.cells (V.map (Value.int .i64)).toArray 69) (w.heap.size + 1) (by simp))
        go_wp2_with fail
        go_loopw [7, 9] (fun s7 s9 wr => ∃ (i : Nat) (S : ByteArray), i ≤ 10 ∧ s9 = .int .i64 i ∧ s7 = .string S ∧ S = ⟨(joinW (wordsAt t V i)).toArray⟩ ∧ allOK (V.take i) = true ∧ wr.heap[w.heap.size]? = some (.cells #[.int .i64 0, .int .i64 rev, .int .i64 sl, .int .i64 a, .int .u8 gr, .string t, .int .i64 mb, .int .i64 mr, .int .i64 ml, .int .u8 ik, .int .i64 fr, .int .i64 tu, .slice ao n c] 29 (0, 0)) ∧ wr.heap[w.heap.size + 1]? = some (.cells (V.map (Value.int .i64)).toArray 69 (0, 0)) ∧ Below w.heap.size w wr) (fun _ s9 _ => 10 - (intOf s9).toNat)
        case atStart => exact ⟨0, _, by omega, rfl, rfl, by rw [wordsAt_zero] <;> rfl, rfl, HBX1.out, HAR1.out, HB1.out⟩
        case round =>
          obtain ⟨i, S, hi, rfl, rfl, hS, hok, hbx, har, hbr⟩ := hrel
          have HBR := Lib.hid hbr
          have HBXR := Lib.hid hbx
          have HARR := Lib.hid har
          have HOK := Lib.hid hok
          have hSL : S.size ≤ 30000000 := by
            rw [hS]
            show (joinW _).toArray.size ≤ _
            rw [List.size_toArray]
            exact wordsAt_len t i HVL.out HSZ.out
          have HS := Lib.hid hS
          clear hS hbr hok HB1 HBX1 HAR1
          by_cases hlt : i < 10
          · have hlt1 : (i : Int) < 10 := by omega
            have hii0 : (0 : Int) ≤ (i : Int) := by omega
            have hvl : i < V.length := by rw [HVL.out]; exact hlt
            have HCA := Lib.hid (fun (u : World) (h : u.heap[w.heap.size + 1]? = some (.cells (V.map (Value.int .i64)).toArray 69 (0, 0))) => int_cell h hvl)
            have ca := int_cell har hvl
            have HX1 := Lib.hid (show allOK (V.take (i + 1)) = (allOK (V.take i) && decide (numOK V[i])) from allOK_at hvl)
            have HX2 := Lib.hid (fun hn : ¬ numOK V[i] => allOK_no hvl hn)
            have HX3 := Lib.hid (fun h4 : i < 4 => wordsAt_few t hvl h4)
            have HX4 := Lib.hid (fun h4 : 4 < i => wordsAt_more t hvl h4)
            have HX5 := Lib.hid (show ∀ h4 : i = 4, wordsAt t V (i + 1) = wordsAt t V i ++ [quoteL t] ++ [numL V[i]] from fun h4 => by subst h4; exact wordsAt_four t hvl)
            generalize V[i] = x at *
            have q5 := block_cell hbx 5
            simp at q5
            clear hbx har hvl
            have HNX := Lib.hid (fun u => refNumber_any x u)
            by_cases h4 : i = 4
            · have h4' : ((i : Int) == 4) = true := by rw [beq_iff_eq]; omega
              have HQ := Lib.hid (refString_any t wr (by have := HSZ.out; omega))
              have hcat : ¬ (9223372036854775807 < (⟨#[32]⟩ : ByteArray).size + (⟨(quoteL t).toArray⟩ : ByteArray).size) := by
                show ¬ (9223372036854775807 < 1 + (quoteL t).toArray.size)
                rw [List.size_toArray, quote_len]
                have := HSZ.out
                omega
              have HX6 := Lib.hid (HX5.out h4)
              clear h4
              go_wp2_with fail
              refine (HQ.out).mono ?_; rintro e2 w2 ⟨rfl, hb2⟩
              have HB2 := Lib.hid (below_two HBR.out hb2)
              have hbx2 := block_below hb2 HBXR.out (block_lt HBXR.out)
              have har2 := block_below hb2 HARR.out (block_lt HARR.out)
              have HBX2 := Lib.hid hbx2
              have HAR2 := Lib.hid har2
              clear hb2 hbx2 har2 HQ q5
              have ca2 := HCA.out w2 HAR2.out
              have hcat2 : ¬ (9223372036854775807 < S.size + (1 + (quoteL t).length)) := by
                rw [quote_len]
                have := HSZ.out
                omega
              have HS2 := Lib.hid (word_snoc (B := quoteL t) HS.out (wordsAt_ne t V i))
              generalize hS2 : S ++ ((⟨#[32]⟩ : ByteArray) ++ ⟨(quoteL t).toArray⟩) = S2 at HS2
              have HSE := Lib.hid hS2
              have hS2L : S2.size ≤ 33000000 := by
                rw [← hS2, ByteArray.size_append, ByteArray.size_append]
                show S.size + (1 + (quoteL t).toArray.size) ≤ _
                rw [List.size_toArray, quote_len]
                have := HSZ.out
                omega
              clear hS2 ca
              go_upto_region 18 with (fail)
              rw [HSE.out]
              by_cases hx : numOK x
              · have hxd : decide (numOK x) = true := decide_eq_true hx
                have hlx := numL_len x
                have HOK2 := Lib.hid (show allOK (V.take (i + 1)) = true by rw [HX1.out, HOK.out, hxd]; rfl)
                have hcn1 : ¬ (9223372036854775807 < (⟨#[32]⟩ : ByteArray).size + (⟨(numL x).toArray⟩ : ByteArray).size) := by
                  show ¬ (9223372036854775807 < 1 + (numL x).toArray.size)
                  rw [List.size_toArray]
                  omega
                have hcn2 : ¬ (9223372036854775807 < S2.size + (1 + (numL x).length)) := by omega
                have HS3 := Lib.hid (word_snoc (B := numL x) HS2.out (by simp))
                rw [hxd] at HNX
                clear hx hxd
                go_wp2_with fail
                refine (HNX.out _).mono ?_; rintro e3 w3 ⟨rfl, hb3⟩
                have HB3 := Lib.hid (below_two HB2.out hb3)
                have HBX3 := Lib.hid (block_below hb3 HBX2.out (block_lt HBX2.out))
                have HAR3 := Lib.hid (block_below hb3 HAR2.out (block_lt HAR2.out))
                clear hb3 HNX
                go_wp2_with fail
                go_roundw
                case rel => exact ⟨i + 1, _, by omega, by go_num, rfl, by rw [HS3.out, HX6.out], HOK2.out, HBX3.out, HAR3.out, HB3.out⟩
                case measure => simp [intOf]; omega
              · have hxd : decide (numOK x) = false := decide_eq_false hx
                have HRF := Lib.hid (show resR ⟨0, rev, sl, a, gr, t, mb, mr, ml, ik, fr, tu, d⟩ = ([], 2) by
                  rw [HRE.out, if_neg (fun k => by
                    have := allOK_split.2 ⟨k.1, k.2.1⟩
                    rw [HX2.out hx] at this
                    cases this)])
                rw [hxd] at HNX
                clear hx hxd
                go_wp2_with fail
                refine (HNX.out _).mono ?_; rintro e3 w3 ⟨rfl, hb3⟩
                have HB3 := Lib.hid (below_two HB2.out hb3)
                clear hb3 HNX
                go_wp2_with fail
                go_ret2
                exact ⟨by rw [HRF.out] <;> rfl, HB3.out⟩
            · have h4' : ((i : Int) == 4) = false := by rw [beq_eq_false_iff_ne]; omega
              have HX6 := Lib.hid (show wordsAt t V (i + 1) = wordsAt t V i ++ [numL x] by
                rcases Nat.lt_or_ge i 4 with h | h
                · exact HX3.out h
                · exact HX4.out (by omega))
              clear h4 q5
              by_cases hx : numOK x
              · have hxd : decide (numOK x) = true := decide_eq_true hx
                have hlx := numL_len x
                have HOK2 := Lib.hid (show allOK (V.take (i + 1)) = true by rw [HX1.out, HOK.out, hxd]; rfl)
                have hcn1 : ¬ (9223372036854775807 < (⟨#[32]⟩ : ByteArray).size + (⟨(numL x).toArray⟩ : ByteArray).size) := by
                  show ¬ (9223372036854775807 < 1 + (numL x).toArray.size)
                  rw [List.size_toArray]
                  omega
                have hcn2 : ¬ (9223372036854775807 < S.size + (1 + (numL x).length)) := by omega
                have HS3 := Lib.hid (word_snoc (B := numL x) HS.out (wordsAt_ne t V i))
                rw [hxd] at HNX
                clear hx hxd
                go_wp2_with fail
                refine (HNX.out _).mono ?_; rintro e3 w3 ⟨rfl, hb3⟩
                have HB3 := Lib.hid (below_two HBR.out hb3)
                have HBX3 := Lib.hid (block_below hb3 HBXR.out (block_lt HBXR.out))
                have HAR3 := Lib.hid (block_below hb3 HARR.out (block_lt HARR.out))
                clear hb3 HNX
                go_wp2_with fail
                go_roundw
                case rel => exact ⟨i + 1, _, by omega, by go_num, rfl, by rw [HS3.out, HX6.out], HOK2.out, HBX3.out, HAR3.out, HB3.out⟩
                case measure => simp [intOf]; omega
              · have hxd : decide (numOK x) = false := decide_eq_false hx
                have HRF := Lib.hid (show resR ⟨0, rev, sl, a, gr, t, mb, mr, ml, ik, fr, tu, d⟩ = ([], 2) by
                  rw [HRE.out, if_neg (fun k => by
                    have := allOK_split.2 ⟨k.1, k.2.1⟩
                    rw [HX2.out hx] at this
                    cases this)])
                rw [hxd] at HNX
                clear hx hxd
                go_wp2_with fail
                refine (HNX.out _).mono ?_; rintro e3 w3 ⟨rfl, hb3⟩
                have HB3 := Lib.hid (below_two HBR.out hb3)
                clear hb3 HNX
                go_wp2_with fail
                go_ret2
                exact ⟨by rw [HRF.out] <;> rfl, HB3.out⟩
          · have h10 : i = 10 := by omega
            have hlt1 : ¬ ((i : Int) < 10) := by omega
            have HALL := Lib.hid (show allOK (V.take 4) = true ∧ allOK (V.drop 4) = true from allOK_split.1 (by
              have := HOK.out
              rw [h10, List.take_of_length_le (by rw [HVL.out]; omega)] at this
              exact this))
            have HWE := Lib.hid (show wordsAt t V i = [[111, 107]] ++ (V.take 4).map numL ++ [quoteL t] ++ (V.drop 4).map numL by rw [h10]; exact wordsAt_end t HVL.out)
            have HTC := Lib.hid (refText_any ao n c d wr (HR.out.later HBR.out) hn)
            have q12 := block_cell hbx 12
            simp at q12
            clear hbx har h10 hlt
            go_wp2_with fail
            refine (HTC.out).mono ?_; rintro e2 w2 ⟨rfl, hb2⟩
            have HB2 := Lib.hid (below_two HBR.out hb2)
            clear hb2 HTC q12
            by_cases hc : checkP d = 0
            · have HR2 := Lib.hid (show resR ⟨0, rev, sl, a, gr, t, mb, mr, ml, ik, fr, tu, d⟩ = (joinW (wordsR ⟨0, rev, sl, a, gr, t, mb, mr, ml, ik, fr, tu, d⟩), 0) by rw [HRE.out, if_pos ⟨HALL.out.1, HALL.out.2, hc⟩])
              have HTX := Lib.hid (show txtP d = textL d from if_pos hc)
              have HSH := Lib.hid (show (textL d).length ≤ 3000000 by
                have := text_short hc d.length
                rw [List.take_length] at this
                exact this)
              rw [HTX.out, hc]
              clear hc
              by_cases hd : textL d = []
              · have HE := Lib.hid (show wordsR ⟨0, rev, sl, a, gr, t, mb, mr, ml, ik, fr, tu, d⟩ = wordsAt t V i by rw [HWR.out, if_pos hd, List.append_nil, HWE.out])
                rw [hd]
                clear hd
                go_wp2_with fail
                go_ret2
                exact ⟨by rw [HR2.out, HE.out, HS.out] <;> rfl, HB2.out⟩
              · have HE := Lib.hid (show wordsR ⟨0, rev, sl, a, gr, t, mb, mr, ml, ik, fr, tu, d⟩ = wordsAt t V i ++ [textL d] by rw [HWR.out, if_neg hd, HWE.out])
                obtain ⟨tx, htx⟩ : ∃ tx : ByteArray, tx = ⟨(textL d).toArray⟩ := ⟨_, rfl⟩
                have htl : tx.size ≤ 3000000 := by
                  have := bytes_len htx
                  have := HSH.out
                  omega
                have hne : tx.toList.isEmpty = false := str_some (by
                  rw [htx]
                  show (textL d).toArray.size ≠ 0
                  rw [List.size_toArray]
                  exact fun k => hd (List.eq_nil_of_length_eq_zero k))
                have HS3 := Lib.hid (word_snoc (B := textL d) HS.out (wordsAt_ne t V i))
                rw [← htx] at HS3 ⊢
                have hcn1 : ¬ (9223372036854775807 < 1 + tx.size) := by omega
                have hcn2 : ¬ (9223372036854775807 < S.size + (1 + tx.size)) := by omega
                clear hd htx
                go_wp2_with fail
                go_ret2
                exact ⟨by rw [HR2.out, HE.out, HS3.out] <;> rfl, HB2.out⟩
            · have HR2 := Lib.hid (show resR ⟨0, rev, sl, a, gr, t, mb, mr, ml, ik, fr, tu, d⟩ = ([], 2) by rw [HRE.out, if_neg (fun k => hc k.2.2)])
              have hc2 : (checkP d == 0) = false := by rw [beq_eq_false_iff_ne]; exact hc
              clear hc
              go_wp2_with fail
              go_ret2
              exact ⟨by rw [HR2.out] <;> rfl, HB2.out⟩
      · have he2 : (e == 0) = false := by rw [beq_eq_false_iff_ne]; exact he
        have he3 : (e != 0) = true := by rw [bne_iff_ne]; exact he
        rcases hz : zeroR ⟨e, rev, sl, a, gr, t, mb, mr, ml, ik, fr, tu, d⟩ with _ | _
        · have HRE := Lib.hid (show resR ⟨e, rev, sl, a, gr, t, mb, mr, ml, ik, fr, tu, d⟩ = ([], 2) by
            unfold resR; rw [if_pos he, if_pos (.inr (.inl hz))])
          clear hz
          go_wp2_with fail
          go_ret2
          exact ⟨by rw [HRE.out] <;> rfl, HB.out⟩
        · by_cases h1 : 9999999999 < e
          · have HRE := Lib.hid (show resR ⟨e, rev, sl, a, gr, t, mb, mr, ml, ik, fr, tu, d⟩ = ([], 2) by
              unfold resR; rw [if_pos he, if_pos (.inr (.inr h1))])
            have HNX := Lib.hid (fun u => refNumber_any e u)
            have hxd : decide (numOK e) = false := decide_eq_false (fun k => by have := k.2; omega)
            rw [hxd] at HNX
            clear hz hxd
            go_wp2_with fail
            refine (HNX.out _).mono ?_; rintro e2 w2 ⟨rfl, hb2⟩
            have HB2 := Lib.hid (below_two HB.out hb2)
            clear hb2
            go_wp2_with fail
            go_ret2
            exact ⟨by rw [HRE.out] <;> rfl, HB2.out⟩
          · have HRE := Lib.hid (show resR ⟨e, rev, sl, a, gr, t, mb, mr, ml, ik, fr, tu, d⟩ = ([101, 114, 114, 111, 114, 32] ++ numL e, 0) by
              unfold resR
              rw [if_pos he, if_neg (by rintro (k | k | k); exact h0 k; rw [hz] at k; cases k; exact h1 k)]
              unfold numL
              rw [if_pos (show numOK e from ⟨by omega, by omega⟩)])
            have HNX := Lib.hid (fun u => refNumber_any e u)
            have hxd : decide (numOK e) = true := decide_eq_true ⟨by omega, by omega⟩
            have hlx := numL_len e
            have hcat : ¬ (9223372036854775807 < (⟨#[101, 114, 114, 111, 114, 32]⟩ : ByteArray).size + (⟨(numL e).toArray⟩ : ByteArray).size) := by
              show ¬ (9223372036854775807 < 6 + (numL e).toArray.size)
              rw [List.size_toArray]
              omega
            rw [hxd] at HNX
            clear hz hxd
            go_wp2_with fail
            refine (HNX.out _).mono ?_; rintro e2 w2 ⟨rfl, hb2⟩
            have HB2 := Lib.hid (below_two HB.out hb2)
            clear hb2
            go_wp2_with fail
            go_ret2
            exact ⟨by rw [HRE.out] <;> rfl, HB2.out⟩

end Go.Proofs.YtdfkbahlngijcaaDoor
