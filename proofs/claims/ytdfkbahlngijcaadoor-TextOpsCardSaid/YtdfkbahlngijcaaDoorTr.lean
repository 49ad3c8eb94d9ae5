/- Text: results: plain law: different results have different lines. -/
import Derived.Test.YtdfkbahlngijcaaDoorTe
namespace Go.Proofs.YtdfkbahlngijcaaDoor
set_option linter.unusedVariables false

theorem decDigits_inj : ∀ m n : Nat, Lib.decDigits m = Lib.decDigits n → m = n := by
  intro m
  induction m using Nat.strongRecOn with
  | ind m ih =>
    intro n h
    have hm := digC_nat m
    have hn := digC_nat n
    by_cases h1 : m < 10
    · by_cases h2 : n < 10
      · rw [decDigits_small h1, decDigits_small h2] at h
        have e : digC m = digC n := by injection h
        rw [e] at hm
        omega
      · rw [decDigits_small h1, decDigits_step h2] at h
        have := congrArg List.length h
        rw [List.length_append] at this
        have h3 := List.length_pos_iff.2 (decDigits_ne (n / 10))
        simp at this
        exact absurd this (decDigits_ne (n / 10))
    · by_cases h2 : n < 10
      · rw [decDigits_step h1, decDigits_small h2] at h
        have := congrArg List.length h
        rw [List.length_append] at this
        simp at this
        exact absurd this (decDigits_ne (m / 10))
      · rw [decDigits_step h1, decDigits_step h2] at h
        obtain ⟨g1, g2⟩ := List.append_inj' h rfl
        have e : digC m = digC n := by injection g2
        rw [e] at hm
        have := ih (m / 10) (by omega) (n / 10) g1
        omega
theorem numL_inj {a b : Int} (ha : numOK a) (hb : numOK b) (h : numL a = numL b) : a = b := by
  unfold numL at h
  rw [if_pos ha, if_pos hb] at h
  have := decDigits_inj _ _ h
  have h1 := ha.1
  have h2 := hb.1
  omega
theorem hexL_inj {a b : List UInt8} (h : hexL a = hexL b) : a = b := by
  have h1 := hexP_hexL a
  rw [h, hexP_hexL b] at h1
  exact (Option.some.inj h1).symm
theorem quoteL_inj {a b : ByteArray} (h : quoteL a = quoteL b) : a = b := by
  unfold quoteL at h
  have h1 : hexL a.data.toList = hexL b.data.toList := by injection h
  have h2 := hexL_inj h1
  obtain ⟨x⟩ := a
  obtain ⟨y⟩ := b
  have : x = y := Array.toList_inj.1 h2
  rw [this]
theorem numL_no32 (v : Int) : ∀ c ∈ numL v, c ≠ 32 := by
  intro c hc
  unfold numL at hc
  by_cases h : numOK v
  · rw [if_pos h] at hc
    exact dec_no32 _ c hc
  · rw [if_neg h] at hc
    exact absurd hc List.not_mem_nil
theorem quote_no32 (t : ByteArray) : ∀ c ∈ quoteL t, c ≠ 32 := by
  intro c hc
  unfold quoteL at hc
  rcases List.mem_cons.1 hc with rfl | hc
  · decide
  · exact hexL_no32 _ c hc
def wordsAll (r : Rs) : List (List UInt8) := [111, 107] :: numL r.rev :: numL r.sl :: numL r.a :: numL r.gr :: quoteL r.t :: numL r.mb :: numL r.mr :: numL r.ml :: numL r.ik :: numL r.fr :: numL r.tu :: r.d.map pcT
theorem joinW_app : ∀ (A B : List (List UInt8)), A ≠ [] → B ≠ [] → joinW (A ++ B) = joinW A ++ 32 :: joinW B
  | [], _, h, _ => absurd rfl h
  | [w], B, _, hB => by
    rcases B with _ | ⟨v, ws⟩
    · exact absurd rfl hB
    · rfl
  | w :: v :: A, B, _, hB => by
    have ih := joinW_app (v :: A) B (by simp) hB
    show w ++ 32 :: joinW ((v :: A) ++ B) = (w ++ 32 :: joinW (v :: A)) ++ 32 :: joinW B
    rw [ih]
    simp
theorem words_all (r : Rs) : joinW (wordsR r) = joinW (wordsAll r) := by
  obtain ⟨A, hA, h0⟩ : ∃ A : List (List UInt8), A = [[111, 107]] ++ (nums1 r).map numL ++ [quoteL r.t] ++ (nums2 r).map numL ∧ A ≠ [] := ⟨_, rfl, by simp⟩
  have h1 : wordsAll r = A ++ r.d.map pcT := by rw [hA]; rfl
  have h2 : wordsR r = A ++ (if textL r.d = [] then [] else [textL r.d]) := by rw [hA]; rfl
  rw [h1, h2]
  by_cases hd : r.d = []
  · rw [hd]; rfl
  · rw [if_neg (textL_ne hd), joinW_app A _ h0 (by simp), joinW_app A _ h0 (by simpa using hd)]
    rfl
theorem words_no32 (r : Rs) : ∀ w ∈ wordsAll r, ∀ c ∈ w, c ≠ 32 := by
  intro w hw c hc
  unfold wordsAll at hw
  simp only [List.mem_cons] at hw
  rcases hw with rfl | rfl | rfl | rfl | rfl | rfl | rfl | rfl | rfl | rfl | rfl | rfl | hw
  · simp at hc; rcases hc with rfl | rfl <;> decide
  · exact numL_no32 _ c hc
  · exact numL_no32 _ c hc
  · exact numL_no32 _ c hc
  · exact numL_no32 _ c hc
  · exact quote_no32 _ c hc
  · exact numL_no32 _ c hc
  · exact numL_no32 _ c hc
  · exact numL_no32 _ c hc
  · exact numL_no32 _ c hc
  · exact numL_no32 _ c hc
  · exact numL_no32 _ c hc
  · obtain ⟨p, _, rfl⟩ := List.mem_map.1 hw
    exact pcT_no32 p c hc
theorem pcs_inj {a b : List Pc} (ha : checkP a = 0) (hb : checkP b = 0) (h : a.map pcT = b.map pcT) : a = b := by
  obtain ⟨h1, h2, h3, h4⟩ := check_inv ha
  obtain ⟨k1, k2, k3, k4⟩ := check_inv hb
  have e1 := allP_map a fun p hp => ⟨h2 p hp, by have := inn_le h2 hp; omega⟩
  have e2 := allP_map b fun p hp => ⟨k2 p hp, by have := inn_le k2 hp; omega⟩
  rw [h, e2] at e1
  exact (Option.some.inj e1).symm
theorem zero_all {r : Rs} (h : zeroR r = true) : r = ⟨r.e, 0, 0, 0, 0, ⟨#[]⟩, 0, 0, 0, 0, 0, 0, []⟩ := by
  obtain ⟨e, rev, sl, a, gr, t, mb, mr, ml, ik, fr, tu, d⟩ := r
  simp only [zeroR, Bool.and_eq_true, beq_iff_eq, decide_eq_true_eq] at h
  obtain ⟨⟨⟨⟨⟨⟨⟨⟨⟨⟨⟨h1, h2⟩, h3⟩, h4⟩, h5⟩, h6⟩, h7⟩, h8⟩, h9⟩, h10⟩, h11⟩, h12⟩ := h
  simp only
  rw [h1, h2, h3, h4, str_empty h5, h6, h7, h8, h9, h10, h11, List.eq_nil_of_length_eq_zero h12]
/-- what a result must be to have a line -/
theorem res_ok {r : Rs} {s : List UInt8} (h : resR r = (s, 0)) :
    (0 < r.e ∧ r.e ≤ 9999999999 ∧ zeroR r = true ∧ s = [101, 114, 114, 111, 114, 32] ++ Lib.decDigits r.e.toNat) ∨
    (r.e = 0 ∧ allOK (nums1 r) = true ∧ allOK (nums2 r) = true ∧ checkP r.d = 0 ∧ s = joinW (wordsR r)) := by
  unfold resR at h
  by_cases h0 : r.e ≠ 0
  · rw [if_pos h0] at h
    by_cases h1 : r.e < 0 ∨ zeroR r = false ∨ 9999999999 < r.e
    · rw [if_pos h1] at h
      simp at h
    · rw [if_neg h1] at h
      have h2 : ¬ r.e < 0 := fun k => h1 (.inl k)
      have h3 : zeroR r = true := by
        rcases hz : zeroR r with _ | _
        · exact absurd (.inr (.inl hz)) h1
        · rfl
      have h4 : ¬ 9999999999 < r.e := fun k => h1 (.inr (.inr k))
      exact .inl ⟨by omega, by omega, h3, (Prod.mk.inj h).1.symm⟩
  · rw [if_neg h0] at h
    by_cases h1 : allOK (nums1 r) = true ∧ allOK (nums2 r) = true ∧ checkP r.d = 0
    · rw [if_pos h1] at h
      exact .inr ⟨by omega, h1.1, h1.2.1, h1.2.2, (Prod.mk.inj h).1.symm⟩
    · rw [if_neg h1] at h
      simp at h
theorem words_head (r : Rs) : ∃ l, joinW (wordsR r) = 111 :: l := by
  rw [words_all]
  unfold wordsAll
  exact ⟨_, rfl⟩
theorem res_ne {r : Rs} {s : List UInt8} (h : resR r = (s, 0)) : s ≠ [] := by
  rcases res_ok h with ⟨_, _, _, rfl⟩ | ⟨_, _, _, _, rfl⟩
  · simp
  · obtain ⟨l, e⟩ := words_head r
    rw [e]; simp
theorem res_inj {a b : Rs} {s : List UInt8} (ha : resR a = (s, 0)) (hb : resR b = (s, 0)) : a = b := by
  rcases res_ok ha with ⟨a1, a2, a3, a4⟩ | ⟨a1, a2, a3, a4, a5⟩
  · rcases res_ok hb with ⟨b1, b2, b3, b4⟩ | ⟨b1, b2, b3, b4, b5⟩
    · have e : a.e = b.e := by
        rw [a4] at b4
        have := decDigits_inj _ _ (List.append_cancel_left b4)
        omega
      rw [zero_all a3, zero_all b3, e]
    · obtain ⟨l, e⟩ := words_head b
      rw [a4, e] at b5
      simp at b5
  · rcases res_ok hb with ⟨b1, b2, b3, b4⟩ | ⟨b1, b2, b3, b4, b5⟩
    · obtain ⟨l, e⟩ := words_head a
      rw [b4, e] at a5
      simp at a5
    · have hw : wordsAll a = wordsAll b := by
        have h1 := split_join (wordsAll a) (by unfold wordsAll; simp) (words_no32 a)
        have h2 := split_join (wordsAll b) (by unfold wordsAll; simp) (words_no32 b)
        rw [← words_all, ← a5] at h1
        rw [← words_all, ← b5, h1] at h2
        exact h2
      obtain ⟨e, rev, sl, at_, gr, t, mb, mr, ml, ik, fr, tu, d⟩ := a
      obtain ⟨e', rev', sl', at', gr', t', mb', mr', ml', ik', fr', tu', d'⟩ := b
      simp only [allOK, nums1, nums2, List.all_cons, List.all_nil, Bool.and_true, Bool.and_eq_true, decide_eq_true_eq] at a2 a3 b2 b3
      simp only [wordsAll, List.cons.injEq, true_and] at hw
      obtain ⟨w1, w2, w3, w4, w5, w6, w7, w8, w9, w10, w11, w12⟩ := hw
      simp only at a1 b1 a4 b4
      rw [a1, b1, numL_inj a2.1 b2.1 w1, numL_inj a2.2.1 b2.2.1 w2, numL_inj a2.2.2.1 b2.2.2.1 w3, numL_inj a2.2.2.2 b2.2.2.2 w4, quoteL_inj w5,
        numL_inj a3.1 b3.1 w6, numL_inj a3.2.1 b3.2.1 w7, numL_inj a3.2.2.1 b3.2.2.1 w8, numL_inj a3.2.2.2.1 b3.2.2.2.1 w9, numL_inj a3.2.2.2.2.1 b3.2.2.2.2.1 w10, numL_inj a3.2.2.2.2.2 b3.2.2.2.2.2 w11, pcs_inj a4 b4 w12]
end Go.Proofs.YtdfkbahlngijcaaDoor
