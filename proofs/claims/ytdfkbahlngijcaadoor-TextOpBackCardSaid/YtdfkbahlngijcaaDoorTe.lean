/- Text: results: plain model; empty. -/
import Derived.Test.YtdfkbahlngijcaaDoorDe
import Derived.Test.YtdfkbahlngijcaaDoorDf
import Derived.Test.YtdfkbahlngijcaaDoorTn
namespace Go.Proofs.YtdfkbahlngijcaaDoor
open Go.RowKit
set_option linter.unusedVariables false

structure Rs where
  e : Int
  rev : Int
  sl : Int
  a : Int
  gr : Int
  t : ByteArray
  mb : Int
  mr : Int
  ml : Int
  ik : Int
  fr : Int
  tu : Int
  d : List Pc
def rsV (r : Rs) (ao : Option Addr) (n c : Nat) : Array Value := #[.int .i64 r.e, .int .i64 r.rev, .int .i64 r.sl, .int .i64 r.a, .int .u8 r.gr, .string r.t, .int .i64 r.mb, .int .i64 r.mr, .int .i64 r.ml, .int .u8 r.ik, .int .i64 r.fr, .int .i64 r.tu, .slice ao n c]
def zeroR (r : Rs) : Bool := r.rev == 0 && r.sl == 0 && r.a == 0 && r.gr == 0 && decide (r.t.size = 0) && r.mb == 0 && r.mr == 0 && r.ml == 0 && r.ik == 0 && r.fr == 0 && r.tu == 0 && decide (r.d.length = 0)
def nums1 (r : Rs) : List Int := [r.rev, r.sl, r.a, r.gr]
def nums2 (r : Rs) : List Int := [r.mb, r.mr, r.ml, r.ik, r.fr, r.tu]
def wordsR (r : Rs) : List (List UInt8) := [[111, 107]] ++ (nums1 r).map numL ++ [quoteL r.t] ++ (nums2 r).map numL ++ (if textL r.d = [] then [] else [textL r.d])
def allOK (l : List Int) : Bool := l.all fun v => decide (numOK v)
def resR (r : Rs) : List UInt8 × Int :=
  if r.e ≠ 0 then (if r.e < 0 ∨ zeroR r = false ∨ 9999999999 < r.e then ([], 2) else ([101, 114, 114, 111, 114, 32] ++ Lib.decDigits r.e.toNat, 0))
  else if allOK (nums1 r) = true ∧ allOK (nums2 r) = true ∧ checkP r.d = 0 then (joinW (wordsR r), 0) else ([], 2)

set_option maxRecDepth 100000 in
set_option maxHeartbeats 4000000 in
theorem empty_any (r : Rs) (ao : Option Addr) (n c : Nat) (hl : r.d.length = n) (w : World) :
    Calls Tryd.prog 26 #[.agg (rsV r ao n c)] w fun e w' => e = .returned (.bool (zeroR r)) ∧ Below w.heap.size w w' := by
  have HB := Lib.hid (((Below.refl w.heap.size w).alloc (Nat.le_refl _) (.cells (rsV r ao n c) 29)).alloc (by simp) (.cells #[.int .u8 r.ik, .int .i64 r.fr, .int .i64 r.tu, .slice ao n c] 27))
  obtain ⟨e, rev, sl, a, gr, t, mb, mr, ml, ik, fr, tu, d⟩ := r
  simp only [rsV] at HB hl ⊢
  by_cases hrev : rev = 0
  · subst hrev
    by_cases hsl : sl = 0
    · subst hsl
      by_cases ha : a = 0
      · subst ha
        by_cases hgr : gr = 0
        · subst hgr
          by_cases ht : t.size = 0
          · have et := str_empty ht
            subst et
            clear ht
            by_cases hmb : mb = 0
            · subst hmb
              by_cases hmr : mr = 0
              · subst hmr
                by_cases hml : ml = 0
                · subst hml
                  by_cases hik : ik = 0
                  · subst hik
                    by_cases hfr : fr = 0
                    · subst hfr
                      by_cases htu : tu = 0
                      · subst htu
                        by_cases hn : n = 0
                        · obtain rfl := hn
                          have hd : d.length = 0 := hl
                          have HZ := Lib.hid (show zeroR ⟨e, 0, 0, 0, 0, ⟨#[]⟩, 0, 0, 0, 0, 0, 0, d⟩ = true by unfold zeroR; simp only [hd] <;> rfl)
                          go_enter Tryd.func26, Tryd.ntmps26
                          go_wp2_with fail
                          go_ret
                          exact ⟨by rw [HZ.out] <;> rfl, HB.out⟩
                        · have hd : d.length ≠ 0 := by omega
                          have HZ := Lib.hid (show zeroR ⟨e, 0, 0, 0, 0, ⟨#[]⟩, 0, 0, 0, 0, 0, 0, d⟩ = false by simp [zeroR, hd])
                          have bn : ((n : Int) == 0) = false := by rw [beq_eq_false_iff_ne]; omega
                          clear hn
                          go_enter Tryd.func26, Tryd.ntmps26
                          go_wp2_with fail
                          go_ret
                          exact ⟨by rw [HZ.out] <;> rfl, HB.out⟩
                      · have HZ := Lib.hid (show zeroR ⟨e, 0, 0, 0, 0, ⟨#[]⟩, 0, 0, 0, 0, 0, tu, d⟩ = false by simp [zeroR, htu])
                        have btu : (tu == 0) = false := by rw [beq_eq_false_iff_ne]; exact htu
                        clear htu
                        go_enter Tryd.func26, Tryd.ntmps26
                        go_wp2_with fail
                        go_ret
                        exact ⟨by rw [HZ.out] <;> rfl, HB.out⟩
                    · have HZ := Lib.hid (show zeroR ⟨e, 0, 0, 0, 0, ⟨#[]⟩, 0, 0, 0, 0, fr, tu, d⟩ = false by simp [zeroR, hfr])
                      have bfr : (fr == 0) = false := by rw [beq_eq_false_iff_ne]; exact hfr
                      clear hfr
                      go_enter Tryd.func26, Tryd.ntmps26
                      go_wp2_with fail
                      go_ret
                      exact ⟨by rw [HZ.out] <;> rfl, HB.out⟩
                  · have HZ := Lib.hid (show zeroR ⟨e, 0, 0, 0, 0, ⟨#[]⟩, 0, 0, 0, ik, fr, tu, d⟩ = false by simp [zeroR, hik])
                    have bik : (ik == 0) = false := by rw [beq_eq_false_iff_ne]; exact hik
                    clear hik
                    go_enter Tryd.func26, Tryd.ntmps26
                    go_wp2_with fail
                    go_ret
                    exact ⟨by rw [HZ.out] <;> rfl, HB.out⟩
                · have HZ := Lib.hid (show zeroR ⟨e, 0, 0, 0, 0, ⟨#[]⟩, 0, 0, ml, ik, fr, tu, d⟩ = false by simp [zeroR, hml])
                  have bml : (ml == 0) = false := by rw [beq_eq_false_iff_ne]; exact hml
                  clear hml
                  go_enter Tryd.func26, Tryd.ntmps26
                  go_wp2_with fail
                  go_ret
                  exact ⟨by rw [HZ.out] <;> rfl, HB.out⟩
              · have HZ := Lib.hid (show zeroR ⟨e, 0, 0, 0, 0, ⟨#[]⟩, 0, mr, ml, ik, fr, tu, d⟩ = false by simp [zeroR, hmr])
                have bmr : (mr == 0) = false := by rw [beq_eq_false_iff_ne]; exact hmr
                clear hmr
                go_enter Tryd.func26, Tryd.ntmps26
                go_wp2_with fail
                go_ret
                exact ⟨by rw [HZ.out] <;> rfl, HB.out⟩
            · have HZ := Lib.hid (show zeroR ⟨e, 0, 0, 0, 0, ⟨#[]⟩, mb, mr, ml, ik, fr, tu, d⟩ = false by simp [zeroR, hmb])
              have bmb : (mb == 0) = false := by rw [beq_eq_false_iff_ne]; exact hmb
              clear hmb
              go_enter Tryd.func26, Tryd.ntmps26
              go_wp2_with fail
              go_ret
              exact ⟨by rw [HZ.out] <;> rfl, HB.out⟩
          · have HZ := Lib.hid (show zeroR ⟨e, 0, 0, 0, 0, t, mb, mr, ml, ik, fr, tu, d⟩ = false by simp [zeroR, ht])
            have bt := str_some ht
            clear ht
            go_enter Tryd.func26, Tryd.ntmps26
            go_wp2_with fail
            go_ret
            exact ⟨by rw [HZ.out] <;> rfl, HB.out⟩
        · have HZ := Lib.hid (show zeroR ⟨e, 0, 0, 0, gr, t, mb, mr, ml, ik, fr, tu, d⟩ = false by simp [zeroR, hgr])
          have bgr : (gr == 0) = false := by rw [beq_eq_false_iff_ne]; exact hgr
          clear hgr
          go_enter Tryd.func26, Tryd.ntmps26
          go_wp2_with fail
          go_ret
          exact ⟨by rw [HZ.out] <;> rfl, HB.out⟩
      · have HZ := Lib.hid (show zeroR ⟨e, 0, 0, a, gr, t, mb, mr, ml, ik, fr, tu, d⟩ = false by simp [zeroR, ha])
        have ba : (a == 0) = false := by rw [beq_eq_false_iff_ne]; exact ha
        clear ha
        go_enter Tryd.func26, Tryd.ntmps26
        go_wp2_with fail
        go_ret
        exact ⟨by rw [HZ.out] <;> rfl, HB.out⟩
    · have HZ := Lib.hid (show zeroR ⟨e, 0, sl, a, gr, t, mb, mr, ml, ik, fr, tu, d⟩ = false by simp [zeroR, hsl])
      have bsl : (sl == 0) = false := by rw [beq_eq_false_iff_ne]; exact hsl
      clear hsl
      go_enter Tryd.func26, Tryd.ntmps26
      go_wp2_with fail
      go_ret
      exact ⟨by rw [HZ.out] <;> rfl, HB.out⟩
  · have HZ := Lib.hid (show zeroR ⟨e, rev, sl, a, gr, t, mb, mr, ml, ik, fr, tu, d⟩ = false by simp [zeroR, hrev])
    have brev : (rev == 0) = false := by rw [beq_eq_false_iff_ne]; exact hrev
    clear hrev
    go_enter Tryd.func26, Tryd.ntmps26
    go_wp2_with fail
    go_ret
    exact ⟨by rw [HZ.out] <;> rfl, HB.out⟩
end Go.Proofs.YtdfkbahlngijcaaDoor
