/- Diff: what Lines returns: plain laws and one contract. -/
import Derived.Test.YtfbjbgknfdekfaaDoorEx
import Derived.Test.YtfbjbgknfdekfaaDoorEw
namespace Go.Proofs.YtfbjbgknfdekfaaDoor
open Go.RowKit
set_option linter.unusedVariables false

theorem scrB_to {xs ys : List Ln} (hx : ∀ r ∈ xs, r ≠ []) (hy : ∀ r ∈ ys, r ≠ []) : ∀ (n i k : Nat) (ds : List Pc), (xs.length - i) + (ys.length - k) ≤ n → ScrB xs ys i k ds → ∃ ds', ScrB xs ys xs.length ys.length ds'
  | n, i, k, ds, hn, h => by
    have hi := h.1.2.2.1.1
    have hk := h.1.2.2.1.2.1
    rcases Nat.lt_or_ge i xs.length with h1 | h1
    · rcases n with _ | n
      · omega
      rcases Nat.lt_or_ge k ys.length with h2 | h2
      · by_cases hA : xs[i] = ys[k] ∧ bst (xs.drop i) (ys.drop k) = bst (xs.drop (i + 1)) (ys.drop (k + 1)) + xs[i].length
        · exact scrB_to hx hy n (i + 1) (k + 1) _ (by omega) (scrB_keep h h1 h2 (hx _ (List.getElem_mem _)) hA.1 hA.2)
        · by_cases hB : bst (xs.drop i) (ys.drop k) = bst (xs.drop i) (ys.drop (k + 1))
          · exact scrB_to hx hy n i (k + 1) _ (by omega) (scrB_ins h h2 (hy _ (List.getElem_mem _)) (fun _ => hA) (.inr hB))
          · exact scrB_to hx hy n (i + 1) k _ (by omega) (scrB_del h h1 (hx _ (List.getElem_mem _)) (fun _ => hA) (fun _ => hB))
      · exact scrB_to hx hy n (i + 1) k _ (by omega) (scrB_del h h1 (hx _ (List.getElem_mem _)) (fun hk => absurd hk (by omega)) (fun hk => absurd hk (by omega)))
    · rcases Nat.lt_or_ge k ys.length with h2 | h2
      · rcases n with _ | n
        · omega
        exact scrB_to hx hy n i (k + 1) _ (by omega) (scrB_ins h h2 (hy _ (List.getElem_mem _)) (fun hi => absurd hi (by omega)) (.inl (by omega)))
      · obtain rfl : i = xs.length := by omega
        obtain rfl : k = ys.length := by omega
        exact ⟨ds, h⟩
theorem scrB_all {xs ys : List Ln} (hx : ∀ r ∈ xs, r ≠ []) (hy : ∀ r ∈ ys, r ≠ []) : ScrB xs ys xs.length ys.length (scrF xs ys) := by
  obtain ⟨ds, h⟩ := scrB_to hx hy _ 0 0 [] (Nat.le_refl _) (scrB_start xs ys)
  have e := scrB_end h
  rw [e] at h
  exact h
/-- the lines of a text -/
def rwS (s : ByteArray) : List Ln := rowsL s.data.toList
theorem rwS_ne (s : ByteArray) : ∀ r ∈ rwS s, r ≠ [] := rowsL_ne _
theorem rwS_tot (s : ByteArray) : tot (rwS s) = s.size := tot_rows s
theorem len_tot : ∀ {xs : List Ln}, (∀ r ∈ xs, r ≠ []) → xs.length ≤ tot xs
  | [], _ => Nat.le_refl _
  | r :: xs, h => by
    have h1 := len_tot (xs := xs) fun q hq => h q (List.mem_cons_of_mem _ hq)
    have h2 := List.length_pos_iff.2 (h r (List.mem_cons_self ..))
    rw [tot_cons, List.length_cons]
    omega
theorem rwS_len (s : ByteArray) : (rwS s).length ≤ s.size := by
  have := len_tot (rwS_ne s)
  rw [rwS_tot] at this
  exact this
theorem rwS_inj {a b : ByteArray} (h : rwS a = rwS b) : a = b := by
  have e := congrArg List.flatten h
  unfold rwS at e
  rw [rows_join, rows_join] at e
  exact ByteArray.ext (Array.toList_inj.1 e)
/-- too long for Lines -/
def linT (a b : ByteArray) : Prop := 1048576 < a.size ∨ 1048576 < b.size ∨ 1024 < (rwS a).length ∨ 1024 < (rwS b).length
theorem linT_symm {a b : ByteArray} : linT a b ↔ linT b a := by
  unfold linT
  constructor <;> (rintro (h | h | h | h) <;> omega)
open Classical in
noncomputable def linE (a b : ByteArray) : Int := if linT a b then 5 else 0
open Classical in
noncomputable def linL (a b : ByteArray) : List Pc := if linT a b then [] else formP (scrF (rwS a) (rwS b))
theorem linE_yes {a b : ByteArray} (h : linT a b) : linE a b = 5 := if_pos h
theorem linE_no {a b : ByteArray} (h : ¬ linT a b) : linE a b = 0 := if_neg h
theorem linL_yes {a b : ByteArray} (h : linT a b) : linL a b = [] := if_pos h
theorem linL_no {a b : ByteArray} (h : ¬ linT a b) : linL a b = formP (scrF (rwS a) (rwS b)) := if_neg h
theorem linE_symm (a b : ByteArray) : linE b a = linE a b := by
  by_cases h : linT a b
  · rw [linE_yes h, linE_yes (linT_symm.1 h)]
  · rw [linE_no h, linE_no (fun k => h (linT_symm.1 k))]
/-- all that is known of the delta of Lines -/
structure LinOk (a b : ByteArray) (l : List Pc) : Prop where
  len : l.length ≤ 2048
  ok : AllOk l
  check : checkP l = 0
  form : formP l = l
  cost : costP l = lst (rwS a) (rwS b)
  inn : sIP l = a.size
  out : sOP l = b.size
  app : appP a.data.toList l = b.data.toList
  byl : ByL (rwS a) (rwS b) l
theorem lin_ok {a b : ByteArray} (h : ¬ linT a b) : LinOk a b (linL a b) := by
  have hs := scrB_all (rwS_ne a) (rwS_ne b)
  obtain ⟨k1, k2, k3, k4⟩ := scr_end hs.1
  have hl := hs.lens
  have ha : a.size ≤ 1048576 ∧ b.size ≤ 1048576 ∧ (rwS a).length ≤ 1024 ∧ (rwS b).length ≤ 1024 := by
    unfold linT at h
    refine ⟨?_, ?_, ?_, ?_⟩ <;> (refine Nat.le_of_not_lt fun h1 => h ?_; simp [h1])
  have hck := scrB_check hs (by omega) (by rw [rwS_tot]; exact ha.1) (by rw [rwS_tot]; exact ha.2.1)
  have hck2 := check_formP hck
  rw [linL_no h]
  refine ⟨?_, formP_ok k1, hck2, formP_form _, ?_, ?_, ?_, ?_, byL_form hs.2.2.1⟩
  · have := len_formP (scrF (rwS a) (rwS b))
    omega
  · unfold costP
    rw [if_pos hck2, cost_form k1, k2]
  · rw [sIP_form, k3, rwS_tot]
  · rw [sOP_form, k4, rwS_tot]
  · rw [appP_form]
    have := hs.2.1
    rw [List.take_length] at this
    unfold rwS at this
    rw [rows_join, rows_join] at this
    exact this
theorem lines_all (a b : ByteArray) (w : World) (ha : a.size ≤ 140737488355328) (hb : b.size ≤ 140737488355328) :
    Calls Tryd.prog 17 #[.string a, .string b] w (Rowed w (linL a b) (linE a b)) := by
  by_cases h : linT a b
  · rw [linL_yes h, linE_yes h]
    by_cases h1 : 1048576 < a.size ∨ 1048576 < b.size
    · exact linesD_long a b w h1 ha hb
    · have ha1 : a.size ≤ 1048576 := by omega
      have hb1 : b.size ≤ 1048576 := by omega
      refine linesD_many a b w ha1 hb1 ?_ ?_ ?_
      · unfold linT rwS at h
        omega
      · have := rwS_len a
        unfold rwS at this
        omega
      · have := rwS_len b
        unfold rwS at this
        omega
  · rw [linL_no h, linE_no h]
    unfold linT rwS at h
    exact (linesD_any a b w (by omega) (by omega) (by omega) (by omega)).mono fun e w' h => h.2
end Go.Proofs.YtfbjbgknfdekfaaDoor
