/- Diff: apply.parts: its walk. -/
import Derived.Test.YtfbjbgknfdekfaaDoorHo
import Derived.Laws.EntriesVeiled
import Derived.Test.YtfbjbgknfdekfaaDoorHd
import Derived.Test.YtfbjbgknfdekfaaDoorHi
namespace Go.Proofs.YtfbjbgknfdekfaaDoor
open Go.RowKit
set_option linter.unusedVariables false

/-- the five blocks that parts makes first -/
theorem pre_five (s : ByteArray) (w : World) : Pre5 w.heap.size s (((((w.alloc (.cells #[.string s] 9)).alloc (.cells #[.pointer none, .slice none 0 0] 74)).alloc (.cells #[.pointer none, .slice none 0 0] 74)).alloc (.cells #[.pointer none, .slice none 0 0] 74)).alloc (.cells #[.func (.func 53) #[] #[.pointer (some ⟨w.heap.size, 0, none⟩)]] 75)) ∧ Below w.heap.size w (((((w.alloc (.cells #[.string s] 9)).alloc (.cells #[.pointer none, .slice none 0 0] 74)).alloc (.cells #[.pointer none, .slice none 0 0] 74)).alloc (.cells #[.pointer none, .slice none 0 0] 74)).alloc (.cells #[.func (.func 53) #[] #[.pointer (some ⟨w.heap.size, 0, none⟩)]] 75)) := by
  have e0 := block_new w (.cells #[.string s] 9)
  have e1 := block_new' (w.alloc (.cells #[.string s] 9)) (.cells #[.pointer none, .slice none 0 0] 74) (w.heap.size + 1) (by simp)
  have e2 := block_new' ((w.alloc (.cells #[.string s] 9)).alloc (.cells #[.pointer none, .slice none 0 0] 74)) (.cells #[.pointer none, .slice none 0 0] 74) (w.heap.size + 2) (by simp)
  have e3 := block_new' (((w.alloc (.cells #[.string s] 9)).alloc (.cells #[.pointer none, .slice none 0 0] 74)).alloc (.cells #[.pointer none, .slice none 0 0] 74)) (.cells #[.pointer none, .slice none 0 0] 74) (w.heap.size + 3) (by simp)
  have e4 := block_new' ((((w.alloc (.cells #[.string s] 9)).alloc (.cells #[.pointer none, .slice none 0 0] 74)).alloc (.cells #[.pointer none, .slice none 0 0] 74)).alloc (.cells #[.pointer none, .slice none 0 0] 74)) (.cells #[.func (.func 53) #[] #[.pointer (some ⟨w.heap.size, 0, none⟩)]] 75) (w.heap.size + 4) (by simp)
  have hb : Below w.heap.size w (((((w.alloc (.cells #[.string s] 9)).alloc (.cells #[.pointer none, .slice none 0 0] 74)).alloc (.cells #[.pointer none, .slice none 0 0] 74)).alloc (.cells #[.pointer none, .slice none 0 0] 74)).alloc (.cells #[.func (.func 53) #[] #[.pointer (some ⟨w.heap.size, 0, none⟩)]] 75)) := (((((Below.refl _ w).alloc (Nat.le_refl _) _).alloc (by simp) _).alloc (by simp; omega) _).alloc (by simp; omega) _).alloc (by simp; omega) _
  exact ⟨⟨block_alloc (block_alloc (block_alloc (block_alloc e0 _) _) _) _, block_alloc (block_alloc (block_alloc e1 _) _) _, block_alloc (block_alloc e2 _) _, block_alloc e3 _, e4, by simp⟩, hb⟩
structure PaI (h : Nat) (l : List Pc) (s : ByteArray) (w : World) (j : Nat) (wr : World) : Prop where
  pt : ∃ (rest : ByteArray) (g p : List UInt8) (vO vG vP : Value), Pt h (esP h) 3 rest (appP s.data.toList (l.take j)) g p vO vG vP wr ∧ rest.data.toList = s.data.toList.drop (sIP (l.take j)) ∧ g.length ≤ sIP (l.take j) ∧ p.length ≤ sOP (l.take j)
  below : Below h w wr
def PartsPost (s : ByteArray) (l : List Pc) (w : World) (e : Ending) (w' : World) : Prop :=
  (∃ g p : ByteArray, e = .returned (.tuple #[.string ⟨(appP s.data.toList l).toArray⟩, .string g, .string p])) ∧ Below w.heap.size w w'
set_option maxRecDepth 100000 in
set_option maxHeartbeats 8000000 in
theorem parts_any (s : ByteArray) (ao : Option Addr) (n c : Nat) (l : List Pc) (w : World) (h : IsR fP w ao n l) (hn : n ≤ 4096) (hok : AllOk l) (hI : sIP l = s.size) (hO : sOP l ≤ 1048576) (hs : s.size ≤ 1048576) :
    Calls Tryd.prog 43 #[.string s, .slice ao n c] w (PartsPost s l w) := by
  have hmf : ∀ (fn : Fn) (first cap : Array Value) (w : World), (Instr.makeFunc fn first cap).run Tryd.prog w = .ok (.func fn first cap) w := fun _ _ _ _ => rfl
  have hmm := @run_makeMap Tryd.prog
  have hl := h.1
  have HR := Lib.hid h
  have HOK := Lib.hid hok
  have HI := Lib.hid hI
  have HO := Lib.hid hO
  have HL := Lib.hid hl
  obtain ⟨p5, hb5⟩ := pre_five s w
  have HP5 := Lib.hid p5
  have HB5 := Lib.hid hb5
  clear h p5 hb5 hok hI hO hl
  go_enter Tryd.func43, Tryd.ntmps43
  go_upto_region 3 with (fail)
  generalize hw5 : (((((w.alloc (.cells #[.string s] 9)).alloc (.cells #[.pointer none, .slice none 0 0] 74)).alloc (.cells #[.pointer none, .slice none 0 0] 74)).alloc (.cells #[.pointer none, .slice none 0 0] 74)).alloc (.cells #[.func (.func 53) #[] #[.pointer (some ⟨w.heap.size, 0, none⟩)]] 75)) = w5
  rw [hw5] at HP5 HB5
  clear hw5
  obtain ⟨h, hh⟩ : ∃ h, h = w.heap.size := ⟨_, rfl⟩
  rw [← hh] at HP5 HB5
  rw [← hh, show h + 1 + 1 + 1 + 1 = h + 4 from rfl, show h + 1 + 1 + 1 = h + 3 from rfl, show h + 1 + 1 = h + 2 from rfl]
  have HH := Lib.hid hh
  obtain ⟨w7, w8, w9, r1, r2, r3, hpt, hb9⟩ := pre_map HP5.out w HB5.out
  unfold fR at r1
  unfold fD at r2
  unfold fI at r3
  have HPT := Lib.hid hpt
  have HB9 := Lib.hid hb9
  have HS5 := Lib.hid HP5.out.size
  clear hpt hb9 hh
  go_wp2_with fail
  rw [show w5.heap.size = h + 5 from HS5.out]
  clear r1 r2 r3
  go_loopw [22] (fun s22 wr => ∃ (j : Nat), j ≤ n ∧ s22 = .int .i64 j ∧ PaI h l s w j wr) (fun s22 _ => n - (intOf s22).toNat)
  case atStart => exact ⟨0, Nat.zero_le _, rfl, ⟨⟨s, [], [], _, _, _, HPT.out, rfl, Nat.zero_le _, Nat.zero_le _⟩, HB9.out⟩⟩
  case round =>
    obtain ⟨j, hj, rfl, hpa⟩ := hrel
    clear HPT HB9
    obtain ⟨⟨rest, g, p, vO, vG, vP, hpt, hrd, hgb, hpb⟩, hbr⟩ := hpa
    have HPT := Lib.hid hpt
    have HRD := Lib.hid hrd
    have HGB := Lib.hid hgb
    have HPB := Lib.hid hpb
    have hsz := hpt.size
    clear hpt hrd hgb hpb
    by_cases hlt : j < n
    · as_aux_lemma =>
        have hlt' : (j : Int) < (n : Int) := by omega
        have hj0 : (0 : Int) ≤ (j : Int) := by omega
        have HJL := Lib.hid (show j < l.length by have := HL.out; omega)
        obtain ⟨bb, off, rfl, hbb, hcl⟩ := HR.out.pc (by rw [← HH.out]; exact hbr) hlt
        obtain ⟨c0, c1, c2⟩ := hcl HJL.out
        have HPO := Lib.hid (HOK.out l[j] (List.getElem_mem HJL.out))
        have HSI := Lib.hid (sIP_at HJL.out)
        have HSO := Lib.hid (take_sums HJL.out).2
        have HT1 := Lib.hid (take_le (l := l) (j + 1))
        have HT0 := Lib.hid (take_le (l := l) j)
        have HAP := Lib.hid (appP_take HJL.out s.data.toList)
        have HOL := Lib.hid (show (appP s.data.toList (l.take j)).length ≤ 4000000 by
          have h1 := appP_len (l.take j) s.data.toList
          have h2 := HT0.out.2
          have h3 := HO.out
          omega)
        have HGL := Lib.hid (show g.length ≤ 4000000 by have h1 := HGB.out; have h2 := HT0.out.1; have h3 := HI.out; omega)
        have HPL := Lib.hid (show p.length ≤ 4000000 by have h1 := HPB.out; have h2 := HT0.out.2; have h3 := HO.out; omega)
        have HRL := Lib.hid (show rest.size = s.size - sIP (l.take j) by
          have h1 := congrArg List.length HRD.out
          rw [List.length_drop, Array.length_toList, Array.length_toList] at h1
          exact h1)
        have HRS := Lib.hid (show rest.size ≤ 1048576 by rw [HRL.out]; omega)
        have HRE := Lib.hid (fun hk => appP_ret HPO.out hk (s.data.toList.drop (sIP (l.take j))))
        have HNO := Lib.hid (fun hk => appP_not HPO.out hk (s.data.toList.drop (sIP (l.take j))))
        have HTX := Lib.hid (fun hk => out_not HPO.out hk)
        have HXD0 := Lib.hid (fun m => ext_drop rest m)
        have HCL := Lib.hid (And.intro c0 (And.intro c1 c2))
        clear hcl c0 c1 c2
        generalize l[j]'HJL.out = pc at *
        obtain ⟨c0, c1, c2⟩ := HCL.out
        clear HCL
        rcases okP_cases HPO.out with ⟨k1, k2, k3⟩ | ⟨k1, k2, k3⟩ | ⟨k1, k2, k3⟩
        · as_aux_lemma =>
            obtain ⟨m, hm⟩ : ∃ m : Nat, pc.n = m := ⟨pc.n.toNat, by omega⟩
            have HMI := Lib.hid (show (ofP pc).inn = m by
              obtain ⟨m', e1, e2⟩ := inn_of HPO.out
              rw [e2]; omega)
            have HMR := Lib.hid (show m ≤ rest.size by
              have h1 := HSI.out
              have h2 := HT1.out.1
              have h3 := HI.out
              have h4 := HRL.out
              rw [HMI.out] at h1
              omega)
            have HXD := Lib.hid (HXD0.out m)
            have HRET := Lib.hid (show appP (s.data.toList.drop (sIP (l.take j))) [pc] = (rest.extract 0 m).data.toList by
              rw [HRE.out k1, hm, Int.toNat_natCast]
              have h1 := ext_take rest 0 m
              rw [Nat.zero_add, List.drop_zero, HRD.out] at h1
              exact h1.symm)
            rw [k1] at c0
            rw [hm] at c1
            clear HRE HNO HTX HXD0 k1 k2 k3 hm
            generalize pc.t = t at *
            have HPA := Lib.hid (HPT.out.alloc (.cells #[.int .u8 1, .int .i64 m, .string t] 45))
            have HBA := Lib.hid (hbr.alloc (by omega) (.cells #[.int .u8 1, .int .i64 m, .string t] 45))
            have hlk := run_look HPA.out.m 1 0 (fR h) (look_ret h)
            unfold fR at hlk
            have HC := Lib.hid (cloR_any h 3 m (esP h) rest _ g p vO vG vP 1 t (wr.alloc (.cells #[.int .u8 1, .int .i64 m, .string t] 45)) HPA.out HMR.out HRS.out HOL.out HGL.out)
            clear hbr
            go_wp2_with fail
            refine (HC.out).mono ?_; rintro e w2 ⟨rfl, ⟨vO', vG', vP', hp2⟩, hb2⟩
            have HB2 := Lib.hid (hb2 _ HBA.out)
            have HNX := Lib.hid (show PaI h l s w (j + 1) w2 from ⟨⟨rest.extract m rest.size, g, p, vO', vG', vP', by rw [HAP.out, HRET.out]; exact hp2, by rw [HXD.out, HRD.out, List.drop_drop, HSI.out, HMI.out], by rw [HSI.out]; have := HGB.out; omega, by have := HPB.out; have := HSO.out; omega⟩, HB2.out⟩)
            clear hlk hp2 hb2
            go_wp2_with fail
            go_roundw
            case rel => exact ⟨j + 1, by omega, by go_num, HNX.out⟩
            case measure => (simp [intOf] <;> omega)
        · as_aux_lemma =>
            obtain ⟨m, hm⟩ : ∃ m : Nat, pc.n = m := ⟨pc.n.toNat, by omega⟩
            have HMI := Lib.hid (show (ofP pc).inn = m by
              obtain ⟨m', e1, e2⟩ := inn_of HPO.out
              rw [e2]; omega)
            have HMR := Lib.hid (show m ≤ rest.size by
              have h1 := HSI.out
              have h2 := HT1.out.1
              have h3 := HI.out
              have h4 := HRL.out
              rw [HMI.out] at h1
              omega)
            have HXD := Lib.hid (HXD0.out m)
            have HNOT := Lib.hid (show appP (s.data.toList.drop (sIP (l.take j))) [pc] = [] by
              rw [HNO.out (by rw [k1]; decide), str_empty k3])
            have HXT := Lib.hid (show (rest.extract 0 m).data.toList.length = m by
              rw [Array.length_toList]
              show (rest.extract 0 m).size = m
              rw [ByteArray.size_extract]
              have := HMR.out
              omega)
            rw [k1] at c0
            rw [hm] at c1
            clear HRE HNO HTX HXD0 k1 k2 k3 hm
            generalize pc.t = t at *
            have HPA := Lib.hid (HPT.out.alloc (.cells #[.int .u8 3, .int .i64 m, .string t] 45))
            have HBA := Lib.hid (hbr.alloc (by omega) (.cells #[.int .u8 3, .int .i64 m, .string t] 45))
            have hlk := run_look HPA.out.m 3 1 (fD h) (look_del h)
            unfold fD at hlk
            have HC := Lib.hid (cloD_any h 3 m (esP h) rest _ g p vO vG vP 3 t (wr.alloc (.cells #[.int .u8 3, .int .i64 m, .string t] 45)) HPA.out HMR.out HRS.out HOL.out HGL.out)
            clear hbr
            go_wp2_with fail
            refine (HC.out).mono ?_; rintro e w2 ⟨rfl, ⟨vO', vG', vP', hp2⟩, hb2⟩
            have HB2 := Lib.hid (hb2 _ HBA.out)
            have HNX := Lib.hid (show PaI h l s w (j + 1) w2 from ⟨⟨rest.extract m rest.size, _, p, vO', vG', vP', by rw [HAP.out, HNOT.out, List.append_nil]; exact hp2, by rw [HXD.out, HRD.out, List.drop_drop, HSI.out, HMI.out], by rw [HSI.out, HMI.out, List.length_append, HXT.out]; have := HGB.out; omega, by have := HPB.out; have := HSO.out; omega⟩, HB2.out⟩)
            clear hlk hp2 hb2
            go_wp2_with fail
            go_roundw
            case rel => exact ⟨j + 1, by omega, by go_num, HNX.out⟩
            case measure => (simp [intOf] <;> omega)
        · as_aux_lemma =>
            obtain ⟨m, hm⟩ : ∃ m : Int, pc.n = m := ⟨_, rfl⟩
            have HMI := Lib.hid (show (ofP pc).inn = 0 by
              obtain ⟨m', e1, e2⟩ := inn_of HPO.out
              rw [e2]; omega)
            have HOU := Lib.hid (show (ofP pc).out = pc.t.data.toList.length by
              rw [HTX.out (by rw [k1]; decide)]
              exact (Array.length_toList ..).symm)
            have HTL := Lib.hid (show pc.t.size ≤ 1048576 by
              have h1 := HSO.out
              have h2 := HT1.out.2
              have h3 := HO.out
              rw [HTX.out (by rw [k1]; decide)] at h1
              omega)
            have HNOT := Lib.hid (HNO.out (by rw [k1]; decide))
            rw [k1] at c0
            rw [hm] at c1
            clear HRE HNO HTX HXD0 k1 k2 k3 hm
            generalize pc.t = t at *
            have HPA := Lib.hid (HPT.out.alloc (.cells #[.int .u8 2, .int .i64 m, .string t] 45))
            have HBA := Lib.hid (hbr.alloc (by omega) (.cells #[.int .u8 2, .int .i64 m, .string t] 45))
            have hlk := run_look HPA.out.m 2 2 (fI h) (look_ins h)
            unfold fI at hlk
            have HC := Lib.hid (cloI_any h 3 (esP h) rest _ g p vO vG vP 2 m t (wr.alloc (.cells #[.int .u8 2, .int .i64 m, .string t] 45)) HPA.out HOL.out HPL.out HTL.out)
            clear hbr
            go_wp2_with fail
            refine (HC.out).mono ?_; rintro e w2 ⟨rfl, ⟨vO', vG', vP', hp2⟩, hb2⟩
            have HB2 := Lib.hid (hb2 _ HBA.out)
            have HNX := Lib.hid (show PaI h l s w (j + 1) w2 from ⟨⟨rest, g, _, vO', vG', vP', by rw [HAP.out, HNOT.out]; exact hp2, by rw [HSI.out, HMI.out, Nat.add_zero]; exact HRD.out, by rw [HSI.out]; have := HGB.out; omega, by rw [HSO.out, HOU.out, List.length_append]; have := HPB.out; omega⟩, HB2.out⟩)
            clear hlk hp2 hb2
            go_wp2_with fail
            go_roundw
            case rel => exact ⟨j + 1, by omega, by go_num, HNX.out⟩
            case measure => (simp [intOf] <;> omega)
    · as_aux_lemma =>
        have hlt' : ¬ ((j : Int) < (n : Int)) := by omega
        obtain ⟨hjn, ho⟩ : j = l.length ∧ appP s.data.toList (l.take j) = appP s.data.toList l := by
          have : j = l.length := by have := HL.out; omega
          exact ⟨this, by rw [this, List.take_length]⟩
        rw [ho] at HPT
        have HS1 := Lib.hid (string_own _ _ _ _ wr HPT.out.bo)
        clear hlt hjn ho
        go_wp2_with fail
        refine (HS1.out).mono ?_; rintro e w1 ⟨rfl, hk1⟩
        have HK1 := Lib.hid hk1
        have HG1 := Lib.hid (HPT.out.bg.kept hk1 (fun e => by cases e) (fun e => by have := HPT.out.bo.base e.symm; omega) (fun q _ e => by cases e) (fun q hq e => HPT.out.a1 q e hq))
        have HP1 := Lib.hid (HPT.out.bp.kept hk1 (fun e => by cases e) (fun e => by have := HPT.out.bo.base e.symm; omega) (fun q _ e => by cases e) (fun q hq e => HPT.out.a2 q e hq))
        have HB1 := Lib.hid (Kept2.below hbr hk1 (by omega) (fun q e => by cases e) (fun q e => by have := HPT.out.bo.base e; omega))
        have HS2 := Lib.hid (string_own _ _ _ _ w1 HG1.out)
        have hs1 := hk1.size
        clear hk1 hbr
        go_wp2_with fail
        refine (HS2.out).mono ?_; rintro e w2 ⟨rfl, hk2⟩
        have HP2 := Lib.hid (HP1.out.kept hk2 (fun e => by cases e) (fun e => by have := HG1.out.base e.symm; omega) (fun q _ e => by cases e) (fun q hq e => HPT.out.a3 q e hq))
        have HB2 := Lib.hid (Kept2.below HB1.out hk2 (by omega) (fun q e => by cases e) (fun q e => by have := HG1.out.base e; omega))
        have HS3 := Lib.hid (string_own _ _ _ _ w2 HP2.out)
        have hs2 := hk2.size
        clear hk2
        go_wp2_with fail
        refine (HS3.out).mono ?_; rintro e w3 ⟨rfl, hk3⟩
        have HB3 := Lib.hid (Kept2.below HB2.out hk3 (by omega) (fun q e => by cases e) (fun q e => by have := HP2.out.base e; omega))
        clear hk3
        go_wp2_with fail
        go_ret3
        exact ⟨⟨_, _, rfl⟩, by rw [← HH.out]; exact HB3.out⟩
end Go.Proofs.YtfbjbgknfdekfaaDoor
