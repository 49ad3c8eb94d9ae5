/- The arena: Alloc of the program. -/
import Derived.Test.YtfgkbnnojogjpaaQe
namespace Go.Proofs.Ytfgkbnnojogjpaa
open Go.RowKit

/-- the first error of the children -/
def kidsE (A : AS) (h : Int) : List Kid → Int
  | [] => 0
  | k :: ks => match lookI A.it k.1 with
    | none => 10
    | some y => if y.h = h - 1 ∧ measN y = k.2 then kidsE A h ks else 23
def allocR (A : AS) (x : Nd) : Int × Int := if checkN x ≠ 0 then (0, checkN x) else if kidsE A x.h x.kids ≠ 0 then (0, kidsE A x.h x.kids) else takeR A.x
def allocS (A : AS) (x : Nd) : AS := if (allocR A x).2 ≠ 0 then A else { A with x := takeL A.x, it := A.it ++ [((allocR A x).1, x)], al := A.al + 1 }

theorem lookI_none {it : List (Int × Nd)} {h : Int} (hh : h ∉ it.map (·.1)) : lookI it h = none := by
  unfold lookI
  rw [List.find?_eq_none.2 (fun p hp => by
    intro e
    exact hh (List.mem_map.2 ⟨p, hp, by simpa using e⟩))]
  rfl
theorem kidsE_step {A : AS} {h : Int} {l : List Kid} {k : Nat} (hk : k < l.length) : kidsE A h (l.drop k) = match lookI A.it l[k].1 with
    | none => 10
    | some y => if y.h = h - 1 ∧ measN y = l[k].2 then kidsE A h (l.drop (k + 1)) else 23 := by
  rw [List.drop_eq_getElem_cons hk]
  rfl

theorem allocR_kids {A : AS} {x : Nd} {e : Int} (hc : checkN x = 0) (h : kidsE A x.h x.kids = e) (he : e ≠ 0) : allocR A x = (0, e) ∧ allocS A x = A := by
  have h1 : allocR A x = (0, e) := by
    unfold allocR
    rw [if_neg (by rw [hc]; decide), h, if_pos he]
  refine ⟨h1, ?_⟩
  unfold allocS
  rw [h1, if_pos he]
theorem height_in {x : Nd} (hc : checkN x = 0) (hk : 0 < x.kids.length) : 1 ≤ x.h ∧ x.h ≤ 16 := by
  rcases (checkN_zero hc).1 with ⟨_, _, _, h⟩ | ⟨h1, h2, _⟩
  · omega
  · exact ⟨h1, h2⟩

theorem IsKs.same {w w' : World} {a : Option Addr} {n : Nat} {l : List Kid} (h : IsKs w a n l) (hB : ∀ b o, a = some ⟨b, o, none⟩ → 0 < n → w'.heap[b]? = w.heap[b]?) : IsKs w' a n l := by
  obtain ⟨h1, hr, h2⟩ := h
  refine ⟨h1, hr, fun hn => ?_⟩
  obtain ⟨b, off, e, h3⟩ := h2 hn
  have hs := hB b off e hn
  have hc : ∀ i, w'.cell? ⟨b, i, none⟩ = w.cell? ⟨b, i, none⟩ := fun i => World.cell?_of_block hs
  exact ⟨b, off, e, fun k hk => by
    obtain ⟨c0, c1, c2, c3⟩ := h3 k hk
    exact ⟨(hc _).trans c0, (hc _).trans c1, (hc _).trans c2, (hc _).trans c3⟩⟩
theorem KeepA.trans0 {B : PB} {w w1 : World} (h : KeepA B w w1) (_ : ¬ B.own w.heap.size) (i : Nat) (v : Value) : KeepA B w (w1.setCell ⟨w.heap.size, i, none⟩ v) :=
  ⟨fun b0 h0 hb => (h.1 b0 h0 hb).setCell h0 v, fun q hq hn => (Below.heap_setCell _ _ _ _ (by show q ≠ w.heap.size; omega)).trans (h.2 q hq hn)⟩
theorem list_own {B : PB} {q : Nat} (h : ¬ B.own q) : q ≠ B.lb.p ∧ q ≠ B.lb.s ∧ q ≠ B.lb.t ∧ q ≠ B.lb.g := ⟨fun e => h (.inr (.inr (.inl e))), fun e => h (.inr (.inr (.inr (.inl e)))), fun e => h (.inr (.inr (.inr (.inr (.inl e))))), fun e => h (.inr (.inr (.inr (.inr (.inr e)))))⟩
theorem allocR_take {A : AS} {x : Nd} (hc : checkN x = 0) (h : kidsE A x.h x.kids = 0) : allocR A x = takeR A.x := by
  unfold allocR
  rw [if_neg (by rw [hc]; decide), if_neg (by rw [h]; decide)]
theorem fresh_key {A : AS} (hi : AInv A) (hm : A.x.m ≠ 0) : hMk (A.x.sk (A.x.m - 1)) (A.x.gn (A.x.sk (A.x.m - 1))) ∉ A.it.map (·.1) := fun h => by
  have hl := hi.f.lo (A.x.m - 1) (by omega)
  have := (liveL_mk (mkOK_of hi.f hl.1)).1 ((hi.liv _).2 h)
  omega

set_option maxRecDepth 100000 in
set_option maxHeartbeats 2000000 in
theorem allocA_none (x : Nd) (ao : Option Addr) (n c : Nat) (w : World) :
    Calls Try.prog 13 #[.pointer none, aggN x.h x.text ao n c] w fun e w' => e = .returned (.tuple #[.int .u64 0, .int .i64 1]) ∧ Below w.heap.size w w' := by
  have HB := Lib.hid (Below.refl w.heap.size w)
  unfold aggN
  go_enter Try.func13, Try.ntmps13
  go_wp2_with fail
  go_ret2
  exact ⟨rfl, HB.out.alloc (Nat.le_refl _) _⟩

set_option maxRecDepth 100000 in
set_option maxHeartbeats 2000000 in
theorem allocA_check (B : PB) (x : Nd) (ao : Option Addr) (n c : Nat) (w : World) (hk : IsKs w ao n x.kids) (hc : checkN x ≠ 0) :
    Calls Try.prog 13 #[.pointer (some ⟨B.p, 0, none⟩), aggN x.h x.text ao n c] w fun e w' => e = .returned (.tuple #[.int .u64 0, .int .i64 (checkN x)]) ∧ Below w.heap.size w w' := by
  have HB := Lib.hid (Below.refl w.heap.size w)
  have HK := Lib.hid hk
  have hc1 : (checkN x == 0) = false := by simpa using hc
  have hc2 : (checkN x != 0) = true := by simpa using hc
  clear hk hc
  unfold aggN
  go_enter Try.func13, Try.ntmps13
  go_wp2_with fail
  refine (check_any x ao n c _ (HK.out.later ((Below.refl w.heap.size w).alloc (Nat.le_refl _) _))).mono ?_; rintro e w1 ⟨rfl, hb⟩
  have HB1 := Lib.hid (below_two (HB.out.alloc (Nat.le_refl _) _) hb)
  clear hb
  go_wp2_with fail
  go_ret2
  exact ⟨rfl, HB1.out⟩

set_option maxRecDepth 100000 in
set_option maxHeartbeats 4000000 in
theorem allocA_ok (B : PB) (A : AS) (x : Nd) (ao : Option Addr) (n c : Nat) (w : World) (hk : IsKs w ao n x.kids) (hno : ao = none → c = 0) (hsep : ∀ b o, ao = some ⟨b, o, none⟩ → 0 < n → ¬ B.own b) (hc : checkN x = 0) (ha : IsA w B A) (hi : AInv A) (hal : A.al + 1 ≤ 9223372036854775807) :
    Calls Try.prog 13 #[.pointer (some ⟨B.p, 0, none⟩), aggN x.h x.text ao n c] w fun e w' => e = .returned (.tuple #[.int .u64 (allocR A x).1, .int .i64 (allocR A x).2]) ∧ IsA w' B (allocS A x) ∧ KeepA B w w' := by
  have hn4 := kids4 hc
  have hkl := hk.1
  have HU := Lib.hid hk.2.1
  have HC := Lib.hid hc
  have HK := Lib.hid hk
  have HNO := Lib.hid hno
  have HSEP := Lib.hid hsep
  have HA := Lib.hid ha
  have HI := Lib.hid hi
  have HB0 := Lib.hid (Below.refl w.heap.size w)
  have hxh := hk.1
  clear hk hno ha hi hc hsep
  unfold aggN
  go_enter Try.func13, Try.ntmps13
  go_wp2_with fail
  refine (check_any x ao n c _ (HK.out.later ((Below.refl w.heap.size w).alloc (Nat.le_refl _) _))).mono ?_; rintro e w1 ⟨rfl, hb⟩
  have HB1 := Lib.hid (below_two (HB0.out.alloc (Nat.le_refl _) _) hb)
  have hbx := block_below hb (block_new w (.cells #[.int .i64 x.h, .string x.text, .slice ao n c] 36)) (by simp)
  have HBX := Lib.hid hbx
  rw [HC.out]
  (have q0 := block_cell hbx 0; have q1 := block_cell hbx 1; have q2 := block_cell hbx 2; have f0 := block_free hbx 0; have f1 := block_free hbx 1; have f2 := block_free hbx 2; have hz := block_lt hbx; simp at q0 q1 q2)
  clear hb hbx
  go_wp2_with fail
  go_loopw [25] (fun i wr => ∃ k : Nat, k ≤ n ∧ i = .int .i64 k ∧ kidsE A x.h (x.kids.drop k) = kidsE A x.h x.kids ∧ Below w.heap.size w wr ∧ wr.heap[w.heap.size]? = some (.cells #[.int .i64 x.h, .string x.text, .slice ao n c] 36 (0, 0))) (fun i _ => n - (intOf i).toNat)
  case atStart => exact ⟨0, Nat.zero_le _, rfl, rfl, HB1.out, HBX.out⟩
  case round =>
    obtain ⟨k, hkn, rfl, hke, hbr, hbx⟩ := hrel
    have HBR := Lib.hid hbr
    have HXR := Lib.hid hbx
    have HKE := Lib.hid hke
    have har := HA.out.below hbr
    have HAR := Lib.hid har
    have hp := har.1
    by_cases hlt : k < n
    · have hkl2 : k < x.kids.length := by omega
      obtain ⟨bb, off, rfl, hcell⟩ := HK.out.2.2 (by omega)
      have hbb := cellK_lt (hcell k hkl2)
      obtain ⟨e0, e1, e2, e3⟩ := cellK_below (hcell k hkl2) hbr hbb
      have hk1 : (k : Int) < (n : Int) := by omega
      have hst := kidsE_step (A := A) (h := x.h) hkl2
      rw [hke] at hst
      have hur := HU.out _ (List.getElem_mem hkl2)
      obtain ⟨es, clock, hm, hents⟩ := har.2.2
      generalize x.kids[k] = kd at *
      obtain ⟨kat, m0, m1, m2⟩ := kd
      simp only at e0 e1 e2 e3 hst hur
      by_cases hin : kat ∈ A.it.map (·.1)
      · obtain ⟨v, nd, hnd, hown, hrun⟩ := look_yes (r := B.r) (clock := clock) hents hin
        rw [lookI_mem HI.out.nd hnd] at hst
        simp only at hst
        have HOK := Lib.hid (HI.out.ok _ hnd)
        have hxb := height_in HC.out (by omega)
        obtain ⟨s, rfl, hks⟩ := hown
        obtain ⟨ao2, cap2, rfl, hik, hno2, hg2⟩ := hks.ks
        have hrun1 := fun (o : Obj) => hrun (wr.alloc o).drew (block_alloc hm o)
        have hrun2 := fun (o o' : Obj) => hrun ((wr.alloc o).alloc o').drew (block_alloc (block_alloc hm o) o')
        have HIK := Lib.hid hik
        have HST := Lib.hid hst
        (have q0 := block_cell hp 0; have q1 := block_cell hp 1; have q2 := block_cell hp 2; have q3 := block_cell hp 3; have q4 := block_cell hp 4; have q5 := block_cell hp 5; have f0 := block_free hp 0; have f1 := block_free hp 1; have f2 := block_free hp 2; have f3 := block_free hp 3; have f4 := block_free hp 4; have f5 := block_free hp 5; have hz := block_lt hp; simp at q0 q1 q2 q3 q4 q5)
        (have q0 := block_cell hbx 0; have q1 := block_cell hbx 1; have q2 := block_cell hbx 2; have f0 := block_free hbx 0; have f1 := block_free hbx 1; have f2 := block_free hbx 2; have hz := block_lt hbx; simp at q0 q1 q2)
        clear hp hbx hcell hke hbr har hm hents hin hnd hrun hks hik hno2 hg2 hst
        go_wp2_with fail
        go_region
        have hb2 := (((HBR.out.alloc HBR.out.size (.cells #[.int .u64 kat, .int .i64 m0, .int .i64 m1, .int .i64 m2] 64)).alloc (Nat.le_trans HBR.out.size (by simp)) (.cells #[.int .i64 nd.h, .string nd.text, .slice ao2 nd.kids.length cap2] 36)).drew)
        have HB2 := Lib.hid hb2
        have hbx2 := block_alloc (block_alloc HXR.out (.cells #[.int .u64 kat, .int .i64 m0, .int .i64 m1, .int .i64 m2] 64)) (.cells #[.int .i64 nd.h, .string nd.text, .slice ao2 nd.kids.length cap2] 36)
        have hkb2 := block_alloc (block_new wr (.cells #[.int .u64 kat, .int .i64 m0, .int .i64 m1, .int .i64 m2] 64)) (.cells #[.int .i64 nd.h, .string nd.text, .slice ao2 nd.kids.length cap2] 36)
        have hyb2 := block_new' (wr.alloc (.cells #[.int .u64 kat, .int .i64 m0, .int .i64 m1, .int .i64 m2] 64)) (.cells #[.int .i64 nd.h, .string nd.text, .slice ao2 nd.kids.length cap2] 36) (wr.heap.size + 1) (by simp)
        have hbs := HBR.out.size
        go_wp2_with fail
        refine (measure_any nd ao2 nd.kids.length cap2 _ (HIK.out.later ((((Below.refl wr.heap.size wr).alloc (Nat.le_refl _) (.cells #[.int .u64 kat, .int .i64 m0, .int .i64 m1, .int .i64 m2] 64)).alloc (by simp) (.cells #[.int .i64 nd.h, .string nd.text, .slice ao2 nd.kids.length cap2] 36)).drew))).mono ?_; rintro e w3 ⟨rfl, hb⟩
        rw [HOK.out]
        have hbx3 := block_below hb hbx2 (by simp; omega)
        have hkb3 := block_below hb hkb2 (by simp; omega)
        have hyb3 := block_below hb hyb2 (by simp)
        have HX3 := Lib.hid hbx3
        have HB3 := Lib.hid (below_two HB2.out hb)
        clear q0 q1 q2 q3 q4 q5 f0 f1 f2 f3 f4 f5 hz hbx2 hkb2 hyb2 hb hb2
        (have q0 := block_cell hbx3 0; have q1 := block_cell hbx3 1; have q2 := block_cell hbx3 2; have f0 := block_free hbx3 0; have f1 := block_free hbx3 1; have f2 := block_free hbx3 2; have hz := block_lt hbx3; simp at q0 q1 q2)
        (have q0 := block_cell hkb3 0; have q1 := block_cell hkb3 1; have q2 := block_cell hkb3 2; have q3 := block_cell hkb3 3; have f0 := block_free hkb3 0; have f1 := block_free hkb3 1; have f2 := block_free hkb3 2; have f3 := block_free hkb3 3; have hz := block_lt hkb3; simp at q0 q1 q2 q3)
        (have q0 := block_cell hyb3 0; have q1 := block_cell hyb3 1; have q2 := block_cell hyb3 2; have f0 := block_free hyb3 0; have f1 := block_free hyb3 1; have f2 := block_free hyb3 2; have hz := block_lt hyb3; simp at q0 q1 q2)
        clear hbx3 hkb3 hyb3
        have HB4 := Lib.hid (HB3.out.alloc HB3.out.size (.cells #[.int .i64 (measN nd).1, .int .i64 (measN nd).2.1, .int .i64 (measN nd).2.2] 62))
        unfold aggM
        generalize measN nd = mm at *
        obtain ⟨a0, a1, a2⟩ := mm
        simp only at HST HB4
        by_cases ch : nd.h = x.h - 1
        · by_cases d0 : a0 = m0
          · by_cases d1 : a1 = m1
            · by_cases d2 : a2 = m2
              · subst d0 d1 d2
                have HS2 := Lib.hid (HST.out.trans (if_pos ⟨ch, rfl⟩))
                have ch2 : (nd.h != x.h - 1) = false := by simpa using ch
                have ch3 : (nd.h == x.h - 1) = true := by simpa using ch
                have HX4 := Lib.hid (block_alloc HX3.out (.cells #[.int .i64 a0, .int .i64 a1, .int .i64 a2] 62))
                clear ch
                go_wp2_with fail
                go_roundw
                case rel => exact ⟨k + 1, by omega, by go_num, HS2.out.symm, HB4.out, HX4.out⟩
                case measure => simp [intOf]; omega
              · have HE := Lib.hid (HST.out.trans (if_neg (fun h => d2 (by have := h.2; injection this with _ this; injection this))))
                have ch2 : (nd.h != x.h - 1) = false := by simpa using ch
                have ch3 : (nd.h == x.h - 1) = true := by simpa using ch
                have hne : (a2 == m2) = false := by simpa using d2
                clear ch d2
                subst d0 d1
                go_wp2_with fail
                have hR := allocR_kids HC.out (e := 23) HE.out (by decide)
                go_ret2
                exact ⟨by rw [hR.1]; rfl, by rw [hR.2]; exact HA.out.below HB4.out, (KeepA.refl B w).below HB4.out⟩
            · have HE := Lib.hid (HST.out.trans (if_neg (fun h => d1 (by have := h.2; injection this with _ this; injection this))))
              have ch2 : (nd.h != x.h - 1) = false := by simpa using ch
              have ch3 : (nd.h == x.h - 1) = true := by simpa using ch
              have hne : (a1 == m1) = false := by simpa using d1
              clear ch d1
              subst d0
              go_wp2_with fail
              have hR := allocR_kids HC.out (e := 23) HE.out (by decide)
              go_ret2
              exact ⟨by rw [hR.1]; rfl, by rw [hR.2]; exact HA.out.below HB4.out, (KeepA.refl B w).below HB4.out⟩
          · have HE := Lib.hid (HST.out.trans (if_neg (fun h => d0 (by have := h.2; injection this))))
            have ch2 : (nd.h != x.h - 1) = false := by simpa using ch
            have ch3 : (nd.h == x.h - 1) = true := by simpa using ch
            have hne : (a0 == m0) = false := by simpa using d0
            clear ch d0
            go_wp2_with fail
            have hR := allocR_kids HC.out (e := 23) HE.out (by decide)
            go_ret2
            exact ⟨by rw [hR.1]; rfl, by rw [hR.2]; exact HA.out.below HB4.out, (KeepA.refl B w).below HB4.out⟩
        · have HE := Lib.hid (HST.out.trans (if_neg (fun h => ch h.1)))
          have ch2 : (nd.h != x.h - 1) = true := by simpa using ch
          have ch3 : (nd.h == x.h - 1) = false := by simpa using ch
          clear ch
          go_wp2_with fail
          have hR := allocR_kids HC.out (e := 23) HE.out (by decide)
          go_ret2
          exact ⟨by rw [hR.1]; rfl, by rw [hR.2]; exact HA.out.below HB4.out, (KeepA.refl B w).below HB4.out⟩
      · have hrun1 := fun (o : Obj) => look_no (r := B.r) (clock := clock) hents hin (wr.alloc o).drew (block_alloc hm o)
        have hrun2 := fun (o o' : Obj) => look_no (r := B.r) (clock := clock) hents hin ((wr.alloc o).alloc o').drew (block_alloc (block_alloc hm o) o')
        rw [lookI_none hin] at hst
        simp only at hst
        have HST := Lib.hid hst
        unfold zN at hrun1 hrun2
        (have q0 := block_cell hp 0; have q1 := block_cell hp 1; have q2 := block_cell hp 2; have q3 := block_cell hp 3; have q4 := block_cell hp 4; have q5 := block_cell hp 5; have f0 := block_free hp 0; have f1 := block_free hp 1; have f2 := block_free hp 2; have f3 := block_free hp 3; have f4 := block_free hp 4; have f5 := block_free hp 5; have hz := block_lt hp; simp at q0 q1 q2 q3 q4 q5)
        (have q0 := block_cell hbx 0; have q1 := block_cell hbx 1; have q2 := block_cell hbx 2; have f0 := block_free hbx 0; have f1 := block_free hbx 1; have f2 := block_free hbx 2; have hz := block_lt hbx; simp at q0 q1 q2)
        clear hp hbx hcell hke hbr har hm hents hin hst
        go_wp2_with fail
        go_region
        go_wp2_with fail
        have hR := allocR_kids HC.out (e := 10) HST.out (by decide)
        go_ret2
        exact ⟨by rw [hR.1]; rfl, by rw [hR.2]; exact HA.out.below (((HBR.out.alloc HBR.out.size (.cells #[.int .u64 kat, .int .i64 m0, .int .i64 m1, .int .i64 m2] 64)).alloc (Nat.le_trans HBR.out.size (by simp)) (.cells #[.int .i64 0, .string ⟨#[]⟩, .slice none 0 0] 36)).drew), (KeepA.refl B w).below (((HBR.out.alloc HBR.out.size (.cells #[.int .u64 kat, .int .i64 m0, .int .i64 m1, .int .i64 m2] 64)).alloc (Nat.le_trans HBR.out.size (by simp)) (.cells #[.int .i64 0, .string ⟨#[]⟩, .slice none 0 0] 36)).drew)⟩
    · obtain rfl : k = n := by omega
      have hz0 : kidsE A x.h x.kids = 0 := by rw [← hke, List.drop_eq_nil_of_le (by omega)]; rfl
      have hRT := allocR_take HC.out hz0
      have hP0 : ∀ q, B.own q → q < w.heap.size := fun q hq => HA.out.lt (.inl hq)
      have hnP : ¬ B.own w.heap.size := fun h => by have := hP0 _ h; omega
      have HNP := Lib.hid hnP
      have HKR := Lib.hid (HK.out.later hbr)
      have hta := take_any B.lb A.x wr har.2.1 HI.out.f
      have HK0 := Lib.hid ((KeepA.refl B w).below hbr)
      (have q0 := block_cell hp 0; have q1 := block_cell hp 1; have q2 := block_cell hp 2; have q3 := block_cell hp 3; have q4 := block_cell hp 4; have q5 := block_cell hp 5; have f0 := block_free hp 0; have f1 := block_free hp 1; have f2 := block_free hp 2; have f3 := block_free hp 3; have f4 := block_free hp 4; have f5 := block_free hp 5; have hz := block_lt hp; simp at q0 q1 q2 q3 q4 q5)
      (have q0 := block_cell hbx 0; have q1 := block_cell hbx 1; have q2 := block_cell hbx 2; have f0 := block_free hbx 0; have f1 := block_free hbx 1; have f2 := block_free hbx 2; have hz := block_lt hbx; simp at q0 q1 q2)
      rcases take_two A.x HI.out.f with ⟨hm0, htr, hts⟩ | ⟨hm0, htr, hts, hth⟩
      · rw [htr] at hRT
        have hSA : allocS A x = A := by unfold allocS; rw [hRT]; exact if_pos (by decide)
        have HRT := Lib.hid hRT
        have HSA := Lib.hid hSA
        rw [htr, hts] at hta
        have HTA := Lib.hid hta
        clear hta htr hts hm0 hRT hSA hz0 hP0 hnP har hp hbx hbr hke
        go_wp2_with fail
        refine HTA.out.mono ?_; rintro e w2 ⟨rfl, t1, k1⟩
        have HA2 := Lib.hid (HAR.out.list k1 t1 rfl)
        have HK2 := Lib.hid (HK0.out.trans (KeepA.of_list k1))
        clear t1 k1
        go_wp2_with fail
        go_ret2
        exact ⟨by rw [HRT.out]; rfl, by rw [HSA.out]; exact HA2.out, HK2.out⟩
      · have HFR := Lib.hid (fresh_key HI.out hm0)
        rw [htr] at hRT
        have hSA : allocS A x = { A with x := takeL A.x, it := A.it ++ [(hMk (A.x.sk (A.x.m - 1)) (A.x.gn (A.x.sk (A.x.m - 1))), x)], al := A.al + 1 } := by unfold allocS; rw [hRT]; exact if_neg (fun h => h rfl)
        have HRT := Lib.hid hRT
        have HSA := Lib.hid hSA
        rw [htr, hts] at hta
        have HTA := Lib.hid hta
        clear hta htr hts hm0 hRT hSA hz0 hP0 hnP har hp hbx hbr hke hth
        generalize hMk (A.x.sk (A.x.m - 1)) (A.x.gn (A.x.sk (A.x.m - 1))) = th at *
        go_wp2_with fail
        refine HTA.out.mono ?_; rintro e w2 ⟨rfl, t1, k1⟩
        have HA2 := Lib.hid (HAR.out.list k1 t1 rfl)
        have HK2 := Lib.hid (HK0.out.trans (KeepA.of_list k1))
        have hIK := HKR.out.same (w' := w2) (fun b o e hn => by
          obtain ⟨a1, a2, a3, a4⟩ := list_own (HSEP.out b o e hn)
          subst e
          exact k1.2 b (HKR.out.lt hn) a1 a2 a3 a4)
        have hX2 : w2.heap[w.heap.size]? = some (.cells #[.int .i64 x.h, .string x.text, .slice ao k c] 36 (0, 0)) := by
          obtain ⟨a1, a2, a3, a4⟩ := list_own HNP.out
          exact (k1.2 _ (block_lt HXR.out) a1 a2 a3 a4).trans HXR.out
        have HIK := Lib.hid hIK
        have HX2 := Lib.hid hX2
        have hn32 : k * 32 ≤ 140737488351232 := by omega
        clear q0 q1 q2 q3 q4 q5 f0 f1 f2 f3 f4 f5 hz hIK t1 k1
        (have q0 := block_cell hX2 0; have q1 := block_cell hX2 1; have q2 := block_cell hX2 2; have f0 := block_free hX2 0; have f1 := block_free hX2 1; have f2 := block_free hX2 2; have hz := block_lt hX2; simp at q0 q1 q2)
        clear hX2
        go_wp2_with fail
        refine (clone_any x.kids ao k c w2 HIK.out HNO.out hn32).mono ?_; rintro e w3 ⟨v', rfl, ho, hb⟩
        obtain ⟨ao', cap', rfl, -, -, -⟩ := ho.ks
        have hX3 := block_below hb HX2.out (block_lt HX2.out)
        have HX3 := Lib.hid hX3
        have HA3 := Lib.hid (HA2.out.below hb)
        have HK3 := Lib.hid (HK2.out.below hb)
        have HP0 := Lib.hid (block_lt HX2.out)
        have HO3 := Lib.hid ho
        have HA4 := Lib.hid (show IsA (w3.setCell ⟨w.heap.size, 2, none⟩ (.slice ao' k cap')) B { A with x := takeL A.x } from HA3.out.keep (fun q hq => Below.heap_setCell _ _ _ _ (fun e => by
          have e' : q = w.heap.size := e
          rcases hq with hq | ⟨cur, hc⟩
          · exact HNP.out (by rw [← e']; exact hq)
          · rw [e', HX3.out] at hc
            injection hc with hc
            injection hc with _ hc
            revert hc
            decide)))
        have HK4 := Lib.hid (show KeepA B w (w3.setCell ⟨w.heap.size, 2, none⟩ (.slice ao' k cap')) from HK3.out.trans0 HNP.out _ _)
        have HN4 := Lib.hid (show OwnN 0 (w3.setCell ⟨w.heap.size, 2, none⟩ (.slice ao' k cap')) (.agg #[.int .i64 x.h, .string x.text, .slice ao' k cap']) x from ⟨_, rfl, by rw [hkl]; exact (HO3.out.setCell HP0.out _).le (Nat.zero_le _)⟩)
        obtain ⟨es, clock, hm, hents⟩ := HA4.out.2.2
        have hupd := upd_new (r := B.r) (clock := clock) hents HFR.out (.agg #[.int .i64 x.h, .string x.text, .slice ao' k cap'])
        have hupd1 := hupd (w3.setCell ⟨w.heap.size, 2, none⟩ (.slice ao' k cap')).drew hm
        have HA5 := Lib.hid (IsA.map (show IsA (w3.setCell ⟨w.heap.size, 2, none⟩ (.slice ao' k cap')).drew B { A with x := takeL A.x } from HA4.out.keep fun _ _ => rfl) (clock' := clock + 1) (ents_push (clock := clock) (Ents.keep hents fun _ _ => rfl) (k := th) (ownN_keep HN4.out fun _ _ => rfl)))
        have hp4 := HA4.out.1
        have hX4 := block_setCell HX3.out 2 (.slice ao' k cap')
        clear q0 q1 q2 f0 f1 f2 hz ho hb hupd
        (have q0 := block_cell hX3 0; have q1 := block_cell hX3 1; have q2 := block_cell hX3 2; have f0 := block_free hX3 0; have f1 := block_free hX3 1; have f2 := block_free hX3 2; have hz := block_lt hX3; simp at q0 q1 q2)
        (have q0 := block_cell hp4 0; have q1 := block_cell hp4 1; have q2 := block_cell hp4 2; have q3 := block_cell hp4 3; have q4 := block_cell hp4 4; have q5 := block_cell hp4 5; have f0 := block_free hp4 0; have f1 := block_free hp4 1; have f2 := block_free hp4 2; have f3 := block_free hp4 3; have f4 := block_free hp4 4; have f5 := block_free hp4 5; have hz := block_lt hp4; simp at q0 q1 q2 q3 q4 q5)
        have HP4 := Lib.hid hp4
        have HX4 := Lib.hid hX4
        have hp5 := HA5.out.1
        (have q0 := block_cell hp5 0; have q1 := block_cell hp5 1; have q2 := block_cell hp5 2; have q3 := block_cell hp5 3; have q4 := block_cell hp5 4; have q5 := block_cell hp5 5; have f0 := block_free hp5 0; have f1 := block_free hp5 1; have f2 := block_free hp5 2; have f3 := block_free hp5 3; have f4 := block_free hp5 4; have f5 := block_free hp5 5; have hz := block_lt hp5; simp at q0 q1 q2 q3 q4 q5)
        clear hX3 hp4 hX4 hents hp5
        go_wp2_with fail
        go_region
        go_wp2_with fail
        go_ret2
        exact ⟨by rw [HRT.out]; rfl, by rw [HSA.out]; exact HA5.out.count 3 _ rfl rfl rfl, ((HK4.out.drewN 1).setB _).set (own_p B) _ _⟩
end Go.Proofs.Ytfgkbnnojogjpaa
