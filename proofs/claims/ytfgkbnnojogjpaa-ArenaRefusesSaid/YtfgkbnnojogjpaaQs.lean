/- The arena: the law ArenaRefuses. -/
import Derived.Test.YtfgkbnnojogjpaaQq
import Derived.Deep.QuietTactic
import Derived.BigQuiet
import Derived.BigRegion
namespace Go.Proofs.Ytfgkbnnojogjpaa
open Go.RowKit
set_option linter.unusedVariables false

theorem newA_at2 (a : Nat) (ha : a < 12) (w : World) :
    Calls Try.prog 10 #[.int .i64 (1 + (a : Int)), .int .u64 2] w fun e w' => ∃ B : PB, e = .returned (.tuple #[.pointer (some ⟨B.p, 0, none⟩), .int .i64 0]) ∧ SoloA w w' B (newA (a + 1) 2) := by
  have := newA_ok (a + 1) 2 w (by omega) (by omega) (by omega) (by omega)
  rw [show ((a + 1 : Nat) : Int) = 1 + (a : Int) by omega] at this
  exact this.mono fun e w' h => h.solo (by omega) (by omega) (by omega) (by omega)

def fitsP (A : AS) (x : Nd) : Prop := checkN x = 0 ∧ kidsE A x.h x.kids = 0
theorem allocR_fit {A : AS} {x : Nd} (h : fitsP A x) : allocR A x = takeR A.x := allocR_take h.1 h.2
theorem kidsE_vals (A : AS) (h : Int) : ∀ l, kidsE A h l = 0 ∨ kidsE A h l = 10 ∨ kidsE A h l = 23
  | [] => .inl rfl
  | k :: ks => by
    unfold kidsE
    split
    · exact .inr (.inl rfl)
    · split
      · exact kidsE_vals A h ks
      · exact .inr (.inr rfl)
theorem allocR_nofit {A : AS} {x : Nd} (h : ¬ fitsP A x) : ∃ e, allocR A x = (0, e) ∧ e ≠ 0 ∧ e ≠ 6 ∧ allocS A x = A := by
  by_cases h1 : checkN x = 0
  · have h2 : kidsE A x.h x.kids ≠ 0 := fun e => h ⟨h1, e⟩
    have := allocR_kids h1 rfl h2
    refine ⟨_, this.1, h2, ?_, this.2⟩
    rcases kidsE_vals A x.h x.kids with e | e | e <;> rw [e] <;> decide
  · have e : allocR A x = (0, checkN x) := by unfold allocR; rw [if_pos h1]
    refine ⟨_, e, h1, ?_, allocS_no (by rw [e]; exact h1)⟩
    unfold checkN
    split
    · decide
    · split <;> decide
set_option maxRecDepth 100000 in
theorem alloc_live {A : AS} (hi : AInv A) {x : Nd} {k : Int} (he : allocR A x = (k, 0)) : liveL (allocS A x).x k ∧ (slotsTo (allocS A x).x 1 (allocS A x).x.n).length = (slotsTo A.x 1 A.x.n).length + 1 ∧ 0 < A.x.m ∧ 0 ≤ k ∧ k ≤ 18446744073709551615 := by
  obtain ⟨-, -, hm, e, hS⟩ := takeR_two hi (x := x) (by rw [he])
  rw [he] at e
  have e : k = hMk (A.x.sk (A.x.m - 1)) (A.x.gn (A.x.sk (A.x.m - 1))) := e
  refine ⟨?_, ?_, by omega, ?_⟩
  · rw [hS]
    exact (live_take hi.f hm k).2 (.inr e)
  · have h1 := (allocS_inv hi x).len
    rw [← h1, ← hi.len, hS]
    simp
  · rw [e]
    exact hMk_le (mkOK_of hi.f (hi.f.lo (A.x.m - 1) (by omega)).1)
theorem plainH : Plain 31 := ⟨by decide, by decide, by decide, by decide, by decide, by decide, by decide⟩
theorem Rs.turn {w w' : World} {b0 : Nat} {t : TypeId} {v : Value} {n : Nat} {f : Nat → Value} (h : Rs w b0 t v n f) {B : PB} {A : AS} (ha : IsA w B A) (k : KeepA B w w') (ht : Plain t) : Rs w' b0 t v n f := by
  obtain ⟨ao, c, rfl, h⟩ := h
  refine ⟨ao, c, rfl, fun hn => ?_⟩
  obtain ⟨b, cap, e, hB, har⟩ := h hn
  obtain ⟨cur, hc, hrest⟩ := har
  exact ⟨b, cap, e, hB, cur, (k.2 b (block_lt hc) (ha.nownP hc ht)).trans hc, hrest⟩
theorem box_turn {w w' : World} {B : PB} {A : AS} (ha : IsA w B A) (k : KeepA B w w') {S : Nat} {cs : Array Value} {T : TypeId} (hc : w.heap[S]? = some (.cells cs T (0, 0))) (hT : Plain T) : w'.heap[S]? = some (.cells cs T (0, 0)) := (k.2 S (block_lt hc) (ha.nownP hc hT)).trans hc
def HsR (B : Nat) (x : FL) (n : Nat) (v : Value) (u : World) : Prop := Rs u B 31 v n (fun i => encH x ((slotsTo x 1 x.n).getD i 0))
theorem Stab_hs (B : Nat) (x : FL) (n : Nat) : Stab (HsR B x n) := fun _ _ _ h hb => h.keep hb (Nat.le_refl _)
theorem Rs.far {w : World} {b0 : Nat} {t : TypeId} {v : Value} {n : Nat} {f : Nat → Value} (h : Rs w b0 t v n f) {S i : Nat} {cs : Array Value} {T : TypeId} (hc : w.heap[S]? = some (.cells cs T (0, 0))) (hT : T ≠ t) (x : Value) : Rs (w.setCell ⟨S, i, none⟩ x) b0 t v n f := by
  obtain ⟨ao, c, rfl, h⟩ := h
  refine ⟨ao, c, rfl, fun hn => ?_⟩
  obtain ⟨b, cap, e, hB, har⟩ := h hn
  obtain ⟨cur, hcur, hrest⟩ := har
  refine ⟨b, cap, e, hB, cur, (Below.heap_setCell _ _ _ _ (fun e2 => ?_)).trans hcur, hrest⟩
  have e3 : b = S := e2
  rw [e3, hc] at hcur
  injection hcur with hcur; injection hcur with _ hcur; exact hT hcur
theorem stats_st {A : AS} {n m il wd : Int} (h : stats A = .agg #[.int .i64 n, .int .i64 m, .int .i64 il, .int .i64 wd, .int .i64 A.al, .int .i64 A.fr, .int .i64 A.st]) : stats { A with st := A.st + 1 + 1 } = .agg #[.int .i64 n, .int .i64 m, .int .i64 il, .int .i64 wd, .int .i64 A.al, .int .i64 A.fr, .int .i64 ((A.st : Int) + 2)] := by
  unfold stats at h ⊢
  simp at h ⊢
  refine ⟨h.1, h.2.1, h.2.2.1, h.2.2.2, ?_⟩
  omega
theorem statsV {w0 w : World} {B : PB} {A : AS} (h : SoloA w0 w B A) : ∃ n m il wd : Nat, stats A = .agg #[.int .i64 n, .int .i64 m, .int .i64 il, .int .i64 wd, .int .i64 A.al, .int .i64 A.fr, .int .i64 A.st] ∧ A.x.n = n ∧ A.x.m = m ∧ (slotsTo A.x 1 A.x.n).length = il ∧ (slotsTo A.x 2 A.x.n).length = wd ∧ n ≤ 16384 ∧ il ≤ 16384 := by
  have h1 := parts_n h.inv.f
  have h2 := h.inv.f.n2
  refine ⟨_, _, _, _, ?_, rfl, rfl, rfl, rfl, h2, by omega⟩
  unfold stats
  rw [h.inv.len]

set_option maxRecDepth 100000 in
set_option maxHeartbeats 16000000 in
theorem refuses_any (n : Int) (ao0 : Option Addr) (len cap : Nat) (l : List De) (X : Nd) (xa : Option Addr) (xc : Nat) (m : Int) (w : World) (hr : Deeds w ao0 len l) (hxk : KsOK w.heap.size w xa X.kids.length xc X.kids) (hm : 0 ≤ m ∧ m ≤ 18446744073709551615) (hlen : len ≤ 9223372036854775807) :
    Calls Try.prog 9 #[.int .i64 n, .slice ao0 len cap, .agg #[.int .i64 X.h, .string X.text, .slice xa X.kids.length xc, .int .u64 m]] w fun e w' => e = .returned (.bool true) ∧ Below w.heap.size w w' := by
  obtain ⟨i0, hi, hz0, hz1, hz2⟩ := info_parts infoKn
  obtain ⟨a, ha, hna⟩ := mod_nat n 12 (by decide)
  have M1 := Lib.hid (mod13_as n 12 a (by decide) (by decide) hna)
  have NA := Lib.hid (newA_at2 a ha)
  have HR := Lib.hid hr
  have HXK := Lib.hid hxk
  have HM := Lib.hid hm
  have ha1 : (a : Int) < 12 := by omega
  have hb2 := (((Below.refl w.heap.size w).alloc (Nat.le_refl _) (.cells #[.int .i64 X.h, .string X.text, .slice xa X.kids.length xc, .int .u64 m] 80)).alloc (by simp) (.cells #[.int .i64 X.h, .string X.text, .slice xa X.kids.length xc] 36)).drew
  have HB2 := Lib.hid hb2
  have HX0 := Lib.hid (block_new' (w.alloc (.cells #[.int .i64 X.h, .string X.text, .slice xa X.kids.length xc, .int .u64 m] 80)) (.cells #[.int .i64 X.h, .string X.text, .slice xa X.kids.length xc] 36) (w.heap.size + 1) (by simp))
  clear hna hr hxk hm hb2
  go_enter Try.func9, Try.ntmps9
  go_wp2_with fail
  go_region
  go_wp2_with fail
  refine (M1.out _).mono ?_; rintro e w1 ⟨rfl, rfl⟩
  go_wp2_with fail
  refine (NA.out _).mono ?_; rintro e w1 ⟨B, rfl, hs⟩
  have hs2 : SoloA w w1 B (newA (a + 1) 2) := ⟨hs.is, hs.inv, hs.cnt, fun q hq => Nat.le_trans HB2.out.size (hs.ge q hq), below_two HB2.out hs.low⟩
  have HS1 := Lib.hid (⟨hs2, AllK.nil _ _⟩ : St w w1 B (newA (a + 1) 2) (.slice none 0 0) [])
  have HX1 := Lib.hid (block_below hs.low HX0.out (by simp))
  clear hs hs2 M1 NA HX0 HB2
  go_wp2_with fail
  go_loopw [11, 12] (fun v i wr => ∃ (k : Nat) (A : AS) (L : List Kn), k ≤ len ∧ k ≤ 30 ∧ i = .int .i64 k ∧ St w wr B A v L ∧ L.length ≤ k ∧ A.st ≤ k ∧ wr.heap[w.heap.size + 1]? = some (.cells #[.int .i64 X.h, .string X.text, .slice xa X.kids.length xc] 36 (0, 0))) (fun _ i _ => len - (intOf i).toNat)
  case atStart => exact ⟨0, _, [], Nat.zero_le _, Nat.zero_le _, rfl, HS1.out, Nat.le_refl _, Nat.le_refl _, HX1.out⟩
  case round =>
    obtain ⟨k, A, L, hk, hk30, rfl, hst, hll, hsk, hx⟩ := hrel
    have HST := Lib.hid hst
    have HX := Lib.hid hx
    clear hst hx HS1 HX1
    by_cases hlt : k < len ∧ k < 30
    · obtain ⟨hlt, hlt30⟩ := hlt
      have hk1 : (k : Int) < (len : Int) := by omega
      have hk2 : (k : Int) < 30 := by omega
      obtain ⟨bb, off, d, rfl, hdo, e0, e1, e2, e3, e4, e5, e6, -, -⟩ := HR.out.cell HST.out.s.low hlt
      have hp := play_any w B A L u11 d wr HST.out.s hdo HST.out.a (by omega) (by omega)
      clear hdo
      have h6 := play6 HST.out.s.inv L d
      rcases h6 with ⟨h, x, hr, -, hpf, -, hck, -, hh⟩ | ⟨x, e, hr, he, hS, -⟩ | ⟨h, -, -, hr, -, hpf, -⟩ | ⟨h, -, -, hr, hS, -⟩ | ⟨h, -, -, hr, hS, -⟩ | ⟨h, -, -, hr, hS, -⟩
      · rw [hr] at hp
        unfold PlayR at hp
        simp only at hp
        obtain ⟨A', hA'⟩ : ∃ A', A' = playS A L d := ⟨_, rfl⟩
        rw [← hA'] at hp hpf
        clear hA' hr
        have HP := Lib.hid hp
        have HPF := Lib.hid hpf
        clear hp hpf
        have HCK := Lib.hid hck
        have HH := Lib.hid hh
        clear hck hh
        go_wp2_with fail
        refine (HP.out).mono ?_; rintro e w2 ⟨ao, c2, rfl, hks, hs2, hk2⟩
        have HX2 := Lib.hid (block_alloc ((hk2.2 _ (block_lt HX.out) (HST.out.s.is.nownP HX.out plainN)).trans HX.out) (.cells #[.int .i64 x.h, .string x.text, .slice ao x.kids.length c2] 36))
        have HS2 := Lib.hid ((HST.out.turn hk2 hs2).alloc (.cells #[.int .i64 x.h, .string x.text, .slice ao x.kids.length c2] 36))
        have HK2 := Lib.hid ((hks.later ((Below.refl _ _).alloc (Nat.le_refl _) (.cells #[.int .i64 x.h, .string x.text, .slice ao x.kids.length c2] 36))).later ((Below.refl _ _).alloc (Nat.le_refl _) (.cells #[.int .u64 h, .int .i64 x.h, .string x.text, .slice ao x.kids.length c2] 50)))
        have hn2 := block_new w2 (.cells #[.int .i64 x.h, .string x.text, .slice ao x.kids.length c2] 36)
        have HN3 := Lib.hid (block_new' (w2.alloc (.cells #[.int .i64 x.h, .string x.text, .slice ao x.kids.length c2] 36)) (.cells #[.int .u64 h, .int .i64 x.h, .string x.text, .slice ao x.kids.length c2] 50) (w2.heap.size + 1) (by simp))
        have HSW := Lib.hid (HS2.out.alloc (.cells #[.int .u64 h, .int .i64 x.h, .string x.text, .slice ao x.kids.length c2] 50))
        have HXW := Lib.hid (block_alloc HX2.out (.cells #[.int .u64 h, .int .i64 x.h, .string x.text, .slice ao x.kids.length c2] 50))
        have HZW := Lib.hid (show w.heap.size ≤ ((w2.alloc (.cells #[.int .i64 x.h, .string x.text, .slice ao x.kids.length c2] 36)).alloc (.cells #[.int .u64 h, .int .i64 x.h, .string x.text, .slice ao x.kids.length c2] 50)).heap.size from HSW.out.s.low.size)
        (have q0 := block_cell hn2 0; have q1 := block_cell hn2 1; have q2 := block_cell hn2 2; have f0 := block_free hn2 0; have f1 := block_free hn2 1; have f2 := block_free hn2 2; have hz := block_lt hn2; simp at q0 q1 q2)
        clear hn2 HX2 HS2
        clear hks hs2 hk2 HP
        go_wp2_with (at_builtin; refine wpList_append_own _ rfl _ _ 43 rfl w.heap.size 50 i0 (.agg #[.int .u64 0, .int .i64 0, .string ⟨#[]⟩, .slice none 0 0]) 4 56 Try.underlying43 hi hz0 hz1 hz2 rfl (by decide) _ L.length (flatR fKn L) rfl HSW.out.a.1 ⟨w2.heap.size + 1, 0, none⟩ 1 _ (flatR fKn [⟨h, x, ao, c2⟩]) rfl rfl (newsKn (k := ⟨h, x, ao, c2⟩) HN3.out) (fKn_one _) ?c3 ?c4 ?c5 ?_)
        case c3 => unfold maxLen; omega
        case c4 => omega
        case c5 => have := HZW.out; simpa using this
        intro v' wz hown hgrow _
        have HSZ := Lib.hid (HSW.out.grow (k := ⟨h, x, ao, c2⟩) hgrow hown (KnOK.mk HK2.out HCK.out HH.out))
        have HXZ := Lib.hid (HSW.out.far hgrow HXW.out plainN.n7)
        clear hown hgrow HSW HXW HN3 HK2 HZW q0 q1 q2 f0 f1 f2 hz
        go_wp2_with fail
        go_roundw
        case rel => exact ⟨k + 1, A', L ++ [⟨h, x, ao, c2⟩], by omega, by omega, by go_num, HSZ.out, by rw [List.length_append]; simp; omega, by have := HPF.out.st; omega, HXZ.out⟩
        case measure => simp [intOf]; omega
      · have he1 : (e == 0) = false := by simpa using he
        have hpf : PF A (playS A L d) 0 0 0 := by rw [hS]; exact PF.refl A
        clear hS
        rw [hr] at hp
        unfold PlayR at hp
        simp only at hp
        obtain ⟨A', hA'⟩ : ∃ A', A' = playS A L d := ⟨_, rfl⟩
        rw [← hA'] at hp hpf
        clear hA' hr
        have HP := Lib.hid hp
        have HPF := Lib.hid hpf
        clear hp hpf he
        go_wp2_with fail
        refine (HP.out).mono ?_; rintro e w2 ⟨ao, c2, rfl, hks, hs2, hk2⟩
        have HX2 := Lib.hid (block_alloc ((hk2.2 _ (block_lt HX.out) (HST.out.s.is.nownP HX.out plainN)).trans HX.out) (.cells #[.int .i64 x.h, .string x.text, .slice ao x.kids.length c2] 36))
        have HS2 := Lib.hid ((HST.out.turn hk2 hs2).alloc (.cells #[.int .i64 x.h, .string x.text, .slice ao x.kids.length c2] 36))
        clear hks hs2 hk2 HP
        go_wp2_with fail
        have HSZ := HS2
        have HXZ := HX2
        clear HS2 HX2
        generalize w2.alloc (.cells #[.int .i64 x.h, .string x.text, .slice ao x.kids.length c2] 36) = wz at *
        go_roundw
        case rel => exact ⟨k + 1, A', L, by omega, by omega, by go_num, HSZ.out, by omega, by have := HPF.out.st; omega, HXZ.out⟩
        case measure => simp [intOf]; omega
      · rw [hr] at hp
        unfold PlayR at hp
        simp only at hp
        obtain ⟨A', hA'⟩ : ∃ A', A' = playS A L d := ⟨_, rfl⟩
        rw [← hA'] at hp hpf
        clear hA' hr
        have HP := Lib.hid hp
        have HPF := Lib.hid hpf
        clear hp hpf
        unfold noN at HP
        simp only [List.length_nil] at HP
        go_wp2_with fail
        refine (HP.out).mono ?_; rintro e w2 ⟨ao, c2, rfl, hks, hs2, hk2⟩
        have HX2 := Lib.hid (block_alloc ((hk2.2 _ (block_lt HX.out) (HST.out.s.is.nownP HX.out plainN)).trans HX.out) (.cells #[.int .i64 0, .string ⟨#[]⟩, .slice ao 0 c2] 36))
        have HS2 := Lib.hid ((HST.out.turn hk2 hs2).alloc (.cells #[.int .i64 0, .string ⟨#[]⟩, .slice ao 0 c2] 36))
        clear hks hs2 hk2 HP
        go_wp2_with fail
        have HSZ := HS2
        have HXZ := HX2
        clear HS2 HX2
        generalize w2.alloc (.cells #[.int .i64 0, .string ⟨#[]⟩, .slice ao 0 c2] 36) = wz at *
        go_roundw
        case rel => exact ⟨k + 1, A', L, by omega, by omega, by go_num, HSZ.out, by omega, by have := HPF.out.st; omega, HXZ.out⟩
        case measure => simp [intOf]; omega
      · have hpf : PF A (playS A L d) 0 0 1 := by rw [hS]; exact ⟨rfl, rfl, rfl, rfl, rfl⟩
        clear hS
        rw [hr] at hp
        unfold PlayR at hp
        simp only at hp
        obtain ⟨A', hA'⟩ : ∃ A', A' = playS A L d := ⟨_, rfl⟩
        rw [← hA'] at hp hpf
        clear hA' hr
        have HP := Lib.hid hp
        have HPF := Lib.hid hpf
        clear hp hpf
        unfold noN at HP
        simp only [List.length_nil] at HP
        go_wp2_with fail
        refine (HP.out).mono ?_; rintro e w2 ⟨ao, c2, rfl, hks, hs2, hk2⟩
        have HX2 := Lib.hid (block_alloc ((hk2.2 _ (block_lt HX.out) (HST.out.s.is.nownP HX.out plainN)).trans HX.out) (.cells #[.int .i64 0, .string ⟨#[]⟩, .slice ao 0 c2] 36))
        have HS2 := Lib.hid ((HST.out.turn hk2 hs2).alloc (.cells #[.int .i64 0, .string ⟨#[]⟩, .slice ao 0 c2] 36))
        clear hks hs2 hk2 HP
        go_wp2_with fail
        have HSZ := HS2
        have HXZ := HX2
        clear HS2 HX2
        generalize w2.alloc (.cells #[.int .i64 0, .string ⟨#[]⟩, .slice ao 0 c2] 36) = wz at *
        go_roundw
        case rel => exact ⟨k + 1, A', L, by omega, by omega, by go_num, HSZ.out, by omega, by have := HPF.out.st; omega, HXZ.out⟩
        case measure => simp [intOf]; omega
      · have hpf : PF A (playS A L d) 0 0 0 := by rw [hS]; exact PF.refl A
        clear hS
        rw [hr] at hp
        unfold PlayR at hp
        simp only at hp
        obtain ⟨A', hA'⟩ : ∃ A', A' = playS A L d := ⟨_, rfl⟩
        rw [← hA'] at hp hpf
        clear hA' hr
        have HP := Lib.hid hp
        have HPF := Lib.hid hpf
        clear hp hpf
        generalize nodeOf A h = xz at *
        go_wp2_with fail
        refine (HP.out).mono ?_; rintro e w2 ⟨ao, c2, rfl, hks, hs2, hk2⟩
        have HX2 := Lib.hid (block_alloc ((hk2.2 _ (block_lt HX.out) (HST.out.s.is.nownP HX.out plainN)).trans HX.out) (.cells #[.int .i64 xz.h, .string xz.text, .slice ao xz.kids.length c2] 36))
        have HS2 := Lib.hid ((HST.out.turn hk2 hs2).alloc (.cells #[.int .i64 xz.h, .string xz.text, .slice ao xz.kids.length c2] 36))
        clear hks hs2 hk2 HP
        go_wp2_with fail
        have HSZ := HS2
        have HXZ := HX2
        clear HS2 HX2
        generalize w2.alloc (.cells #[.int .i64 xz.h, .string xz.text, .slice ao xz.kids.length c2] 36) = wz at *
        go_roundw
        case rel => exact ⟨k + 1, A', L, by omega, by omega, by go_num, HSZ.out, by omega, by have := HPF.out.st; omega, HXZ.out⟩
        case measure => simp [intOf]; omega
      · have hpf : PF A (playS A L d) 0 0 1 := by rw [hS]; exact ⟨rfl, rfl, rfl, rfl, rfl⟩
        clear hS
        rw [hr] at hp
        unfold PlayR at hp
        simp only at hp
        obtain ⟨A', hA'⟩ : ∃ A', A' = playS A L d := ⟨_, rfl⟩
        rw [← hA'] at hp hpf
        clear hA' hr
        have HP := Lib.hid hp
        have HPF := Lib.hid hpf
        clear hp hpf
        unfold noN at HP
        simp only [List.length_nil] at HP
        go_wp2_with fail
        refine (HP.out).mono ?_; rintro e w2 ⟨ao, c2, rfl, hks, hs2, hk2⟩
        have HX2 := Lib.hid (block_alloc ((hk2.2 _ (block_lt HX.out) (HST.out.s.is.nownP HX.out plainN)).trans HX.out) (.cells #[.int .i64 0, .string ⟨#[]⟩, .slice ao 0 c2] 36))
        have HS2 := Lib.hid ((HST.out.turn hk2 hs2).alloc (.cells #[.int .i64 0, .string ⟨#[]⟩, .slice ao 0 c2] 36))
        clear hks hs2 hk2 HP
        go_wp2_with fail
        have HSZ := HS2
        have HXZ := HX2
        clear HS2 HX2
        generalize w2.alloc (.cells #[.int .i64 0, .string ⟨#[]⟩, .slice ao 0 c2] 36) = wz at *
        go_roundw
        case rel => exact ⟨k + 1, A', L, by omega, by omega, by go_num, HSZ.out, by omega, by have := HPF.out.st; omega, HXZ.out⟩
        case measure => simp [intOf]; omega
    · rcases (show (k < len ∧ ¬ (k : Int) < 30) ∨ k = len by omega) with ⟨hk1, hk2⟩ | rfl
      · have hk1 : (k : Int) < (len : Int) := by omega
        clear hlt
        obtain ⟨n0, mm, il, wd, hq, hn0, hmm, hil, hwd, hn16, hil16⟩ := statsV HST.out.s
        have HQ := Lib.hid hq
        have HMM := Lib.hid hmm
        have HIL := Lib.hid hil
        clear hq hn0 hmm hil hwd
        have hstb : A.st ≤ 1000 := by omega
        go_wp2_with fail
        refine (statsA_any B A wr HST.out.s.is HST.out.s.inv.f).mono ?_; rintro e w1 ⟨rfl, hb⟩
        have HS1 := Lib.hid (HST.out.s.below hb)
        have HX1 := Lib.hid (block_below hb HX.out (block_lt HX.out))
        have HSZ1 := Lib.hid hb.size
        clear hb HX
        rw [HQ.out]
        go_wp2_with fail
        refine (handlesA_any B A w1 HS1.out.is HS1.out.inv.f).mono ?_; rintro e w2 hh
        obtain ⟨vl, rfl, hfl, hb⟩ := hh.rs
        rw [HIL.out] at hfl
        obtain ⟨al, cl, rfl, -⟩ := id hfl
        have HS2 := Lib.hid ((HS1.out.below hb).below ((Below.refl _ _).alloc (Nat.le_refl _) (.cells #[.int .i64 (n0 : Nat), .int .i64 (mm : Nat), .int .i64 (il : Nat), .int .i64 (wd : Nat), .int .i64 A.al, .int .i64 A.fr, .int .i64 A.st] 38)))
        have HX2 := Lib.hid (block_alloc (block_below hb HX1.out (block_lt HX1.out)) (.cells #[.int .i64 (n0 : Nat), .int .i64 (mm : Nat), .int .i64 (il : Nat), .int .i64 (wd : Nat), .int .i64 A.al, .int .i64 A.fr, .int .i64 A.st] 38))
        have HSZ2 := Lib.hid hb.size
        have HXB := Lib.hid (block_below hb HX1.out (block_lt HX1.out))
        have HL2 := Lib.hid (show Rs (w2.alloc (.cells #[.int .i64 (n0 : Nat), .int .i64 (mm : Nat), .int .i64 (il : Nat), .int .i64 (wd : Nat), .int .i64 A.al, .int .i64 A.fr, .int .i64 A.st] 38)) w1.heap.size 31 (.slice al il cl) il _ from hfl.keep ((Below.refl _ _).alloc (Nat.le_refl _) (.cells #[.int .i64 (n0 : Nat), .int .i64 (mm : Nat), .int .i64 (il : Nat), .int .i64 (wd : Nat), .int .i64 A.al, .int .i64 A.fr, .int .i64 A.st] 38)) (Nat.le_refl _))
        have HC2 := Lib.hid (block_new w2 (.cells #[.int .i64 (n0 : Nat), .int .i64 (mm : Nat), .int .i64 (il : Nat), .int .i64 (wd : Nat), .int .i64 A.al, .int .i64 A.fr, .int .i64 A.st] 38))
        clear hb hh hfl HS1 HX1
        have HKX := Lib.hid (HXK.out.later HS2.out.low)
        have HSB := Lib.hid (show w.heap.size ≤ w2.heap.size from Nat.le_trans HST.out.s.low.size (Nat.le_trans HSZ1.out HSZ2.out))
        have hx2 := HXB.out
        (have q0 := block_cell hx2 0; have q1 := block_cell hx2 1; have q2 := block_cell hx2 2; have f0 := block_free hx2 0; have f1 := block_free hx2 1; have f2 := block_free hx2 2; have hz := block_lt hx2; simp at q0 q1 q2)
        clear hx2 HXB
        go_wp2_with fail
        refine (check_any X xa X.kids.length xc _ HKX.out.1).mono ?_; rintro e w4 ⟨rfl, hb⟩
        obtain ⟨Sb, hSb⟩ : ∃ Sb, Sb = w2.heap.size := ⟨_, rfl⟩
        rw [← hSb] at HC2 HSB
        have HS4 := Lib.hid (HS2.out.below hb)
        have HX4 := Lib.hid (block_below hb HX2.out (block_lt HX2.out))
        have HL4 := Lib.hid (show Rs w4 w1.heap.size 31 (.slice al il cl) il _ from HL2.out.keep hb (Nat.le_refl _))
        have HC4 := Lib.hid (block_below hb HC2.out (block_lt HC2.out))
        have HKX4 := Lib.hid (HKX.out.later hb)
        rw [← hSb]
        clear hb hSb HS2 HX2 HL2 HC2 HKX HST q0 q1 q2 f0 f1 f2 hz
        go_wp2_with fail
        go_loopw [19, 20] (fun s19 s20 wr2 => ∃ (i : Nat) (b : Bool), i ≤ X.kids.length ∧ s20 = .int .i64 i ∧ s19 = .bool b ∧ (b = true → checkN X = 0 ∧ kidsE A X.h (X.kids.drop i) = kidsE A X.h X.kids) ∧ (b = false → ¬ fitsP A X) ∧ Below w4.heap.size w4 wr2) (fun _ s20 _ => X.kids.length - (intOf s20).toNat)
        case atStart => exact ⟨0, checkN X == 0, Nat.zero_le _, rfl, rfl, fun h => ⟨by simpa using h, rfl⟩, (fun h hf => by rw [hf.1] at h; cases h), Below.refl _ _⟩
        case round =>
          obtain ⟨i, b, hin, rfl, rfl, ht, hf, hbr⟩ := hrel
          have HT := Lib.hid ht
          have HF := Lib.hid hf
          have HS := Lib.hid (HS4.out.below hbr)
          have HX := Lib.hid (block_below hbr HX4.out (block_lt HX4.out))
          have HL := Lib.hid (show Rs wr w1.heap.size 31 (.slice al il cl) il _ from HL4.out.keep hbr (Nat.le_refl _))
          have HC := Lib.hid (block_below hbr HC4.out (block_lt HC4.out))
          have HKX := Lib.hid (HKX4.out.later hbr)
          have HBR := Lib.hid hbr
          have hx2 := HX.out
          (have q0 := block_cell hx2 0; have q1 := block_cell hx2 1; have q2 := block_cell hx2 2; have f0 := block_free hx2 0; have f1 := block_free hx2 1; have f2 := block_free hx2 2; have hz := block_lt hx2; simp at q0 q1 q2)
          clear ht hf hbr hx2
          by_cases hlt2 : i < X.kids.length
          · have hj1 : (i : Int) < (X.kids.length : Int) := by omega
            cases b with
            | true =>
              obtain ⟨hck, hke⟩ := HT.out rfl
              have HCK := Lib.hid hck
              have hxb := height_in hck (by omega)
              have hk4 := kids4 hck
              have hst := kidsE_step (A := A) (h := X.h) hlt2
              rw [hke] at hst
              have HKE := Lib.hid hke
              have HUR := Lib.hid (HKX.out.1.2.1 _ (List.getElem_mem hlt2))
              obtain ⟨bb2, off2, rfl, hcell⟩ := HKX.out.1.2.2 (by omega)
              have hbb := cellK_lt (hcell i hlt2)
              obtain ⟨e0, e1, e2, e3⟩ := hcell i hlt2
              have HST := Lib.hid hst
              clear hst hck hke hcell
              generalize X.kids[i] = kd at *
              obtain ⟨kat, m0, m1, m2⟩ := kd
              simp only at e0 e1 e2 e3
              by_cases hlv : liveL A.x kat
              · obtain ⟨hmem, hlk⟩ := nodeOf_live HS.out.inv hlv
                have HOK := Lib.hid (HS.out.inv.ok _ hmem)
                have hst := HST.out
                simp only at hst
                rw [hlk] at hst
                simp only at hst
                have HST2 := Lib.hid hst
                have HLV := Lib.hid hlv
                have HGT := Lib.hid (fun n => getA_live B A kat (wr.drewN n) (HS.out.is.drewN n) HS.out.inv hlv)
                clear hst hmem hlk hlv HST
                simp only at HOK HST2
                generalize nodeOf A kat = nd at *
                go_wp2_with fail
                refine (liveA_yes B A kat wr HUR.out HS.out.is HLV.out).mono ?_; rintro e w5 ⟨rfl, n1, rfl⟩
                go_wp2_with fail
                refine (HGT.out n1).mono ?_; rintro e w6 ⟨v, rfl, hown, hb6⟩
                obtain ⟨sl, rfl, hks⟩ := hown
                obtain ⟨ao2, cap2, rfl, hik, -, -⟩ := hks.ks
                have HB6 := Lib.hid (below_two (below_drewN (Below.refl wr.heap.size wr) n1) hb6)
                have HIK := Lib.hid (hik.later ((Below.refl _ _).alloc (Nat.le_refl _) (.cells #[.int .i64 nd.h, .string nd.text, .slice ao2 nd.kids.length cap2] 36)))
                have hy6 := block_new w6 (.cells #[.int .i64 nd.h, .string nd.text, .slice ao2 nd.kids.length cap2] 36)
                have HY6 := Lib.hid hy6
                have HB6b := Lib.hid (HB6.out.alloc HB6.out.size (.cells #[.int .i64 nd.h, .string nd.text, .slice ao2 nd.kids.length cap2] 36))
                clear hb6 hks hik q0 q1 q2 f0 f1 f2 hz HGT
                (have q0 := block_cell hy6 0; have q1 := block_cell hy6 1; have q2 := block_cell hy6 2; have f0 := block_free hy6 0; have f1 := block_free hy6 1; have f2 := block_free hy6 2; have hz := block_lt hy6; simp at q0 q1 q2)
                clear hy6
                go_wp2_with fail
                refine (measure_any nd ao2 nd.kids.length cap2 _ HIK.out).mono ?_; rintro e w7 ⟨rfl, hb7⟩
                rw [HOK.out]
                unfold aggM
                have HB7 := Lib.hid (below_two HB6b.out hb7)
                have HY7 := Lib.hid (block_below hb7 HY6.out (block_lt HY6.out))
                clear hb7 q0 q1 q2 f0 f1 f2 hz HIK HB6b
                generalize measN nd = mq at *
                obtain ⟨a0, a1, a2⟩ := mq
                try simp only at HST2
                simp only
                go_wp2_with fail
                have HB8 := Lib.hid (HB7.out.alloc HB7.out.size (.cells #[.int .i64 a0, .int .i64 a1, .int .i64 a2] 62))
                have hy8 := block_alloc HY7.out (.cells #[.int .i64 a0, .int .i64 a1, .int .i64 a2] 62)
                have hm8 := block_new w7 (.cells #[.int .i64 a0, .int .i64 a1, .int .i64 a2] 62)
                generalize w7.alloc (.cells #[.int .i64 a0, .int .i64 a1, .int .i64 a2] 62) = w8 at *
                have hx8 := block_below HB8.out HX.out (block_lt HX.out)
                have x1 := (HB8.out.cell (p := ⟨bb2, _, none⟩) hbb).trans e1
                have x2 := (HB8.out.cell (p := ⟨bb2, _, none⟩) hbb).trans e2
                have x3 := (HB8.out.cell (p := ⟨bb2, _, none⟩) hbb).trans e3
                clear e0 e1 e2 e3
                have p0 := block_cell hy8 0
                have r0 := block_cell hm8 0
                have r1 := block_cell hm8 1
                have r2 := block_cell hm8 2
                simp at p0 r0 r1 r2
                (have q0 := block_cell hx8 0; have q1 := block_cell hx8 1; have q2 := block_cell hx8 2; have f0 := block_free hx8 0; have f1 := block_free hx8 1; have f2 := block_free hx8 2; have hz := block_lt hx8; simp at q0 q1 q2)
                clear hy8 hm8 hx8
                have HBE := Lib.hid (fun n => (HBR.out.trans ((below_drewN HB8.out n).mono HBR.out.size)))
                by_cases ch : nd.h = X.h - 1
                · have ch3 : (nd.h == X.h - 1) = true := by simpa using ch
                  by_cases d0 : a0 = m0
                  · by_cases d1 : a1 = m1
                    · by_cases d2 : a2 = m2
                      · subst d0 d1 d2
                        have HS2 := Lib.hid (HST2.out.trans (if_pos ⟨ch, rfl⟩))
                        clear ch
                        go_quiet (fail)
                        go_wp2_with fail
                        go_roundw
                        case rel => exact ⟨i + 1, true, by omega, by go_num, rfl, fun _ => ⟨HCK.out, HS2.out.symm⟩, (fun h => by cases h), HBE.out _⟩
                        case measure => simp [intOf]; omega
                      · have HE := Lib.hid (HST2.out.trans (if_neg (fun h => d2 (by have := h.2; injection this with _ this; injection this))))
                        have hne : (a2 == m2) = false := by simpa using d2
                        clear ch d2
                        subst d0 d1
                        go_quiet (fail)
                        go_wp2_with fail
                        go_roundw
                        case rel => exact ⟨i + 1, false, by omega, by go_num, rfl, (fun h => by cases h), fun _ hf => absurd (HE.out.symm.trans hf.2) (by decide), HBE.out _⟩
                        case measure => simp [intOf]; omega
                    · have HE := Lib.hid (HST2.out.trans (if_neg (fun h => d1 (by have := h.2; injection this with _ this; injection this))))
                      have hne : (a1 == m1) = false := by simpa using d1
                      clear ch d1
                      subst d0
                      go_quiet (fail)
                      go_wp2_with fail
                      go_roundw
                      case rel => exact ⟨i + 1, false, by omega, by go_num, rfl, (fun h => by cases h), fun _ hf => absurd (HE.out.symm.trans hf.2) (by decide), HBE.out _⟩
                      case measure => simp [intOf]; omega
                  · have HE := Lib.hid (HST2.out.trans (if_neg (fun h => d0 (by have := h.2; injection this))))
                    have hne : (a0 == m0) = false := by simpa using d0
                    clear ch d0
                    go_quiet (fail)
                    go_wp2_with fail
                    go_roundw
                    case rel => exact ⟨i + 1, false, by omega, by go_num, rfl, (fun h => by cases h), fun _ hf => absurd (HE.out.symm.trans hf.2) (by decide), HBE.out _⟩
                    case measure => simp [intOf]; omega
                · have HE := Lib.hid (HST2.out.trans (if_neg (fun h => ch h.1)))
                  have ch3 : (nd.h == X.h - 1) = false := by simpa using ch
                  clear ch
                  go_quiet (fail)
                  go_wp2_with fail
                  go_roundw
                  case rel => exact ⟨i + 1, false, by omega, by go_num, rfl, (fun h => by cases h), fun _ hf => absurd (HE.out.symm.trans hf.2) (by decide), HBE.out _⟩
                  case measure => simp [intOf]; omega
              · have hst := HST.out
                simp only at hst
                rw [(nodeOf_dead HS.out.inv hlv).2] at hst
                simp only at hst
                have HE := Lib.hid hst
                have HLV := Lib.hid hlv
                clear hst hlv HST
                go_wp2_with fail
                refine (liveA_no B A kat wr HUR.out HS.out.is HLV.out).mono ?_; rintro e w5 ⟨rfl, n1, rfl⟩
                go_wp2_with fail
                go_roundw
                case rel => exact ⟨i + 1, false, by omega, by go_num, rfl, (fun h => by cases h), fun _ hf => absurd (HE.out.symm.trans hf.2) (by decide), below_drewN HBR.out n1⟩
                case measure => simp [intOf]; omega
            | false =>
              have HNF := Lib.hid (HF.out rfl)
              clear HT HF
              as_aux_lemma =>
                obtain ⟨e9, hR, he0, he6, hA⟩ := allocR_nofit HNF.out
                have hal := soloAlloc w B A X xa X.kids.length xc wr HKX.out.1 HKX.out.2.1 (HKX.out.sep HS.out.is HS.out.ge) HS.out
                rw [hR, hA] at hal
                have HAL := Lib.hid hal
                have hq0 : (e9 == 0) = false := by simpa using he0
                have hq6 : (e9 == 6) = false := by simpa using he6
                clear hal hR hA he0 he6 HNF
                go_wp2_with fail
                refine (HAL.out).mono ?_; rintro e w10 ⟨rfl, hs10, hk10⟩
                have HS10 := Lib.hid hs10
                have HC10 := Lib.hid (box_turn HS.out.is hk10 HC.out plainS)
                have HL10 := Lib.hid (HL.out.turn HS.out.is hk10 plainH)
                clear hs10 hk10 HS HC HL HX HKX HAL HBR q0 q1 q2 f0 f1 f2 hz
                go_wp2_with fail
                refine wp_region_specs (by kernel_rfl) (by decide) (by kernel_rfl) ?_
                simp only [fill, Act.put, List.setIfInBounds_toArray, List.set_cons_zero, List.set_cons_succ, Nat.zero_add, Nat.reduceAdd]
                apply OpsOK.eq
                · intro vs u hb hd
                  clear hd
                  go_wp2_with fail
                  exact ⟨rfl, _, rfl, Below.refl _ _, rfl⟩
                apply OpsOK.eq
                · intro vs u hb hd
                  clear hd
                  go_wp2_with fail
                  exact ⟨rfl, _, rfl, Below.refl _ _, rfl⟩
                apply OpsOK.eq
                · intro vs u hb hd
                  simp [Region.binds] at hd
                  have e1 := hd
                  clear hd
                  simp only [e1]
                  go_wp2_with fail
                  exact ⟨rfl, _, rfl, Below.refl _ _, rfl⟩
                apply OpsOK.eq
                · intro vs u hb hd
                  simp [Region.binds] at hd
                  obtain ⟨e0, e2⟩ := hd
                  simp only [e0, e2]
                  go_wp2_with fail
                  exact ⟨rfl, _, rfl, Below.refl _ _, rfl⟩
                apply OpsOK.eq
                · intro vs u hb hd
                  simp [Region.binds] at hd
                  have e3 := hd
                  clear hd
                  simp only [e3]
                  go_wp2_with fail
                  exact ⟨rfl, _, rfl, Below.refl _ _, rfl⟩
                apply OpsOK.eq
                · intro vs u hb hd
                  simp [Region.binds] at hd
                  have e4 := hd
                  clear hd
                  simp only [e4]
                  go_wp2_with fail
                  exact ⟨rfl, _, rfl, Below.refl _ _, rfl⟩
                apply OpsOK.eq
                · intro vs u hb hd
                  simp [Region.binds] at hd
                  obtain ⟨e5, e4⟩ := hd
                  simp only [e5, e4]
                  go_wp2_with fail
                  exact ⟨rfl, _, rfl, Below.refl _ _, rfl⟩
                apply OpsOK.eq
                · intro vs u hb hd
                  simp [Region.binds] at hd
                  obtain ⟨e6, e4⟩ := hd
                  simp only [e6, e4]
                  go_wp2_with fail
                  exact ⟨rfl, _, rfl, Below.refl _ _, rfl⟩
                apply OpsOK.eq
                · intro vs u hb hd
                  simp [Region.binds] at hd
                  have e7 := hd
                  clear hd
                  simp only [e7]
                  go_wp2_with fail
                  exact ⟨rfl, _, rfl, Below.refl _ _, rfl⟩
                apply OpsOK.eq
                · intro vs u hb hd
                  simp [Region.binds] at hd
                  obtain ⟨e8, e7⟩ := hd
                  simp only [e8, e7]
                  go_wp2_with fail
                  exact ⟨rfl, _, rfl, Below.refl _ _, rfl⟩
                apply OpsOK.eq
                · intro vs u hb hd
                  simp [Region.binds] at hd
                  obtain ⟨e9, e7⟩ := hd
                  simp only [e9, e7]
                  go_wp2_with fail
                  exact ⟨rfl, _, rfl, Below.refl _ _, rfl⟩
                apply OpsOK.eq
                · intro vs u hb hd
                  simp [Region.binds] at hd
                  obtain ⟨e7, e10, e4⟩ := hd
                  simp only [e7, e10, e4]
                  go_wp2_with fail
                  exact ⟨rfl, _, rfl, Below.refl _ _, rfl⟩
                apply OpsOK.eq
                · intro vs u hb hd
                  simp [Region.binds] at hd
                  obtain ⟨e4, e11⟩ := hd
                  simp only [e4, e11]
                  go_wp2_with fail
                  exact ⟨rfl, _, rfl, Below.refl _ _, rfl⟩
                apply OpsOK.eq
                · intro vs u hb hd
                  simp [Region.binds] at hd
                  obtain ⟨e12, e7⟩ := hd
                  simp only [e12, e7]
                  go_wp2_with fail
                  exact ⟨rfl, _, rfl, Below.refl _ _, rfl⟩
                apply OpsOK.eq
                · intro vs u hb hd
                  simp [Region.binds] at hd
                  have e13 := hd
                  clear hd
                  simp only [e13]
                  go_wp2_with fail
                  exact ⟨rfl, _, rfl, Below.refl _ _, rfl⟩
                apply OpsOK.eq
                · intro vs u hb hd
                  simp [Region.binds] at hd
                  obtain ⟨e14, e13⟩ := hd
                  simp only [e14, e13]
                  go_wp2_with fail
                  exact ⟨rfl, _, rfl, Below.refl _ _, rfl⟩
                apply OpsOK.eq
                · intro vs u hb hd
                  simp [Region.binds] at hd
                  obtain ⟨e13, e15⟩ := hd
                  simp only [e13, e15]
                  go_wp2_with fail
                  exact ⟨rfl, _, rfl, Below.refl _ _, rfl⟩
                apply OpsOK.eq
                · intro vs u hb hd
                  simp [Region.binds] at hd
                  obtain ⟨e16, e13⟩ := hd
                  simp only [e16, e13]
                  go_wp2_with fail
                  exact ⟨rfl, _, rfl, Below.refl _ _, rfl⟩
                apply OpsOK.eq
                · intro vs u hb hd
                  simp [Region.binds] at hd
                  have e17 := hd
                  clear hd
                  simp only [e17]
                  go_wp2_with fail
                  exact ⟨rfl, _, rfl, Below.refl _ _, rfl⟩
                apply OpsOK.eq
                · intro vs u hb hd
                  simp [Region.binds] at hd
                  obtain ⟨e18, e17⟩ := hd
                  simp only [e18, e17]
                  go_wp2_with fail
                  refine (statsA_any B A u (HS10.out.is.below hb) HS10.out.inv.f).mono ?_; rintro e w1 ⟨rfl, hbel⟩; rw [HQ.out]; go_wp2_with fail; exact ⟨rfl, _, rfl, hbel, rfl⟩
                apply OpsOK.eq
                · intro vs u hb hd
                  simp [Region.binds] at hd
                  have e17 := hd
                  clear hd
                  simp only [e17]
                  have hz7 := block_below hb HC10.out (block_lt HC10.out)
                  have p0 := block_cell hz7 0
                  have p1 := block_cell hz7 1
                  have p2 := block_cell hz7 2
                  have p3 := block_cell hz7 3
                  have p4 := block_cell hz7 4
                  have p5 := block_cell hz7 5
                  have p6 := block_cell hz7 6
                  simp at p0 p1 p2 p3 p4 p5 p6
                  clear hz7
                  go_wp2_with fail
                  exact ⟨rfl, _, rfl, Below.refl _ _, rfl⟩
                apply OpsOK.eq
                · intro vs u hb hd
                  simp [Region.binds] at hd
                  obtain ⟨e19, e20, e17⟩ := hd
                  simp only [e19, e20, e17]
                  go_wp2_with fail
                  exact ⟨rfl, _, rfl, Below.refl _ _, rfl⟩
                apply OpsOK.eq
                · intro vs u hb hd
                  simp [Region.binds] at hd
                  obtain ⟨e17, e21⟩ := hd
                  simp only [e17, e21]
                  go_wp2_with fail
                  exact ⟨rfl, _, rfl, Below.refl _ _, rfl⟩
                apply OpsOK.eq
                · intro vs u hb hd
                  simp [Region.binds] at hd
                  obtain ⟨e22, e19⟩ := hd
                  simp only [e22, e19]
                  go_wp2_with fail
                  exact ⟨rfl, _, rfl, Below.refl _ _, rfl⟩
                apply OpsOK.eq
                · intro vs u hb hd
                  simp [Region.binds] at hd
                  have e23 := hd
                  clear hd
                  simp only [e23]
                  go_wp2_with fail
                  exact ⟨rfl, _, rfl, Below.refl _ _, rfl⟩
                refine OpsOK.step (HsR w10.heap.size A.x il) (Stab_hs _ _ _) ?_ ?_
                · intro vs u hb hd
                  simp [Region.binds] at hd
                  obtain ⟨e24, e23⟩ := hd
                  simp only [e24, e23]
                  go_wp2_with fail
                  refine (handlesA_any B A u (HS10.out.is.below hb) HS10.out.inv.f).mono ?_; rintro e w1 hh; obtain ⟨v, rfl, hr, hbel⟩ := hh.rs; clear hh; have hr2 : Rs w1 u.heap.size 31 v (slotsTo A.x 1 A.x.n).length (fun i => encH A.x ((slotsTo A.x 1 A.x.n).getD i 0)) := hr; rw [HIL.out] at hr2; go_wp2_with fail; exact ⟨rfl, _, rfl, hbel, hr2.low (hb.size)⟩
                apply OpsOK.eq
                · intro vs u hb hd
                  simp [Region.binds] at hd
                  have e23 := hd
                  clear hd
                  simp only [e23]
                  go_wp2_with fail
                  exact ⟨rfl, _, rfl, Below.refl _ _, rfl⟩
                apply OpsOK.eq
                · intro vs u hb hd
                  simp [Region.binds] at hd
                  obtain ⟨h25, e26, h25, e23⟩ := hd
                  simp only [e26, e23]
                  go_wp2_with fail
                  refine (equalHandles_self u _ (.slice al il cl) il (hsF A.x) (show Rs _ _ _ _ _ _ from h25).sl (show Rs u w1.heap.size 31 (.slice al il cl) il (fun i => .int .u64 (hsF A.x i)) from HL10.out.keep hb (Nat.le_refl _)).sl (by omega)).mono ?_; rintro e w1 ⟨rfl, n1, rfl⟩; go_wp2_with fail; exact ⟨rfl, _, rfl, below_drewN (Below.refl _ _) n1, rfl⟩
                apply OpsOK.eq
                · intro vs u hb hd
                  simp [Region.binds] at hd
                  obtain ⟨e27, e23⟩ := hd
                  simp only [e27, e23]
                  go_wp2_with fail
                  exact ⟨rfl, _, rfl, Below.refl _ _, rfl⟩
                apply OpsOK.eq
                · intro vs u hb hd
                  simp [Region.binds] at hd
                  obtain ⟨e23, e28⟩ := hd
                  simp only [e23, e28]
                  go_wp2_with fail
                  exact ⟨rfl, _, rfl, Below.refl _ _, rfl⟩
                refine OpsOK.done ?_
                intro vs u hbu hS
                have h29 := hS 29 (by decide)
                simp at h29
                simp only [h29]
                clear h29
                clear hS
                have HBU := Lib.hid hbu
                have HS11 := Lib.hid (HS10.out.below HBU.out)
                have HC11 := Lib.hid (block_below HBU.out HC10.out (block_lt HC10.out))
                have HL11 := Lib.hid (HL10.out.keep HBU.out (Nat.le_refl _))
                clear hbu HS10 HC10 HL10
                by_cases hlm : liveL A.x m
                · have HLM := Lib.hid hlm
                  clear hlm
                  go_wp2_with fail
                  refine (liveA_yes B A m u HM.out HS11.out.is HLM.out).mono ?_; rintro e w12 ⟨rfl, n1, rfl⟩
                  go_wp2_with fail
                  refine (awake13_any _).mono ?_; rintro e w13 ⟨rfl, hb⟩
                  have HB := Lib.hid (below_two (HS11.out.drewN n1).low hb)
                  clear hb
                  go_wp2_with fail
                  go_ret
                  exact ⟨rfl, HB.out⟩
                · have HLM := Lib.hid hlm
                  clear hlm
                  go_wp2_with fail
                  refine (liveA_no B A m u HM.out HS11.out.is HLM.out).mono ?_; rintro e w12 ⟨rfl, n1, rfl⟩
                  go_wp2_with fail
                  refine (soloGet_no w B A m _ (HS11.out.drewN n1) (by omega) HLM.out).mono ?_; rintro e w13 ⟨ay, cy, rfl, hs13, hk13⟩
                  have HS13 := Lib.hid (hs13.below ((Below.refl _ _).alloc (Nat.le_refl _) (.cells #[.int .i64 0, .string ⟨#[]⟩, .slice ay 0 cy] 36)))
                  have HC13 := Lib.hid (block_alloc (box_turn (HS11.out.is.drewN n1) hk13 HC11.out plainS) (.cells #[.int .i64 0, .string ⟨#[]⟩, .slice ay 0 cy] 36))
                  have HL13 := Lib.hid ((Rs.turn (w := u.drewN n1) (show Rs (u.drewN n1) w1.heap.size 31 (.slice al il cl) il (fun i => encH A.x ((slotsTo A.x 1 A.x.n).getD i 0)) from HL11.out) (HS11.out.is.drewN n1) hk13 plainH).keep ((Below.refl _ _).alloc (Nat.le_refl _) (.cells #[.int .i64 0, .string ⟨#[]⟩, .slice ay 0 cy] 36)) (Nat.le_refl _))
                  clear hs13 hk13 HC11 HL11
                  go_wp2_with fail
                  refine (soloFree w B { A with st := A.st + 1 } m _ HM.out.1 HM.out.2 HS13.out (by show A.st + 1 ≤ _; omega)).mono ?_; rintro e w14 ⟨rfl, hs14, hk14⟩
                  rw [show getE ({ A with st := A.st + 1 } : AS) m = 10 from if_neg HLM.out]
                  rw [show freeS ({ A with st := A.st + 1 } : AS) m = { A with st := A.st + 1 + 1 } from freeS_no HLM.out] at hs14
                  have hc14 := box_turn HS13.out.is hk14 HC13.out plainS
                  have HC14 := Lib.hid hc14
                  have HL14 := Lib.hid (HL13.out.turn HS13.out.is hk14 plainH)
                  have HS14 := Lib.hid (hs14.set (i := 6) HSB.out (hs14.is.nownP hc14 plainS) (notKb hc14 plainS.n6) (.int .i64 ((A.st : Int) + 2)))
                  have HC15 := Lib.hid (block_setCell HC14.out 6 (.int .i64 ((A.st : Int) + 2)))
                  have HL15 := Lib.hid (HL14.out.far (i := 6) HC14.out (by decide) (.int .i64 ((A.st : Int) + 2)))
                  have HQ2 := Lib.hid (stats_st HQ.out)
                  clear hs14 hk14 HS13 HC13 HL13 HL14
                  (have q0 := block_cell hc14 0; have q1 := block_cell hc14 1; have q2 := block_cell hc14 2; have q3 := block_cell hc14 3; have q4 := block_cell hc14 4; have q5 := block_cell hc14 5; have q6 := block_cell hc14 6; have f0 := block_free hc14 0; have f1 := block_free hc14 1; have f2 := block_free hc14 2; have f3 := block_free hc14 3; have f4 := block_free hc14 4; have f5 := block_free hc14 5; have f6 := block_free hc14 6; have hz := block_lt hc14; simp at q0 q1 q2 q3 q4 q5 q6)
                  clear hc14
                  go_wp2_with fail
                  clear q0 q1 q2 q3 q4 q5 q6 f0 f1 f2 f3 f4 f5 f6 hz HC14
                  generalize w14.setCell ⟨Sb, 6, none⟩ (.int .i64 ((A.st : Int) + 2)) = w15 at *
                  simp only [List.setIfInBounds_toArray, List.set_cons_zero, List.set_cons_succ] at HC15
                  refine wp_region_specs (by kernel_rfl) (by decide) (by kernel_rfl) ?_
                  simp only [fill, Act.put, List.setIfInBounds_toArray, List.set_cons_zero, List.set_cons_succ, Nat.zero_add, Nat.reduceAdd]
                  apply OpsOK.eq
                  · intro vs u hb hd
                    clear hd
                    go_wp2_with fail
                    exact ⟨rfl, _, rfl, Below.refl _ _, rfl⟩
                  apply OpsOK.eq
                  · intro vs u hb hd
                    simp [Region.binds] at hd
                    have e0 := hd
                    clear hd
                    simp only [e0]
                    go_wp2_with fail
                    exact ⟨rfl, _, rfl, Below.refl _ _, rfl⟩
                  apply OpsOK.eq
                  · intro vs u hb hd
                    simp [Region.binds] at hd
                    have e1 := hd
                    clear hd
                    simp only [e1]
                    go_wp2_with fail
                    exact ⟨rfl, _, rfl, Below.refl _ _, rfl⟩
                  apply OpsOK.eq
                  · intro vs u hb hd
                    simp [Region.binds] at hd
                    have e2 := hd
                    clear hd
                    simp only [e2]
                    go_wp2_with fail
                    exact ⟨rfl, _, rfl, Below.refl _ _, rfl⟩
                  apply OpsOK.eq
                  · intro vs u hb hd
                    simp [Region.binds] at hd
                    obtain ⟨e3, e2⟩ := hd
                    simp only [e3, e2]
                    go_wp2_with fail
                    exact ⟨rfl, _, rfl, Below.refl _ _, rfl⟩
                  apply OpsOK.eq
                  · intro vs u hb hd
                    simp [Region.binds] at hd
                    obtain ⟨e2, e4⟩ := hd
                    simp only [e2, e4]
                    go_wp2_with fail
                    exact ⟨rfl, _, rfl, Below.refl _ _, rfl⟩
                  apply OpsOK.eq
                  · intro vs u hb hd
                    simp [Region.binds] at hd
                    obtain ⟨e5, e2⟩ := hd
                    simp only [e5, e2]
                    go_wp2_with fail
                    exact ⟨rfl, _, rfl, Below.refl _ _, rfl⟩
                  apply OpsOK.eq
                  · intro vs u hb hd
                    simp [Region.binds] at hd
                    have e6 := hd
                    clear hd
                    simp only [e6]
                    go_wp2_with fail
                    exact ⟨rfl, _, rfl, Below.refl _ _, rfl⟩
                  apply OpsOK.eq
                  · intro vs u hb hd
                    simp [Region.binds] at hd
                    obtain ⟨e7, e6⟩ := hd
                    simp only [e7, e6]
                    go_wp2_with fail
                    refine (statsA_any B { A with st := A.st + 1 + 1 } u (HS14.out.is.below hb) HS14.out.inv.f).mono ?_; rintro e w1 ⟨rfl, hbel⟩; rw [HQ2.out]; go_wp2_with fail; exact ⟨rfl, _, rfl, hbel, rfl⟩
                  apply OpsOK.eq
                  · intro vs u hb hd
                    simp [Region.binds] at hd
                    have e6 := hd
                    clear hd
                    simp only [e6]
                    have hz7 := block_below hb HC15.out (block_lt HC15.out)
                    have p0 := block_cell hz7 0
                    have p1 := block_cell hz7 1
                    have p2 := block_cell hz7 2
                    have p3 := block_cell hz7 3
                    have p4 := block_cell hz7 4
                    have p5 := block_cell hz7 5
                    have p6 := block_cell hz7 6
                    simp at p0 p1 p2 p3 p4 p5 p6
                    clear hz7
                    go_wp2_with fail
                    exact ⟨rfl, _, rfl, Below.refl _ _, rfl⟩
                  apply OpsOK.eq
                  · intro vs u hb hd
                    simp [Region.binds] at hd
                    obtain ⟨e8, e9, e6⟩ := hd
                    simp only [e8, e9, e6]
                    go_wp2_with fail
                    exact ⟨rfl, _, rfl, Below.refl _ _, rfl⟩
                  apply OpsOK.eq
                  · intro vs u hb hd
                    simp [Region.binds] at hd
                    obtain ⟨e6, e10⟩ := hd
                    simp only [e6, e10]
                    go_wp2_with fail
                    exact ⟨rfl, _, rfl, Below.refl _ _, rfl⟩
                  apply OpsOK.eq
                  · intro vs u hb hd
                    simp [Region.binds] at hd
                    obtain ⟨e11, e8⟩ := hd
                    simp only [e11, e8]
                    go_wp2_with fail
                    exact ⟨rfl, _, rfl, Below.refl _ _, rfl⟩
                  apply OpsOK.eq
                  · intro vs u hb hd
                    simp [Region.binds] at hd
                    have e12 := hd
                    clear hd
                    simp only [e12]
                    go_wp2_with fail
                    exact ⟨rfl, _, rfl, Below.refl _ _, rfl⟩
                  refine OpsOK.step (HsR w15.heap.size A.x il) (Stab_hs _ _ _) ?_ ?_
                  · intro vs u hb hd
                    simp [Region.binds] at hd
                    obtain ⟨e13, e12⟩ := hd
                    simp only [e13, e12]
                    go_wp2_with fail
                    refine (handlesA_any B { A with st := A.st + 1 + 1 } u (HS14.out.is.below hb) HS14.out.inv.f).mono ?_; rintro e w1 hh; obtain ⟨v, rfl, hr, hbel⟩ := hh.rs; clear hh; have hr2 : Rs w1 u.heap.size 31 v (slotsTo A.x 1 A.x.n).length (fun i => encH A.x ((slotsTo A.x 1 A.x.n).getD i 0)) := hr; rw [HIL.out] at hr2; go_wp2_with fail; exact ⟨rfl, _, rfl, hbel, hr2.low (hb.size)⟩
                  apply OpsOK.eq
                  · intro vs u hb hd
                    simp [Region.binds] at hd
                    have e12 := hd
                    clear hd
                    simp only [e12]
                    go_wp2_with fail
                    exact ⟨rfl, _, rfl, Below.refl _ _, rfl⟩
                  apply OpsOK.eq
                  · intro vs u hb hd
                    simp [Region.binds] at hd
                    obtain ⟨h14, e15, h14, e12⟩ := hd
                    simp only [e15, e12]
                    go_wp2_with fail
                    refine (equalHandles_self u _ (.slice al il cl) il (hsF A.x) (show Rs _ _ _ _ _ _ from h14).sl (show Rs u w1.heap.size 31 (.slice al il cl) il (fun i => .int .u64 (hsF A.x i)) from HL15.out.keep hb (Nat.le_refl _)).sl (by omega)).mono ?_; rintro e w1 ⟨rfl, n1, rfl⟩; go_wp2_with fail; exact ⟨rfl, _, rfl, below_drewN (Below.refl _ _) n1, rfl⟩
                  apply OpsOK.eq
                  · intro vs u hb hd
                    simp [Region.binds] at hd
                    obtain ⟨e12, e16⟩ := hd
                    simp only [e12, e16]
                    go_wp2_with fail
                    exact ⟨rfl, _, rfl, Below.refl _ _, rfl⟩
                  apply OpsOK.eq
                  · intro vs u hb hd
                    simp [Region.binds] at hd
                    obtain ⟨e17, e16⟩ := hd
                    simp only [e17, e16]
                    go_wp2_with fail
                    exact ⟨rfl, _, rfl, Below.refl _ _, rfl⟩
                  apply OpsOK.eq
                  · intro vs u hb hd
                    simp [Region.binds] at hd
                    have e18 := hd
                    clear hd
                    simp only [e18]
                    go_wp2_with fail
                    refine (awake13_any u).mono ?_; rintro e w1 ⟨rfl, hbel⟩; go_wp2_with fail; exact ⟨rfl, _, rfl, hbel, rfl⟩
                  apply OpsOK.eq
                  · intro vs u hb hd
                    simp [Region.binds] at hd
                    obtain ⟨e18, e19⟩ := hd
                    simp only [e18, e19]
                    go_wp2_with fail
                    exact ⟨rfl, _, rfl, Below.refl _ _, rfl⟩
                  apply OpsOK.eq
                  · intro vs u hb hd
                    simp [Region.binds] at hd
                    obtain ⟨e20, e19, e0, e1, e2, e3, e4, e5, e6, e7, e8, e9, e10, e11, e12, e13, h14, e15, e16, e17, e18, e19, e20⟩ := hd
                    simp only [e20, e19, e0, e1, e2, e3, e4, e5, e6, e7, e8, e9, e10, e11, e12, e13, e15, e16, e17, e18]
                    go_wp2_with fail
                    exact ⟨rfl, _, rfl, Below.refl _ _, rfl⟩
                  refine OpsOK.done ?_
                  intro vs u hbu hS
                  have h21 := hS 21 (by decide)
                  simp at h21
                  simp only [h21]
                  clear h21
                  clear hS
                  have HBV := Lib.hid (below_two HS14.out.low hbu)
                  clear hbu
                  go_wp2_with fail
                  go_ret
                  exact ⟨rfl, HBV.out⟩
          · obtain rfl : i = X.kids.length := by omega
            cases b with
            | true =>
              have HFT := Lib.hid (show fitsP A X from ⟨(HT.out rfl).1, by rw [← (HT.out rfl).2, List.drop_eq_nil_of_le (Nat.le_refl _)]; rfl⟩)
              clear HT HF
              as_aux_lemma =>
                have hal := soloAlloc w B A X xa X.kids.length xc wr HKX.out.1 HKX.out.2.1 (HKX.out.sep HS.out.is HS.out.ge) HS.out
                rcases take_two A.x HS.out.inv.f with ⟨hm0, htr, -⟩ | ⟨hm0, htr, -, -⟩
                · have hR : allocR A X = (0, 6) := (allocR_fit HFT.out).trans htr
                  have hA : allocS A X = A := allocS_no (by rw [hR]; decide)
                  rw [hR, hA] at hal
                  have HAL := Lib.hid hal
                  have hmz : mm = 0 := by rw [← HMM.out]; exact hm0
                  clear hal hm0 htr hR hA HFT
                  subst hmz
                  go_wp2_with fail
                  refine (HAL.out).mono ?_; rintro e w10 ⟨rfl, hs10, hk10⟩
                  have HS10 := Lib.hid hs10
                  have HC10 := Lib.hid (box_turn HS.out.is hk10 HC.out plainS)
                  have HL10 := Lib.hid (HL.out.turn HS.out.is hk10 plainH)
                  clear hs10 hk10 HS HC HL HX HKX HAL HBR q0 q1 q2 f0 f1 f2 hz
                  go_wp2_with fail
                  refine wp_region_specs (by kernel_rfl) (by decide) (by kernel_rfl) ?_
                  simp only [fill, Act.put, List.setIfInBounds_toArray, List.set_cons_zero, List.set_cons_succ, Nat.zero_add, Nat.reduceAdd]
                  apply OpsOK.eq
                  · intro vs u hb hd
                    clear hd
                    go_wp2_with fail
                    exact ⟨rfl, _, rfl, Below.refl _ _, rfl⟩
                  apply OpsOK.eq
                  · intro vs u hb hd
                    clear hd
                    go_wp2_with fail
                    exact ⟨rfl, _, rfl, Below.refl _ _, rfl⟩
                  apply OpsOK.eq
                  · intro vs u hb hd
                    simp [Region.binds] at hd
                    have e1 := hd
                    clear hd
                    simp only [e1]
                    go_wp2_with fail
                    exact ⟨rfl, _, rfl, Below.refl _ _, rfl⟩
                  apply OpsOK.eq
                  · intro vs u hb hd
                    simp [Region.binds] at hd
                    obtain ⟨e0, e2⟩ := hd
                    simp only [e0, e2]
                    go_wp2_with fail
                    exact ⟨rfl, _, rfl, Below.refl _ _, rfl⟩
                  apply OpsOK.eq
                  · intro vs u hb hd
                    simp [Region.binds] at hd
                    have e3 := hd
                    clear hd
                    simp only [e3]
                    go_wp2_with fail
                    exact ⟨rfl, _, rfl, Below.refl _ _, rfl⟩
                  apply OpsOK.eq
                  · intro vs u hb hd
                    simp [Region.binds] at hd
                    have e4 := hd
                    clear hd
                    simp only [e4]
                    go_wp2_with fail
                    exact ⟨rfl, _, rfl, Below.refl _ _, rfl⟩
                  apply OpsOK.eq
                  · intro vs u hb hd
                    simp [Region.binds] at hd
                    obtain ⟨e5, e4⟩ := hd
                    simp only [e5, e4]
                    go_wp2_with fail
                    exact ⟨rfl, _, rfl, Below.refl _ _, rfl⟩
                  apply OpsOK.eq
                  · intro vs u hb hd
                    simp [Region.binds] at hd
                    obtain ⟨e6, e4⟩ := hd
                    simp only [e6, e4]
                    go_wp2_with fail
                    exact ⟨rfl, _, rfl, Below.refl _ _, rfl⟩
                  apply OpsOK.eq
                  · intro vs u hb hd
                    simp [Region.binds] at hd
                    have e7 := hd
                    clear hd
                    simp only [e7]
                    go_wp2_with fail
                    exact ⟨rfl, _, rfl, Below.refl _ _, rfl⟩
                  apply OpsOK.eq
                  · intro vs u hb hd
                    simp [Region.binds] at hd
                    obtain ⟨e8, e7⟩ := hd
                    simp only [e8, e7]
                    have hz7 := block_below hb HC10.out (block_lt HC10.out)
                    have p0 := block_cell hz7 0
                    have p1 := block_cell hz7 1
                    have p2 := block_cell hz7 2
                    have p3 := block_cell hz7 3
                    have p4 := block_cell hz7 4
                    have p5 := block_cell hz7 5
                    have p6 := block_cell hz7 6
                    simp at p0 p1 p2 p3 p4 p5 p6
                    clear hz7
                    go_wp2_with fail
                    exact ⟨rfl, _, rfl, Below.refl _ _, rfl⟩
                  apply OpsOK.eq
                  · intro vs u hb hd
                    simp [Region.binds] at hd
                    obtain ⟨e9, e7⟩ := hd
                    simp only [e9, e7]
                    go_wp2_with fail
                    exact ⟨rfl, _, rfl, Below.refl _ _, rfl⟩
                  apply OpsOK.eq
                  · intro vs u hb hd
                    simp [Region.binds] at hd
                    obtain ⟨e7, e10, e4⟩ := hd
                    simp only [e7, e10, e4]
                    go_wp2_with fail
                    exact ⟨rfl, _, rfl, Below.refl _ _, rfl⟩
                  apply OpsOK.eq
                  · intro vs u hb hd
                    simp [Region.binds] at hd
                    obtain ⟨e4, e11⟩ := hd
                    simp only [e4, e11]
                    go_wp2_with fail
                    exact ⟨rfl, _, rfl, Below.refl _ _, rfl⟩
                  apply OpsOK.eq
                  · intro vs u hb hd
                    simp [Region.binds] at hd
                    obtain ⟨e12, e7⟩ := hd
                    simp only [e12, e7]
                    go_wp2_with fail
                    exact ⟨rfl, _, rfl, Below.refl _ _, rfl⟩
                  apply OpsOK.eq
                  · intro vs u hb hd
                    simp [Region.binds] at hd
                    have e13 := hd
                    clear hd
                    simp only [e13]
                    go_wp2_with fail
                    exact ⟨rfl, _, rfl, Below.refl _ _, rfl⟩
                  apply OpsOK.eq
                  · intro vs u hb hd
                    simp [Region.binds] at hd
                    obtain ⟨e14, e13⟩ := hd
                    simp only [e14, e13]
                    go_wp2_with fail
                    exact ⟨rfl, _, rfl, Below.refl _ _, rfl⟩
                  apply OpsOK.eq
                  · intro vs u hb hd
                    simp [Region.binds] at hd
                    obtain ⟨e13, e15⟩ := hd
                    simp only [e13, e15]
                    go_wp2_with fail
                    exact ⟨rfl, _, rfl, Below.refl _ _, rfl⟩
                  apply OpsOK.eq
                  · intro vs u hb hd
                    simp [Region.binds] at hd
                    obtain ⟨e16, e13⟩ := hd
                    simp only [e16, e13]
                    go_wp2_with fail
                    exact ⟨rfl, _, rfl, Below.refl _ _, rfl⟩
                  apply OpsOK.eq
                  · intro vs u hb hd
                    simp [Region.binds] at hd
                    have e17 := hd
                    clear hd
                    simp only [e17]
                    go_wp2_with fail
                    exact ⟨rfl, _, rfl, Below.refl _ _, rfl⟩
                  apply OpsOK.eq
                  · intro vs u hb hd
                    simp [Region.binds] at hd
                    obtain ⟨e18, e17⟩ := hd
                    simp only [e18, e17]
                    go_wp2_with fail
                    refine (statsA_any B A u (HS10.out.is.below hb) HS10.out.inv.f).mono ?_; rintro e w1 ⟨rfl, hbel⟩; rw [HQ.out]; go_wp2_with fail; exact ⟨rfl, _, rfl, hbel, rfl⟩
                  apply OpsOK.eq
                  · intro vs u hb hd
                    simp [Region.binds] at hd
                    have e17 := hd
                    clear hd
                    simp only [e17]
                    have hz7 := block_below hb HC10.out (block_lt HC10.out)
                    have p0 := block_cell hz7 0
                    have p1 := block_cell hz7 1
                    have p2 := block_cell hz7 2
                    have p3 := block_cell hz7 3
                    have p4 := block_cell hz7 4
                    have p5 := block_cell hz7 5
                    have p6 := block_cell hz7 6
                    simp at p0 p1 p2 p3 p4 p5 p6
                    clear hz7
                    go_wp2_with fail
                    exact ⟨rfl, _, rfl, Below.refl _ _, rfl⟩
                  apply OpsOK.eq
                  · intro vs u hb hd
                    simp [Region.binds] at hd
                    obtain ⟨e19, e20, e17⟩ := hd
                    simp only [e19, e20, e17]
                    go_wp2_with fail
                    exact ⟨rfl, _, rfl, Below.refl _ _, rfl⟩
                  apply OpsOK.eq
                  · intro vs u hb hd
                    simp [Region.binds] at hd
                    obtain ⟨e17, e21⟩ := hd
                    simp only [e17, e21]
                    go_wp2_with fail
                    exact ⟨rfl, _, rfl, Below.refl _ _, rfl⟩
                  apply OpsOK.eq
                  · intro vs u hb hd
                    simp [Region.binds] at hd
                    obtain ⟨e22, e19⟩ := hd
                    simp only [e22, e19]
                    go_wp2_with fail
                    exact ⟨rfl, _, rfl, Below.refl _ _, rfl⟩
                  apply OpsOK.eq
                  · intro vs u hb hd
                    simp [Region.binds] at hd
                    have e23 := hd
                    clear hd
                    simp only [e23]
                    go_wp2_with fail
                    exact ⟨rfl, _, rfl, Below.refl _ _, rfl⟩
                  refine OpsOK.step (HsR w10.heap.size A.x il) (Stab_hs _ _ _) ?_ ?_
                  · intro vs u hb hd
                    simp [Region.binds] at hd
                    obtain ⟨e24, e23⟩ := hd
                    simp only [e24, e23]
                    go_wp2_with fail
                    refine (handlesA_any B A u (HS10.out.is.below hb) HS10.out.inv.f).mono ?_; rintro e w1 hh; obtain ⟨v, rfl, hr, hbel⟩ := hh.rs; clear hh; have hr2 : Rs w1 u.heap.size 31 v (slotsTo A.x 1 A.x.n).length (fun i => encH A.x ((slotsTo A.x 1 A.x.n).getD i 0)) := hr; rw [HIL.out] at hr2; go_wp2_with fail; exact ⟨rfl, _, rfl, hbel, hr2.low (hb.size)⟩
                  apply OpsOK.eq
                  · intro vs u hb hd
                    simp [Region.binds] at hd
                    have e23 := hd
                    clear hd
                    simp only [e23]
                    go_wp2_with fail
                    exact ⟨rfl, _, rfl, Below.refl _ _, rfl⟩
                  apply OpsOK.eq
                  · intro vs u hb hd
                    simp [Region.binds] at hd
                    obtain ⟨h25, e26, h25, e23⟩ := hd
                    simp only [e26, e23]
                    go_wp2_with fail
                    refine (equalHandles_self u _ (.slice al il cl) il (hsF A.x) (show Rs _ _ _ _ _ _ from h25).sl (show Rs u w1.heap.size 31 (.slice al il cl) il (fun i => .int .u64 (hsF A.x i)) from HL10.out.keep hb (Nat.le_refl _)).sl (by omega)).mono ?_; rintro e w1 ⟨rfl, n1, rfl⟩; go_wp2_with fail; exact ⟨rfl, _, rfl, below_drewN (Below.refl _ _) n1, rfl⟩
                  apply OpsOK.eq
                  · intro vs u hb hd
                    simp [Region.binds] at hd
                    obtain ⟨e27, e23⟩ := hd
                    simp only [e27, e23]
                    go_wp2_with fail
                    exact ⟨rfl, _, rfl, Below.refl _ _, rfl⟩
                  apply OpsOK.eq
                  · intro vs u hb hd
                    simp [Region.binds] at hd
                    obtain ⟨e23, e28⟩ := hd
                    simp only [e23, e28]
                    go_wp2_with fail
                    exact ⟨rfl, _, rfl, Below.refl _ _, rfl⟩
                  refine OpsOK.done ?_
                  intro vs u hbu hS
                  have h29 := hS 29 (by decide)
                  simp at h29
                  simp only [h29]
                  clear h29
                  clear hS
                  have HBU := Lib.hid hbu
                  have HS11 := Lib.hid (HS10.out.below HBU.out)
                  have HC11 := Lib.hid (block_below HBU.out HC10.out (block_lt HC10.out))
                  have HL11 := Lib.hid (HL10.out.keep HBU.out (Nat.le_refl _))
                  clear hbu HS10 HC10 HL10
                  by_cases hlm : liveL A.x m
                  · have HLM := Lib.hid hlm
                    clear hlm
                    go_wp2_with fail
                    refine (liveA_yes B A m u HM.out HS11.out.is HLM.out).mono ?_; rintro e w12 ⟨rfl, n1, rfl⟩
                    go_wp2_with fail
                    refine (awake13_any _).mono ?_; rintro e w13 ⟨rfl, hb⟩
                    have HB := Lib.hid (below_two (HS11.out.drewN n1).low hb)
                    clear hb
                    go_wp2_with fail
                    go_ret
                    exact ⟨rfl, HB.out⟩
                  · have HLM := Lib.hid hlm
                    clear hlm
                    go_wp2_with fail
                    refine (liveA_no B A m u HM.out HS11.out.is HLM.out).mono ?_; rintro e w12 ⟨rfl, n1, rfl⟩
                    go_wp2_with fail
                    refine (soloGet_no w B A m _ (HS11.out.drewN n1) (by omega) HLM.out).mono ?_; rintro e w13 ⟨ay, cy, rfl, hs13, hk13⟩
                    have HS13 := Lib.hid (hs13.below ((Below.refl _ _).alloc (Nat.le_refl _) (.cells #[.int .i64 0, .string ⟨#[]⟩, .slice ay 0 cy] 36)))
                    have HC13 := Lib.hid (block_alloc (box_turn (HS11.out.is.drewN n1) hk13 HC11.out plainS) (.cells #[.int .i64 0, .string ⟨#[]⟩, .slice ay 0 cy] 36))
                    have HL13 := Lib.hid ((Rs.turn (w := u.drewN n1) (show Rs (u.drewN n1) w1.heap.size 31 (.slice al il cl) il (fun i => encH A.x ((slotsTo A.x 1 A.x.n).getD i 0)) from HL11.out) (HS11.out.is.drewN n1) hk13 plainH).keep ((Below.refl _ _).alloc (Nat.le_refl _) (.cells #[.int .i64 0, .string ⟨#[]⟩, .slice ay 0 cy] 36)) (Nat.le_refl _))
                    clear hs13 hk13 HC11 HL11
                    go_wp2_with fail
                    refine (soloFree w B { A with st := A.st + 1 } m _ HM.out.1 HM.out.2 HS13.out (by show A.st + 1 ≤ _; omega)).mono ?_; rintro e w14 ⟨rfl, hs14, hk14⟩
                    rw [show getE ({ A with st := A.st + 1 } : AS) m = 10 from if_neg HLM.out]
                    rw [show freeS ({ A with st := A.st + 1 } : AS) m = { A with st := A.st + 1 + 1 } from freeS_no HLM.out] at hs14
                    have hc14 := box_turn HS13.out.is hk14 HC13.out plainS
                    have HC14 := Lib.hid hc14
                    have HL14 := Lib.hid (HL13.out.turn HS13.out.is hk14 plainH)
                    have HS14 := Lib.hid (hs14.set (i := 6) HSB.out (hs14.is.nownP hc14 plainS) (notKb hc14 plainS.n6) (.int .i64 ((A.st : Int) + 2)))
                    have HC15 := Lib.hid (block_setCell HC14.out 6 (.int .i64 ((A.st : Int) + 2)))
                    have HL15 := Lib.hid (HL14.out.far (i := 6) HC14.out (by decide) (.int .i64 ((A.st : Int) + 2)))
                    have HQ2 := Lib.hid (stats_st HQ.out)
                    clear hs14 hk14 HS13 HC13 HL13 HL14
                    (have q0 := block_cell hc14 0; have q1 := block_cell hc14 1; have q2 := block_cell hc14 2; have q3 := block_cell hc14 3; have q4 := block_cell hc14 4; have q5 := block_cell hc14 5; have q6 := block_cell hc14 6; have f0 := block_free hc14 0; have f1 := block_free hc14 1; have f2 := block_free hc14 2; have f3 := block_free hc14 3; have f4 := block_free hc14 4; have f5 := block_free hc14 5; have f6 := block_free hc14 6; have hz := block_lt hc14; simp at q0 q1 q2 q3 q4 q5 q6)
                    clear hc14
                    go_wp2_with fail
                    clear q0 q1 q2 q3 q4 q5 q6 f0 f1 f2 f3 f4 f5 f6 hz HC14
                    generalize w14.setCell ⟨Sb, 6, none⟩ (.int .i64 ((A.st : Int) + 2)) = w15 at *
                    simp only [List.setIfInBounds_toArray, List.set_cons_zero, List.set_cons_succ] at HC15
                    refine wp_region_specs (by kernel_rfl) (by decide) (by kernel_rfl) ?_
                    simp only [fill, Act.put, List.setIfInBounds_toArray, List.set_cons_zero, List.set_cons_succ, Nat.zero_add, Nat.reduceAdd]
                    apply OpsOK.eq
                    · intro vs u hb hd
                      clear hd
                      go_wp2_with fail
                      exact ⟨rfl, _, rfl, Below.refl _ _, rfl⟩
                    apply OpsOK.eq
                    · intro vs u hb hd
                      simp [Region.binds] at hd
                      have e0 := hd
                      clear hd
                      simp only [e0]
                      go_wp2_with fail
                      exact ⟨rfl, _, rfl, Below.refl _ _, rfl⟩
                    apply OpsOK.eq
                    · intro vs u hb hd
                      simp [Region.binds] at hd
                      have e1 := hd
                      clear hd
                      simp only [e1]
                      go_wp2_with fail
                      exact ⟨rfl, _, rfl, Below.refl _ _, rfl⟩
                    apply OpsOK.eq
                    · intro vs u hb hd
                      simp [Region.binds] at hd
                      have e2 := hd
                      clear hd
                      simp only [e2]
                      go_wp2_with fail
                      exact ⟨rfl, _, rfl, Below.refl _ _, rfl⟩
                    apply OpsOK.eq
                    · intro vs u hb hd
                      simp [Region.binds] at hd
                      obtain ⟨e3, e2⟩ := hd
                      simp only [e3, e2]
                      go_wp2_with fail
                      exact ⟨rfl, _, rfl, Below.refl _ _, rfl⟩
                    apply OpsOK.eq
                    · intro vs u hb hd
                      simp [Region.binds] at hd
                      obtain ⟨e2, e4⟩ := hd
                      simp only [e2, e4]
                      go_wp2_with fail
                      exact ⟨rfl, _, rfl, Below.refl _ _, rfl⟩
                    apply OpsOK.eq
                    · intro vs u hb hd
                      simp [Region.binds] at hd
                      obtain ⟨e5, e2⟩ := hd
                      simp only [e5, e2]
                      go_wp2_with fail
                      exact ⟨rfl, _, rfl, Below.refl _ _, rfl⟩
                    apply OpsOK.eq
                    · intro vs u hb hd
                      simp [Region.binds] at hd
                      have e6 := hd
                      clear hd
                      simp only [e6]
                      go_wp2_with fail
                      exact ⟨rfl, _, rfl, Below.refl _ _, rfl⟩
                    apply OpsOK.eq
                    · intro vs u hb hd
                      simp [Region.binds] at hd
                      obtain ⟨e7, e6⟩ := hd
                      simp only [e7, e6]
                      go_wp2_with fail
                      refine (statsA_any B { A with st := A.st + 1 + 1 } u (HS14.out.is.below hb) HS14.out.inv.f).mono ?_; rintro e w1 ⟨rfl, hbel⟩; rw [HQ2.out]; go_wp2_with fail; exact ⟨rfl, _, rfl, hbel, rfl⟩
                    apply OpsOK.eq
                    · intro vs u hb hd
                      simp [Region.binds] at hd
                      have e6 := hd
                      clear hd
                      simp only [e6]
                      have hz7 := block_below hb HC15.out (block_lt HC15.out)
                      have p0 := block_cell hz7 0
                      have p1 := block_cell hz7 1
                      have p2 := block_cell hz7 2
                      have p3 := block_cell hz7 3
                      have p4 := block_cell hz7 4
                      have p5 := block_cell hz7 5
                      have p6 := block_cell hz7 6
                      simp at p0 p1 p2 p3 p4 p5 p6
                      clear hz7
                      go_wp2_with fail
                      exact ⟨rfl, _, rfl, Below.refl _ _, rfl⟩
                    apply OpsOK.eq
                    · intro vs u hb hd
                      simp [Region.binds] at hd
                      obtain ⟨e8, e9, e6⟩ := hd
                      simp only [e8, e9, e6]
                      go_wp2_with fail
                      exact ⟨rfl, _, rfl, Below.refl _ _, rfl⟩
                    apply OpsOK.eq
                    · intro vs u hb hd
                      simp [Region.binds] at hd
                      obtain ⟨e6, e10⟩ := hd
                      simp only [e6, e10]
                      go_wp2_with fail
                      exact ⟨rfl, _, rfl, Below.refl _ _, rfl⟩
                    apply OpsOK.eq
                    · intro vs u hb hd
                      simp [Region.binds] at hd
                      obtain ⟨e11, e8⟩ := hd
                      simp only [e11, e8]
                      go_wp2_with fail
                      exact ⟨rfl, _, rfl, Below.refl _ _, rfl⟩
                    apply OpsOK.eq
                    · intro vs u hb hd
                      simp [Region.binds] at hd
                      have e12 := hd
                      clear hd
                      simp only [e12]
                      go_wp2_with fail
                      exact ⟨rfl, _, rfl, Below.refl _ _, rfl⟩
                    refine OpsOK.step (HsR w15.heap.size A.x il) (Stab_hs _ _ _) ?_ ?_
                    · intro vs u hb hd
                      simp [Region.binds] at hd
                      obtain ⟨e13, e12⟩ := hd
                      simp only [e13, e12]
                      go_wp2_with fail
                      refine (handlesA_any B { A with st := A.st + 1 + 1 } u (HS14.out.is.below hb) HS14.out.inv.f).mono ?_; rintro e w1 hh; obtain ⟨v, rfl, hr, hbel⟩ := hh.rs; clear hh; have hr2 : Rs w1 u.heap.size 31 v (slotsTo A.x 1 A.x.n).length (fun i => encH A.x ((slotsTo A.x 1 A.x.n).getD i 0)) := hr; rw [HIL.out] at hr2; go_wp2_with fail; exact ⟨rfl, _, rfl, hbel, hr2.low (hb.size)⟩
                    apply OpsOK.eq
                    · intro vs u hb hd
                      simp [Region.binds] at hd
                      have e12 := hd
                      clear hd
                      simp only [e12]
                      go_wp2_with fail
                      exact ⟨rfl, _, rfl, Below.refl _ _, rfl⟩
                    apply OpsOK.eq
                    · intro vs u hb hd
                      simp [Region.binds] at hd
                      obtain ⟨h14, e15, h14, e12⟩ := hd
                      simp only [e15, e12]
                      go_wp2_with fail
                      refine (equalHandles_self u _ (.slice al il cl) il (hsF A.x) (show Rs _ _ _ _ _ _ from h14).sl (show Rs u w1.heap.size 31 (.slice al il cl) il (fun i => .int .u64 (hsF A.x i)) from HL15.out.keep hb (Nat.le_refl _)).sl (by omega)).mono ?_; rintro e w1 ⟨rfl, n1, rfl⟩; go_wp2_with fail; exact ⟨rfl, _, rfl, below_drewN (Below.refl _ _) n1, rfl⟩
                    apply OpsOK.eq
                    · intro vs u hb hd
                      simp [Region.binds] at hd
                      obtain ⟨e12, e16⟩ := hd
                      simp only [e12, e16]
                      go_wp2_with fail
                      exact ⟨rfl, _, rfl, Below.refl _ _, rfl⟩
                    apply OpsOK.eq
                    · intro vs u hb hd
                      simp [Region.binds] at hd
                      obtain ⟨e17, e16⟩ := hd
                      simp only [e17, e16]
                      go_wp2_with fail
                      exact ⟨rfl, _, rfl, Below.refl _ _, rfl⟩
                    apply OpsOK.eq
                    · intro vs u hb hd
                      simp [Region.binds] at hd
                      have e18 := hd
                      clear hd
                      simp only [e18]
                      go_wp2_with fail
                      refine (awake13_any u).mono ?_; rintro e w1 ⟨rfl, hbel⟩; go_wp2_with fail; exact ⟨rfl, _, rfl, hbel, rfl⟩
                    apply OpsOK.eq
                    · intro vs u hb hd
                      simp [Region.binds] at hd
                      obtain ⟨e18, e19⟩ := hd
                      simp only [e18, e19]
                      go_wp2_with fail
                      exact ⟨rfl, _, rfl, Below.refl _ _, rfl⟩
                    apply OpsOK.eq
                    · intro vs u hb hd
                      simp [Region.binds] at hd
                      obtain ⟨e20, e19, e0, e1, e2, e3, e4, e5, e6, e7, e8, e9, e10, e11, e12, e13, h14, e15, e16, e17, e18, e19, e20⟩ := hd
                      simp only [e20, e19, e0, e1, e2, e3, e4, e5, e6, e7, e8, e9, e10, e11, e12, e13, e15, e16, e17, e18]
                      go_wp2_with fail
                      exact ⟨rfl, _, rfl, Below.refl _ _, rfl⟩
                    refine OpsOK.done ?_
                    intro vs u hbu hS
                    have h21 := hS 21 (by decide)
                    simp at h21
                    simp only [h21]
                    clear h21
                    clear hS
                    have HBV := Lib.hid (below_two HS14.out.low hbu)
                    clear hbu
                    go_wp2_with fail
                    go_ret
                    exact ⟨rfl, HBV.out⟩
                · obtain ⟨kk, hkk⟩ : ∃ kk, allocR A X = (kk, 0) := ⟨_, (allocR_fit HFT.out).trans htr⟩
                  obtain ⟨hl, hlen1, hm1, hk0⟩ := alloc_live HS.out.inv hkk
                  rw [hkk] at hal
                  have HAL := Lib.hid hal
                  have HLV := Lib.hid hl
                  have HLN := Lib.hid hlen1
                  have HK0 := Lib.hid hk0
                  have hmm1 : 0 < mm := by rw [← HMM.out]; exact hm1
                  have hmi : (0 : Int) < (mm : Int) := by omega
                  clear hal hl hlen1 hk0 hm1 hkk htr hm0 HFT
                  go_wp2_with fail
                  refine (HAL.out).mono ?_; rintro e w10 ⟨rfl, hs10, hk10⟩
                  have hc10 := box_turn HS.out.is hk10 HC.out plainS
                  have HS10 := Lib.hid hs10
                  clear hs10 hk10 HS HC HL HX HKX HAL HBR q0 q1 q2 f0 f1 f2 hz
                  (have q0 := block_cell hc10 0; have q1 := block_cell hc10 1; have q2 := block_cell hc10 2; have q3 := block_cell hc10 3; have q4 := block_cell hc10 4; have q5 := block_cell hc10 5; have q6 := block_cell hc10 6; have f0 := block_free hc10 0; have f1 := block_free hc10 1; have f2 := block_free hc10 2; have f3 := block_free hc10 3; have f4 := block_free hc10 4; have f5 := block_free hc10 5; have f6 := block_free hc10 6; have hz := block_lt hc10; simp at q0 q1 q2 q3 q4 q5 q6)
                  clear hc10
                  go_wp2_with fail
                  refine (liveA_yes B (allocS A X) kk w10 HK0.out HS10.out.is HLV.out).mono ?_; rintro e w11 ⟨rfl, n1, rfl⟩
                  go_wp2_with fail
                  refine (handlesA_any B (allocS A X) _ (HS10.out.is.drewN n1) HS10.out.inv.f).mono ?_; rintro e w12 hh
                  obtain ⟨vn, rfl, hfn, hbn⟩ := hh.rs
                  rw [HLN.out, HIL.out] at hfn
                  obtain ⟨an, cn, rfl, -⟩ := hfn
                  have HS12 := Lib.hid ((HS10.out.drewN n1).below hbn)
                  clear hh hbn
                  go_wp2_with fail
                  refine (awake13_any _).mono ?_; rintro e w13 ⟨rfl, hb⟩
                  have HB := Lib.hid (below_two HS12.out.low hb)
                  clear hb
                  go_wp2_with fail
                  go_ret
                  exact ⟨rfl, HB.out⟩
            | false =>
              have HNF := Lib.hid (HF.out rfl)
              clear HT HF
              as_aux_lemma =>
                obtain ⟨e9, hR, he0, he6, hA⟩ := allocR_nofit HNF.out
                have hal := soloAlloc w B A X xa X.kids.length xc wr HKX.out.1 HKX.out.2.1 (HKX.out.sep HS.out.is HS.out.ge) HS.out
                rw [hR, hA] at hal
                have HAL := Lib.hid hal
                have hq0 : (e9 == 0) = false := by simpa using he0
                have hq6 : (e9 == 6) = false := by simpa using he6
                clear hal hR hA he0 he6 HNF
                go_wp2_with fail
                refine (HAL.out).mono ?_; rintro e w10 ⟨rfl, hs10, hk10⟩
                have HS10 := Lib.hid hs10
                have HC10 := Lib.hid (box_turn HS.out.is hk10 HC.out plainS)
                have HL10 := Lib.hid (HL.out.turn HS.out.is hk10 plainH)
                clear hs10 hk10 HS HC HL HX HKX HAL HBR q0 q1 q2 f0 f1 f2 hz
                go_wp2_with fail
                refine wp_region_specs (by kernel_rfl) (by decide) (by kernel_rfl) ?_
                simp only [fill, Act.put, List.setIfInBounds_toArray, List.set_cons_zero, List.set_cons_succ, Nat.zero_add, Nat.reduceAdd]
                apply OpsOK.eq
                · intro vs u hb hd
                  clear hd
                  go_wp2_with fail
                  exact ⟨rfl, _, rfl, Below.refl _ _, rfl⟩
                apply OpsOK.eq
                · intro vs u hb hd
                  clear hd
                  go_wp2_with fail
                  exact ⟨rfl, _, rfl, Below.refl _ _, rfl⟩
                apply OpsOK.eq
                · intro vs u hb hd
                  simp [Region.binds] at hd
                  have e1 := hd
                  clear hd
                  simp only [e1]
                  go_wp2_with fail
                  exact ⟨rfl, _, rfl, Below.refl _ _, rfl⟩
                apply OpsOK.eq
                · intro vs u hb hd
                  simp [Region.binds] at hd
                  obtain ⟨e0, e2⟩ := hd
                  simp only [e0, e2]
                  go_wp2_with fail
                  exact ⟨rfl, _, rfl, Below.refl _ _, rfl⟩
                apply OpsOK.eq
                · intro vs u hb hd
                  simp [Region.binds] at hd
                  have e3 := hd
                  clear hd
                  simp only [e3]
                  go_wp2_with fail
                  exact ⟨rfl, _, rfl, Below.refl _ _, rfl⟩
                apply OpsOK.eq
                · intro vs u hb hd
                  simp [Region.binds] at hd
                  have e4 := hd
                  clear hd
                  simp only [e4]
                  go_wp2_with fail
                  exact ⟨rfl, _, rfl, Below.refl _ _, rfl⟩
                apply OpsOK.eq
                · intro vs u hb hd
                  simp [Region.binds] at hd
                  obtain ⟨e5, e4⟩ := hd
                  simp only [e5, e4]
                  go_wp2_with fail
                  exact ⟨rfl, _, rfl, Below.refl _ _, rfl⟩
                apply OpsOK.eq
                · intro vs u hb hd
                  simp [Region.binds] at hd
                  obtain ⟨e6, e4⟩ := hd
                  simp only [e6, e4]
                  go_wp2_with fail
                  exact ⟨rfl, _, rfl, Below.refl _ _, rfl⟩
                apply OpsOK.eq
                · intro vs u hb hd
                  simp [Region.binds] at hd
                  have e7 := hd
                  clear hd
                  simp only [e7]
                  go_wp2_with fail
                  exact ⟨rfl, _, rfl, Below.refl _ _, rfl⟩
                apply OpsOK.eq
                · intro vs u hb hd
                  simp [Region.binds] at hd
                  obtain ⟨e8, e7⟩ := hd
                  simp only [e8, e7]
                  go_wp2_with fail
                  exact ⟨rfl, _, rfl, Below.refl _ _, rfl⟩
                apply OpsOK.eq
                · intro vs u hb hd
                  simp [Region.binds] at hd
                  obtain ⟨e9, e7⟩ := hd
                  simp only [e9, e7]
                  go_wp2_with fail
                  exact ⟨rfl, _, rfl, Below.refl _ _, rfl⟩
                apply OpsOK.eq
                · intro vs u hb hd
                  simp [Region.binds] at hd
                  obtain ⟨e7, e10, e4⟩ := hd
                  simp only [e7, e10, e4]
                  go_wp2_with fail
                  exact ⟨rfl, _, rfl, Below.refl _ _, rfl⟩
                apply OpsOK.eq
                · intro vs u hb hd
                  simp [Region.binds] at hd
                  obtain ⟨e4, e11⟩ := hd
                  simp only [e4, e11]
                  go_wp2_with fail
                  exact ⟨rfl, _, rfl, Below.refl _ _, rfl⟩
                apply OpsOK.eq
                · intro vs u hb hd
                  simp [Region.binds] at hd
                  obtain ⟨e12, e7⟩ := hd
                  simp only [e12, e7]
                  go_wp2_with fail
                  exact ⟨rfl, _, rfl, Below.refl _ _, rfl⟩
                apply OpsOK.eq
                · intro vs u hb hd
                  simp [Region.binds] at hd
                  have e13 := hd
                  clear hd
                  simp only [e13]
                  go_wp2_with fail
                  exact ⟨rfl, _, rfl, Below.refl _ _, rfl⟩
                apply OpsOK.eq
                · intro vs u hb hd
                  simp [Region.binds] at hd
                  obtain ⟨e14, e13⟩ := hd
                  simp only [e14, e13]
                  go_wp2_with fail
                  exact ⟨rfl, _, rfl, Below.refl _ _, rfl⟩
                apply OpsOK.eq
                · intro vs u hb hd
                  simp [Region.binds] at hd
                  obtain ⟨e13, e15⟩ := hd
                  simp only [e13, e15]
                  go_wp2_with fail
                  exact ⟨rfl, _, rfl, Below.refl _ _, rfl⟩
                apply OpsOK.eq
                · intro vs u hb hd
                  simp [Region.binds] at hd
                  obtain ⟨e16, e13⟩ := hd
                  simp only [e16, e13]
                  go_wp2_with fail
                  exact ⟨rfl, _, rfl, Below.refl _ _, rfl⟩
                apply OpsOK.eq
                · intro vs u hb hd
                  simp [Region.binds] at hd
                  have e17 := hd
                  clear hd
                  simp only [e17]
                  go_wp2_with fail
                  exact ⟨rfl, _, rfl, Below.refl _ _, rfl⟩
                apply OpsOK.eq
                · intro vs u hb hd
                  simp [Region.binds] at hd
                  obtain ⟨e18, e17⟩ := hd
                  simp only [e18, e17]
                  go_wp2_with fail
                  refine (statsA_any B A u (HS10.out.is.below hb) HS10.out.inv.f).mono ?_; rintro e w1 ⟨rfl, hbel⟩; rw [HQ.out]; go_wp2_with fail; exact ⟨rfl, _, rfl, hbel, rfl⟩
                apply OpsOK.eq
                · intro vs u hb hd
                  simp [Region.binds] at hd
                  have e17 := hd
                  clear hd
                  simp only [e17]
                  have hz7 := block_below hb HC10.out (block_lt HC10.out)
                  have p0 := block_cell hz7 0
                  have p1 := block_cell hz7 1
                  have p2 := block_cell hz7 2
                  have p3 := block_cell hz7 3
                  have p4 := block_cell hz7 4
                  have p5 := block_cell hz7 5
                  have p6 := block_cell hz7 6
                  simp at p0 p1 p2 p3 p4 p5 p6
                  clear hz7
                  go_wp2_with fail
                  exact ⟨rfl, _, rfl, Below.refl _ _, rfl⟩
                apply OpsOK.eq
                · intro vs u hb hd
                  simp [Region.binds] at hd
                  obtain ⟨e19, e20, e17⟩ := hd
                  simp only [e19, e20, e17]
                  go_wp2_with fail
                  exact ⟨rfl, _, rfl, Below.refl _ _, rfl⟩
                apply OpsOK.eq
                · intro vs u hb hd
                  simp [Region.binds] at hd
                  obtain ⟨e17, e21⟩ := hd
                  simp only [e17, e21]
                  go_wp2_with fail
                  exact ⟨rfl, _, rfl, Below.refl _ _, rfl⟩
                apply OpsOK.eq
                · intro vs u hb hd
                  simp [Region.binds] at hd
                  obtain ⟨e22, e19⟩ := hd
                  simp only [e22, e19]
                  go_wp2_with fail
                  exact ⟨rfl, _, rfl, Below.refl _ _, rfl⟩
                apply OpsOK.eq
                · intro vs u hb hd
                  simp [Region.binds] at hd
                  have e23 := hd
                  clear hd
                  simp only [e23]
                  go_wp2_with fail
                  exact ⟨rfl, _, rfl, Below.refl _ _, rfl⟩
                refine OpsOK.step (HsR w10.heap.size A.x il) (Stab_hs _ _ _) ?_ ?_
                · intro vs u hb hd
                  simp [Region.binds] at hd
                  obtain ⟨e24, e23⟩ := hd
                  simp only [e24, e23]
                  go_wp2_with fail
                  refine (handlesA_any B A u (HS10.out.is.below hb) HS10.out.inv.f).mono ?_; rintro e w1 hh; obtain ⟨v, rfl, hr, hbel⟩ := hh.rs; clear hh; have hr2 : Rs w1 u.heap.size 31 v (slotsTo A.x 1 A.x.n).length (fun i => encH A.x ((slotsTo A.x 1 A.x.n).getD i 0)) := hr; rw [HIL.out] at hr2; go_wp2_with fail; exact ⟨rfl, _, rfl, hbel, hr2.low (hb.size)⟩
                apply OpsOK.eq
                · intro vs u hb hd
                  simp [Region.binds] at hd
                  have e23 := hd
                  clear hd
                  simp only [e23]
                  go_wp2_with fail
                  exact ⟨rfl, _, rfl, Below.refl _ _, rfl⟩
                apply OpsOK.eq
                · intro vs u hb hd
                  simp [Region.binds] at hd
                  obtain ⟨h25, e26, h25, e23⟩ := hd
                  simp only [e26, e23]
                  go_wp2_with fail
                  refine (equalHandles_self u _ (.slice al il cl) il (hsF A.x) (show Rs _ _ _ _ _ _ from h25).sl (show Rs u w1.heap.size 31 (.slice al il cl) il (fun i => .int .u64 (hsF A.x i)) from HL10.out.keep hb (Nat.le_refl _)).sl (by omega)).mono ?_; rintro e w1 ⟨rfl, n1, rfl⟩; go_wp2_with fail; exact ⟨rfl, _, rfl, below_drewN (Below.refl _ _) n1, rfl⟩
                apply OpsOK.eq
                · intro vs u hb hd
                  simp [Region.binds] at hd
                  obtain ⟨e27, e23⟩ := hd
                  simp only [e27, e23]
                  go_wp2_with fail
                  exact ⟨rfl, _, rfl, Below.refl _ _, rfl⟩
                apply OpsOK.eq
                · intro vs u hb hd
                  simp [Region.binds] at hd
                  obtain ⟨e23, e28⟩ := hd
                  simp only [e23, e28]
                  go_wp2_with fail
                  exact ⟨rfl, _, rfl, Below.refl _ _, rfl⟩
                refine OpsOK.done ?_
                intro vs u hbu hS
                have h29 := hS 29 (by decide)
                simp at h29
                simp only [h29]
                clear h29
                clear hS
                have HBU := Lib.hid hbu
                have HS11 := Lib.hid (HS10.out.below HBU.out)
                have HC11 := Lib.hid (block_below HBU.out HC10.out (block_lt HC10.out))
                have HL11 := Lib.hid (HL10.out.keep HBU.out (Nat.le_refl _))
                clear hbu HS10 HC10 HL10
                by_cases hlm : liveL A.x m
                · have HLM := Lib.hid hlm
                  clear hlm
                  go_wp2_with fail
                  refine (liveA_yes B A m u HM.out HS11.out.is HLM.out).mono ?_; rintro e w12 ⟨rfl, n1, rfl⟩
                  go_wp2_with fail
                  refine (awake13_any _).mono ?_; rintro e w13 ⟨rfl, hb⟩
                  have HB := Lib.hid (below_two (HS11.out.drewN n1).low hb)
                  clear hb
                  go_wp2_with fail
                  go_ret
                  exact ⟨rfl, HB.out⟩
                · have HLM := Lib.hid hlm
                  clear hlm
                  go_wp2_with fail
                  refine (liveA_no B A m u HM.out HS11.out.is HLM.out).mono ?_; rintro e w12 ⟨rfl, n1, rfl⟩
                  go_wp2_with fail
                  refine (soloGet_no w B A m _ (HS11.out.drewN n1) (by omega) HLM.out).mono ?_; rintro e w13 ⟨ay, cy, rfl, hs13, hk13⟩
                  have HS13 := Lib.hid (hs13.below ((Below.refl _ _).alloc (Nat.le_refl _) (.cells #[.int .i64 0, .string ⟨#[]⟩, .slice ay 0 cy] 36)))
                  have HC13 := Lib.hid (block_alloc (box_turn (HS11.out.is.drewN n1) hk13 HC11.out plainS) (.cells #[.int .i64 0, .string ⟨#[]⟩, .slice ay 0 cy] 36))
                  have HL13 := Lib.hid ((Rs.turn (w := u.drewN n1) (show Rs (u.drewN n1) w1.heap.size 31 (.slice al il cl) il (fun i => encH A.x ((slotsTo A.x 1 A.x.n).getD i 0)) from HL11.out) (HS11.out.is.drewN n1) hk13 plainH).keep ((Below.refl _ _).alloc (Nat.le_refl _) (.cells #[.int .i64 0, .string ⟨#[]⟩, .slice ay 0 cy] 36)) (Nat.le_refl _))
                  clear hs13 hk13 HC11 HL11
                  go_wp2_with fail
                  refine (soloFree w B { A with st := A.st + 1 } m _ HM.out.1 HM.out.2 HS13.out (by show A.st + 1 ≤ _; omega)).mono ?_; rintro e w14 ⟨rfl, hs14, hk14⟩
                  rw [show getE ({ A with st := A.st + 1 } : AS) m = 10 from if_neg HLM.out]
                  rw [show freeS ({ A with st := A.st + 1 } : AS) m = { A with st := A.st + 1 + 1 } from freeS_no HLM.out] at hs14
                  have hc14 := box_turn HS13.out.is hk14 HC13.out plainS
                  have HC14 := Lib.hid hc14
                  have HL14 := Lib.hid (HL13.out.turn HS13.out.is hk14 plainH)
                  have HS14 := Lib.hid (hs14.set (i := 6) HSB.out (hs14.is.nownP hc14 plainS) (notKb hc14 plainS.n6) (.int .i64 ((A.st : Int) + 2)))
                  have HC15 := Lib.hid (block_setCell HC14.out 6 (.int .i64 ((A.st : Int) + 2)))
                  have HL15 := Lib.hid (HL14.out.far (i := 6) HC14.out (by decide) (.int .i64 ((A.st : Int) + 2)))
                  have HQ2 := Lib.hid (stats_st HQ.out)
                  clear hs14 hk14 HS13 HC13 HL13 HL14
                  (have q0 := block_cell hc14 0; have q1 := block_cell hc14 1; have q2 := block_cell hc14 2; have q3 := block_cell hc14 3; have q4 := block_cell hc14 4; have q5 := block_cell hc14 5; have q6 := block_cell hc14 6; have f0 := block_free hc14 0; have f1 := block_free hc14 1; have f2 := block_free hc14 2; have f3 := block_free hc14 3; have f4 := block_free hc14 4; have f5 := block_free hc14 5; have f6 := block_free hc14 6; have hz := block_lt hc14; simp at q0 q1 q2 q3 q4 q5 q6)
                  clear hc14
                  go_wp2_with fail
                  clear q0 q1 q2 q3 q4 q5 q6 f0 f1 f2 f3 f4 f5 f6 hz HC14
                  generalize w14.setCell ⟨Sb, 6, none⟩ (.int .i64 ((A.st : Int) + 2)) = w15 at *
                  simp only [List.setIfInBounds_toArray, List.set_cons_zero, List.set_cons_succ] at HC15
                  refine wp_region_specs (by kernel_rfl) (by decide) (by kernel_rfl) ?_
                  simp only [fill, Act.put, List.setIfInBounds_toArray, List.set_cons_zero, List.set_cons_succ, Nat.zero_add, Nat.reduceAdd]
                  apply OpsOK.eq
                  · intro vs u hb hd
                    clear hd
                    go_wp2_with fail
                    exact ⟨rfl, _, rfl, Below.refl _ _, rfl⟩
                  apply OpsOK.eq
                  · intro vs u hb hd
                    simp [Region.binds] at hd
                    have e0 := hd
                    clear hd
                    simp only [e0]
                    go_wp2_with fail
                    exact ⟨rfl, _, rfl, Below.refl _ _, rfl⟩
                  apply OpsOK.eq
                  · intro vs u hb hd
                    simp [Region.binds] at hd
                    have e1 := hd
                    clear hd
                    simp only [e1]
                    go_wp2_with fail
                    exact ⟨rfl, _, rfl, Below.refl _ _, rfl⟩
                  apply OpsOK.eq
                  · intro vs u hb hd
                    simp [Region.binds] at hd
                    have e2 := hd
                    clear hd
                    simp only [e2]
                    go_wp2_with fail
                    exact ⟨rfl, _, rfl, Below.refl _ _, rfl⟩
                  apply OpsOK.eq
                  · intro vs u hb hd
                    simp [Region.binds] at hd
                    obtain ⟨e3, e2⟩ := hd
                    simp only [e3, e2]
                    go_wp2_with fail
                    exact ⟨rfl, _, rfl, Below.refl _ _, rfl⟩
                  apply OpsOK.eq
                  · intro vs u hb hd
                    simp [Region.binds] at hd
                    obtain ⟨e2, e4⟩ := hd
                    simp only [e2, e4]
                    go_wp2_with fail
                    exact ⟨rfl, _, rfl, Below.refl _ _, rfl⟩
                  apply OpsOK.eq
                  · intro vs u hb hd
                    simp [Region.binds] at hd
                    obtain ⟨e5, e2⟩ := hd
                    simp only [e5, e2]
                    go_wp2_with fail
                    exact ⟨rfl, _, rfl, Below.refl _ _, rfl⟩
                  apply OpsOK.eq
                  · intro vs u hb hd
                    simp [Region.binds] at hd
                    have e6 := hd
                    clear hd
                    simp only [e6]
                    go_wp2_with fail
                    exact ⟨rfl, _, rfl, Below.refl _ _, rfl⟩
                  apply OpsOK.eq
                  · intro vs u hb hd
                    simp [Region.binds] at hd
                    obtain ⟨e7, e6⟩ := hd
                    simp only [e7, e6]
                    go_wp2_with fail
                    refine (statsA_any B { A with st := A.st + 1 + 1 } u (HS14.out.is.below hb) HS14.out.inv.f).mono ?_; rintro e w1 ⟨rfl, hbel⟩; rw [HQ2.out]; go_wp2_with fail; exact ⟨rfl, _, rfl, hbel, rfl⟩
                  apply OpsOK.eq
                  · intro vs u hb hd
                    simp [Region.binds] at hd
                    have e6 := hd
                    clear hd
                    simp only [e6]
                    have hz7 := block_below hb HC15.out (block_lt HC15.out)
                    have p0 := block_cell hz7 0
                    have p1 := block_cell hz7 1
                    have p2 := block_cell hz7 2
                    have p3 := block_cell hz7 3
                    have p4 := block_cell hz7 4
                    have p5 := block_cell hz7 5
                    have p6 := block_cell hz7 6
                    simp at p0 p1 p2 p3 p4 p5 p6
                    clear hz7
                    go_wp2_with fail
                    exact ⟨rfl, _, rfl, Below.refl _ _, rfl⟩
                  apply OpsOK.eq
                  · intro vs u hb hd
                    simp [Region.binds] at hd
                    obtain ⟨e8, e9, e6⟩ := hd
                    simp only [e8, e9, e6]
                    go_wp2_with fail
                    exact ⟨rfl, _, rfl, Below.refl _ _, rfl⟩
                  apply OpsOK.eq
                  · intro vs u hb hd
                    simp [Region.binds] at hd
                    obtain ⟨e6, e10⟩ := hd
                    simp only [e6, e10]
                    go_wp2_with fail
                    exact ⟨rfl, _, rfl, Below.refl _ _, rfl⟩
                  apply OpsOK.eq
                  · intro vs u hb hd
                    simp [Region.binds] at hd
                    obtain ⟨e11, e8⟩ := hd
                    simp only [e11, e8]
                    go_wp2_with fail
                    exact ⟨rfl, _, rfl, Below.refl _ _, rfl⟩
                  apply OpsOK.eq
                  · intro vs u hb hd
                    simp [Region.binds] at hd
                    have e12 := hd
                    clear hd
                    simp only [e12]
                    go_wp2_with fail
                    exact ⟨rfl, _, rfl, Below.refl _ _, rfl⟩
                  refine OpsOK.step (HsR w15.heap.size A.x il) (Stab_hs _ _ _) ?_ ?_
                  · intro vs u hb hd
                    simp [Region.binds] at hd
                    obtain ⟨e13, e12⟩ := hd
                    simp only [e13, e12]
                    go_wp2_with fail
                    refine (handlesA_any B { A with st := A.st + 1 + 1 } u (HS14.out.is.below hb) HS14.out.inv.f).mono ?_; rintro e w1 hh; obtain ⟨v, rfl, hr, hbel⟩ := hh.rs; clear hh; have hr2 : Rs w1 u.heap.size 31 v (slotsTo A.x 1 A.x.n).length (fun i => encH A.x ((slotsTo A.x 1 A.x.n).getD i 0)) := hr; rw [HIL.out] at hr2; go_wp2_with fail; exact ⟨rfl, _, rfl, hbel, hr2.low (hb.size)⟩
                  apply OpsOK.eq
                  · intro vs u hb hd
                    simp [Region.binds] at hd
                    have e12 := hd
                    clear hd
                    simp only [e12]
                    go_wp2_with fail
                    exact ⟨rfl, _, rfl, Below.refl _ _, rfl⟩
                  apply OpsOK.eq
                  · intro vs u hb hd
                    simp [Region.binds] at hd
                    obtain ⟨h14, e15, h14, e12⟩ := hd
                    simp only [e15, e12]
                    go_wp2_with fail
                    refine (equalHandles_self u _ (.slice al il cl) il (hsF A.x) (show Rs _ _ _ _ _ _ from h14).sl (show Rs u w1.heap.size 31 (.slice al il cl) il (fun i => .int .u64 (hsF A.x i)) from HL15.out.keep hb (Nat.le_refl _)).sl (by omega)).mono ?_; rintro e w1 ⟨rfl, n1, rfl⟩; go_wp2_with fail; exact ⟨rfl, _, rfl, below_drewN (Below.refl _ _) n1, rfl⟩
                  apply OpsOK.eq
                  · intro vs u hb hd
                    simp [Region.binds] at hd
                    obtain ⟨e12, e16⟩ := hd
                    simp only [e12, e16]
                    go_wp2_with fail
                    exact ⟨rfl, _, rfl, Below.refl _ _, rfl⟩
                  apply OpsOK.eq
                  · intro vs u hb hd
                    simp [Region.binds] at hd
                    obtain ⟨e17, e16⟩ := hd
                    simp only [e17, e16]
                    go_wp2_with fail
                    exact ⟨rfl, _, rfl, Below.refl _ _, rfl⟩
                  apply OpsOK.eq
                  · intro vs u hb hd
                    simp [Region.binds] at hd
                    have e18 := hd
                    clear hd
                    simp only [e18]
                    go_wp2_with fail
                    refine (awake13_any u).mono ?_; rintro e w1 ⟨rfl, hbel⟩; go_wp2_with fail; exact ⟨rfl, _, rfl, hbel, rfl⟩
                  apply OpsOK.eq
                  · intro vs u hb hd
                    simp [Region.binds] at hd
                    obtain ⟨e18, e19⟩ := hd
                    simp only [e18, e19]
                    go_wp2_with fail
                    exact ⟨rfl, _, rfl, Below.refl _ _, rfl⟩
                  apply OpsOK.eq
                  · intro vs u hb hd
                    simp [Region.binds] at hd
                    obtain ⟨e20, e19, e0, e1, e2, e3, e4, e5, e6, e7, e8, e9, e10, e11, e12, e13, h14, e15, e16, e17, e18, e19, e20⟩ := hd
                    simp only [e20, e19, e0, e1, e2, e3, e4, e5, e6, e7, e8, e9, e10, e11, e12, e13, e15, e16, e17, e18]
                    go_wp2_with fail
                    exact ⟨rfl, _, rfl, Below.refl _ _, rfl⟩
                  refine OpsOK.done ?_
                  intro vs u hbu hS
                  have h21 := hS 21 (by decide)
                  simp at h21
                  simp only [h21]
                  clear h21
                  clear hS
                  have HBV := Lib.hid (below_two HS14.out.low hbu)
                  clear hbu
                  go_wp2_with fail
                  go_ret
                  exact ⟨rfl, HBV.out⟩
      · clear hlt
        obtain ⟨n0, mm, il, wd, hq, hn0, hmm, hil, hwd, hn16, hil16⟩ := statsV HST.out.s
        have HQ := Lib.hid hq
        have HMM := Lib.hid hmm
        have HIL := Lib.hid hil
        clear hq hn0 hmm hil hwd
        have hstb : A.st ≤ 1000 := by omega
        go_wp2_with fail
        refine (statsA_any B A wr HST.out.s.is HST.out.s.inv.f).mono ?_; rintro e w1 ⟨rfl, hb⟩
        have HS1 := Lib.hid (HST.out.s.below hb)
        have HX1 := Lib.hid (block_below hb HX.out (block_lt HX.out))
        have HSZ1 := Lib.hid hb.size
        clear hb HX
        rw [HQ.out]
        go_wp2_with fail
        refine (handlesA_any B A w1 HS1.out.is HS1.out.inv.f).mono ?_; rintro e w2 hh
        obtain ⟨vl, rfl, hfl, hb⟩ := hh.rs
        rw [HIL.out] at hfl
        obtain ⟨al, cl, rfl, -⟩ := id hfl
        have HS2 := Lib.hid ((HS1.out.below hb).below ((Below.refl _ _).alloc (Nat.le_refl _) (.cells #[.int .i64 (n0 : Nat), .int .i64 (mm : Nat), .int .i64 (il : Nat), .int .i64 (wd : Nat), .int .i64 A.al, .int .i64 A.fr, .int .i64 A.st] 38)))
        have HX2 := Lib.hid (block_alloc (block_below hb HX1.out (block_lt HX1.out)) (.cells #[.int .i64 (n0 : Nat), .int .i64 (mm : Nat), .int .i64 (il : Nat), .int .i64 (wd : Nat), .int .i64 A.al, .int .i64 A.fr, .int .i64 A.st] 38))
        have HSZ2 := Lib.hid hb.size
        have HXB := Lib.hid (block_below hb HX1.out (block_lt HX1.out))
        have HL2 := Lib.hid (show Rs (w2.alloc (.cells #[.int .i64 (n0 : Nat), .int .i64 (mm : Nat), .int .i64 (il : Nat), .int .i64 (wd : Nat), .int .i64 A.al, .int .i64 A.fr, .int .i64 A.st] 38)) w1.heap.size 31 (.slice al il cl) il _ from hfl.keep ((Below.refl _ _).alloc (Nat.le_refl _) (.cells #[.int .i64 (n0 : Nat), .int .i64 (mm : Nat), .int .i64 (il : Nat), .int .i64 (wd : Nat), .int .i64 A.al, .int .i64 A.fr, .int .i64 A.st] 38)) (Nat.le_refl _))
        have HC2 := Lib.hid (block_new w2 (.cells #[.int .i64 (n0 : Nat), .int .i64 (mm : Nat), .int .i64 (il : Nat), .int .i64 (wd : Nat), .int .i64 A.al, .int .i64 A.fr, .int .i64 A.st] 38))
        clear hb hh hfl HS1 HX1
        have HKX := Lib.hid (HXK.out.later HS2.out.low)
        have HSB := Lib.hid (show w.heap.size ≤ w2.heap.size from Nat.le_trans HST.out.s.low.size (Nat.le_trans HSZ1.out HSZ2.out))
        have hx2 := HXB.out
        (have q0 := block_cell hx2 0; have q1 := block_cell hx2 1; have q2 := block_cell hx2 2; have f0 := block_free hx2 0; have f1 := block_free hx2 1; have f2 := block_free hx2 2; have hz := block_lt hx2; simp at q0 q1 q2)
        clear hx2 HXB
        go_wp2_with fail
        refine (check_any X xa X.kids.length xc _ HKX.out.1).mono ?_; rintro e w4 ⟨rfl, hb⟩
        obtain ⟨Sb, hSb⟩ : ∃ Sb, Sb = w2.heap.size := ⟨_, rfl⟩
        rw [← hSb] at HC2 HSB
        have HS4 := Lib.hid (HS2.out.below hb)
        have HX4 := Lib.hid (block_below hb HX2.out (block_lt HX2.out))
        have HL4 := Lib.hid (show Rs w4 w1.heap.size 31 (.slice al il cl) il _ from HL2.out.keep hb (Nat.le_refl _))
        have HC4 := Lib.hid (block_below hb HC2.out (block_lt HC2.out))
        have HKX4 := Lib.hid (HKX.out.later hb)
        rw [← hSb]
        clear hb hSb HS2 HX2 HL2 HC2 HKX HST q0 q1 q2 f0 f1 f2 hz
        go_wp2_with fail
        go_loopw [19, 20] (fun s19 s20 wr2 => ∃ (i : Nat) (b : Bool), i ≤ X.kids.length ∧ s20 = .int .i64 i ∧ s19 = .bool b ∧ (b = true → checkN X = 0 ∧ kidsE A X.h (X.kids.drop i) = kidsE A X.h X.kids) ∧ (b = false → ¬ fitsP A X) ∧ Below w4.heap.size w4 wr2) (fun _ s20 _ => X.kids.length - (intOf s20).toNat)
        case atStart => exact ⟨0, checkN X == 0, Nat.zero_le _, rfl, rfl, fun h => ⟨by simpa using h, rfl⟩, (fun h hf => by rw [hf.1] at h; cases h), Below.refl _ _⟩
        case round =>
          obtain ⟨i, b, hin, rfl, rfl, ht, hf, hbr⟩ := hrel
          have HT := Lib.hid ht
          have HF := Lib.hid hf
          have HS := Lib.hid (HS4.out.below hbr)
          have HX := Lib.hid (block_below hbr HX4.out (block_lt HX4.out))
          have HL := Lib.hid (show Rs wr w1.heap.size 31 (.slice al il cl) il _ from HL4.out.keep hbr (Nat.le_refl _))
          have HC := Lib.hid (block_below hbr HC4.out (block_lt HC4.out))
          have HKX := Lib.hid (HKX4.out.later hbr)
          have HBR := Lib.hid hbr
          have hx2 := HX.out
          (have q0 := block_cell hx2 0; have q1 := block_cell hx2 1; have q2 := block_cell hx2 2; have f0 := block_free hx2 0; have f1 := block_free hx2 1; have f2 := block_free hx2 2; have hz := block_lt hx2; simp at q0 q1 q2)
          clear ht hf hbr hx2
          by_cases hlt2 : i < X.kids.length
          · have hj1 : (i : Int) < (X.kids.length : Int) := by omega
            cases b with
            | true =>
              obtain ⟨hck, hke⟩ := HT.out rfl
              have HCK := Lib.hid hck
              have hxb := height_in hck (by omega)
              have hk4 := kids4 hck
              have hst := kidsE_step (A := A) (h := X.h) hlt2
              rw [hke] at hst
              have HKE := Lib.hid hke
              have HUR := Lib.hid (HKX.out.1.2.1 _ (List.getElem_mem hlt2))
              obtain ⟨bb2, off2, rfl, hcell⟩ := HKX.out.1.2.2 (by omega)
              have hbb := cellK_lt (hcell i hlt2)
              obtain ⟨e0, e1, e2, e3⟩ := hcell i hlt2
              have HST := Lib.hid hst
              clear hst hck hke hcell
              generalize X.kids[i] = kd at *
              obtain ⟨kat, m0, m1, m2⟩ := kd
              simp only at e0 e1 e2 e3
              by_cases hlv : liveL A.x kat
              · obtain ⟨hmem, hlk⟩ := nodeOf_live HS.out.inv hlv
                have HOK := Lib.hid (HS.out.inv.ok _ hmem)
                have hst := HST.out
                simp only at hst
                rw [hlk] at hst
                simp only at hst
                have HST2 := Lib.hid hst
                have HLV := Lib.hid hlv
                have HGT := Lib.hid (fun n => getA_live B A kat (wr.drewN n) (HS.out.is.drewN n) HS.out.inv hlv)
                clear hst hmem hlk hlv HST
                simp only at HOK HST2
                generalize nodeOf A kat = nd at *
                go_wp2_with fail
                refine (liveA_yes B A kat wr HUR.out HS.out.is HLV.out).mono ?_; rintro e w5 ⟨rfl, n1, rfl⟩
                go_wp2_with fail
                refine (HGT.out n1).mono ?_; rintro e w6 ⟨v, rfl, hown, hb6⟩
                obtain ⟨sl, rfl, hks⟩ := hown
                obtain ⟨ao2, cap2, rfl, hik, -, -⟩ := hks.ks
                have HB6 := Lib.hid (below_two (below_drewN (Below.refl wr.heap.size wr) n1) hb6)
                have HIK := Lib.hid (hik.later ((Below.refl _ _).alloc (Nat.le_refl _) (.cells #[.int .i64 nd.h, .string nd.text, .slice ao2 nd.kids.length cap2] 36)))
                have hy6 := block_new w6 (.cells #[.int .i64 nd.h, .string nd.text, .slice ao2 nd.kids.length cap2] 36)
                have HY6 := Lib.hid hy6
                have HB6b := Lib.hid (HB6.out.alloc HB6.out.size (.cells #[.int .i64 nd.h, .string nd.text, .slice ao2 nd.kids.length cap2] 36))
                clear hb6 hks hik q0 q1 q2 f0 f1 f2 hz HGT
                (have q0 := block_cell hy6 0; have q1 := block_cell hy6 1; have q2 := block_cell hy6 2; have f0 := block_free hy6 0; have f1 := block_free hy6 1; have f2 := block_free hy6 2; have hz := block_lt hy6; simp at q0 q1 q2)
                clear hy6
                go_wp2_with fail
                refine (measure_any nd ao2 nd.kids.length cap2 _ HIK.out).mono ?_; rintro e w7 ⟨rfl, hb7⟩
                rw [HOK.out]
                unfold aggM
                have HB7 := Lib.hid (below_two HB6b.out hb7)
                have HY7 := Lib.hid (block_below hb7 HY6.out (block_lt HY6.out))
                clear hb7 q0 q1 q2 f0 f1 f2 hz HIK HB6b
                generalize measN nd = mq at *
                obtain ⟨a0, a1, a2⟩ := mq
                try simp only at HST2
                simp only
                go_wp2_with fail
                have HB8 := Lib.hid (HB7.out.alloc HB7.out.size (.cells #[.int .i64 a0, .int .i64 a1, .int .i64 a2] 62))
                have hy8 := block_alloc HY7.out (.cells #[.int .i64 a0, .int .i64 a1, .int .i64 a2] 62)
                have hm8 := block_new w7 (.cells #[.int .i64 a0, .int .i64 a1, .int .i64 a2] 62)
                generalize w7.alloc (.cells #[.int .i64 a0, .int .i64 a1, .int .i64 a2] 62) = w8 at *
                have hx8 := block_below HB8.out HX.out (block_lt HX.out)
                have x1 := (HB8.out.cell (p := ⟨bb2, _, none⟩) hbb).trans e1
                have x2 := (HB8.out.cell (p := ⟨bb2, _, none⟩) hbb).trans e2
                have x3 := (HB8.out.cell (p := ⟨bb2, _, none⟩) hbb).trans e3
                clear e0 e1 e2 e3
                have p0 := block_cell hy8 0
                have r0 := block_cell hm8 0
                have r1 := block_cell hm8 1
                have r2 := block_cell hm8 2
                simp at p0 r0 r1 r2
                (have q0 := block_cell hx8 0; have q1 := block_cell hx8 1; have q2 := block_cell hx8 2; have f0 := block_free hx8 0; have f1 := block_free hx8 1; have f2 := block_free hx8 2; have hz := block_lt hx8; simp at q0 q1 q2)
                clear hy8 hm8 hx8
                have HBE := Lib.hid (fun n => (HBR.out.trans ((below_drewN HB8.out n).mono HBR.out.size)))
                by_cases ch : nd.h = X.h - 1
                · have ch3 : (nd.h == X.h - 1) = true := by simpa using ch
                  by_cases d0 : a0 = m0
                  · by_cases d1 : a1 = m1
                    · by_cases d2 : a2 = m2
                      · subst d0 d1 d2
                        have HS2 := Lib.hid (HST2.out.trans (if_pos ⟨ch, rfl⟩))
                        clear ch
                        go_quiet (fail)
                        go_wp2_with fail
                        go_roundw
                        case rel => exact ⟨i + 1, true, by omega, by go_num, rfl, fun _ => ⟨HCK.out, HS2.out.symm⟩, (fun h => by cases h), HBE.out _⟩
                        case measure => simp [intOf]; omega
                      · have HE := Lib.hid (HST2.out.trans (if_neg (fun h => d2 (by have := h.2; injection this with _ this; injection this))))
                        have hne : (a2 == m2) = false := by simpa using d2
                        clear ch d2
                        subst d0 d1
                        go_quiet (fail)
                        go_wp2_with fail
                        go_roundw
                        case rel => exact ⟨i + 1, false, by omega, by go_num, rfl, (fun h => by cases h), fun _ hf => absurd (HE.out.symm.trans hf.2) (by decide), HBE.out _⟩
                        case measure => simp [intOf]; omega
                    · have HE := Lib.hid (HST2.out.trans (if_neg (fun h => d1 (by have := h.2; injection this with _ this; injection this))))
                      have hne : (a1 == m1) = false := by simpa using d1
                      clear ch d1
                      subst d0
                      go_quiet (fail)
                      go_wp2_with fail
                      go_roundw
                      case rel => exact ⟨i + 1, false, by omega, by go_num, rfl, (fun h => by cases h), fun _ hf => absurd (HE.out.symm.trans hf.2) (by decide), HBE.out _⟩
                      case measure => simp [intOf]; omega
                  · have HE := Lib.hid (HST2.out.trans (if_neg (fun h => d0 (by have := h.2; injection this))))
                    have hne : (a0 == m0) = false := by simpa using d0
                    clear ch d0
                    go_quiet (fail)
                    go_wp2_with fail
                    go_roundw
                    case rel => exact ⟨i + 1, false, by omega, by go_num, rfl, (fun h => by cases h), fun _ hf => absurd (HE.out.symm.trans hf.2) (by decide), HBE.out _⟩
                    case measure => simp [intOf]; omega
                · have HE := Lib.hid (HST2.out.trans (if_neg (fun h => ch h.1)))
                  have ch3 : (nd.h == X.h - 1) = false := by simpa using ch
                  clear ch
                  go_quiet (fail)
                  go_wp2_with fail
                  go_roundw
                  case rel => exact ⟨i + 1, false, by omega, by go_num, rfl, (fun h => by cases h), fun _ hf => absurd (HE.out.symm.trans hf.2) (by decide), HBE.out _⟩
                  case measure => simp [intOf]; omega
              · have hst := HST.out
                simp only at hst
                rw [(nodeOf_dead HS.out.inv hlv).2] at hst
                simp only at hst
                have HE := Lib.hid hst
                have HLV := Lib.hid hlv
                clear hst hlv HST
                go_wp2_with fail
                refine (liveA_no B A kat wr HUR.out HS.out.is HLV.out).mono ?_; rintro e w5 ⟨rfl, n1, rfl⟩
                go_wp2_with fail
                go_roundw
                case rel => exact ⟨i + 1, false, by omega, by go_num, rfl, (fun h => by cases h), fun _ hf => absurd (HE.out.symm.trans hf.2) (by decide), below_drewN HBR.out n1⟩
                case measure => simp [intOf]; omega
            | false =>
              have HNF := Lib.hid (HF.out rfl)
              clear HT HF
              as_aux_lemma =>
                obtain ⟨e9, hR, he0, he6, hA⟩ := allocR_nofit HNF.out
                have hal := soloAlloc w B A X xa X.kids.length xc wr HKX.out.1 HKX.out.2.1 (HKX.out.sep HS.out.is HS.out.ge) HS.out
                rw [hR, hA] at hal
                have HAL := Lib.hid hal
                have hq0 : (e9 == 0) = false := by simpa using he0
                have hq6 : (e9 == 6) = false := by simpa using he6
                clear hal hR hA he0 he6 HNF
                go_wp2_with fail
                refine (HAL.out).mono ?_; rintro e w10 ⟨rfl, hs10, hk10⟩
                have HS10 := Lib.hid hs10
                have HC10 := Lib.hid (box_turn HS.out.is hk10 HC.out plainS)
                have HL10 := Lib.hid (HL.out.turn HS.out.is hk10 plainH)
                clear hs10 hk10 HS HC HL HX HKX HAL HBR q0 q1 q2 f0 f1 f2 hz
                go_wp2_with fail
                refine wp_region_specs (by kernel_rfl) (by decide) (by kernel_rfl) ?_
                simp only [fill, Act.put, List.setIfInBounds_toArray, List.set_cons_zero, List.set_cons_succ, Nat.zero_add, Nat.reduceAdd]
                apply OpsOK.eq
                · intro vs u hb hd
                  clear hd
                  go_wp2_with fail
                  exact ⟨rfl, _, rfl, Below.refl _ _, rfl⟩
                apply OpsOK.eq
                · intro vs u hb hd
                  clear hd
                  go_wp2_with fail
                  exact ⟨rfl, _, rfl, Below.refl _ _, rfl⟩
                apply OpsOK.eq
                · intro vs u hb hd
                  simp [Region.binds] at hd
                  have e1 := hd
                  clear hd
                  simp only [e1]
                  go_wp2_with fail
                  exact ⟨rfl, _, rfl, Below.refl _ _, rfl⟩
                apply OpsOK.eq
                · intro vs u hb hd
                  simp [Region.binds] at hd
                  obtain ⟨e0, e2⟩ := hd
                  simp only [e0, e2]
                  go_wp2_with fail
                  exact ⟨rfl, _, rfl, Below.refl _ _, rfl⟩
                apply OpsOK.eq
                · intro vs u hb hd
                  simp [Region.binds] at hd
                  have e3 := hd
                  clear hd
                  simp only [e3]
                  go_wp2_with fail
                  exact ⟨rfl, _, rfl, Below.refl _ _, rfl⟩
                apply OpsOK.eq
                · intro vs u hb hd
                  simp [Region.binds] at hd
                  have e4 := hd
                  clear hd
                  simp only [e4]
                  go_wp2_with fail
                  exact ⟨rfl, _, rfl, Below.refl _ _, rfl⟩
                apply OpsOK.eq
                · intro vs u hb hd
                  simp [Region.binds] at hd
                  obtain ⟨e5, e4⟩ := hd
                  simp only [e5, e4]
                  go_wp2_with fail
                  exact ⟨rfl, _, rfl, Below.refl _ _, rfl⟩
                apply OpsOK.eq
                · intro vs u hb hd
                  simp [Region.binds] at hd
                  obtain ⟨e6, e4⟩ := hd
                  simp only [e6, e4]
                  go_wp2_with fail
                  exact ⟨rfl, _, rfl, Below.refl _ _, rfl⟩
                apply OpsOK.eq
                · intro vs u hb hd
                  simp [Region.binds] at hd
                  have e7 := hd
                  clear hd
                  simp only [e7]
                  go_wp2_with fail
                  exact ⟨rfl, _, rfl, Below.refl _ _, rfl⟩
                apply OpsOK.eq
                · intro vs u hb hd
                  simp [Region.binds] at hd
                  obtain ⟨e8, e7⟩ := hd
                  simp only [e8, e7]
                  go_wp2_with fail
                  exact ⟨rfl, _, rfl, Below.refl _ _, rfl⟩
                apply OpsOK.eq
                · intro vs u hb hd
                  simp [Region.binds] at hd
                  obtain ⟨e9, e7⟩ := hd
                  simp only [e9, e7]
                  go_wp2_with fail
                  exact ⟨rfl, _, rfl, Below.refl _ _, rfl⟩
                apply OpsOK.eq
                · intro vs u hb hd
                  simp [Region.binds] at hd
                  obtain ⟨e7, e10, e4⟩ := hd
                  simp only [e7, e10, e4]
                  go_wp2_with fail
                  exact ⟨rfl, _, rfl, Below.refl _ _, rfl⟩
                apply OpsOK.eq
                · intro vs u hb hd
                  simp [Region.binds] at hd
                  obtain ⟨e4, e11⟩ := hd
                  simp only [e4, e11]
                  go_wp2_with fail
                  exact ⟨rfl, _, rfl, Below.refl _ _, rfl⟩
                apply OpsOK.eq
                · intro vs u hb hd
                  simp [Region.binds] at hd
                  obtain ⟨e12, e7⟩ := hd
                  simp only [e12, e7]
                  go_wp2_with fail
                  exact ⟨rfl, _, rfl, Below.refl _ _, rfl⟩
                apply OpsOK.eq
                · intro vs u hb hd
                  simp [Region.binds] at hd
                  have e13 := hd
                  clear hd
                  simp only [e13]
                  go_wp2_with fail
                  exact ⟨rfl, _, rfl, Below.refl _ _, rfl⟩
                apply OpsOK.eq
                · intro vs u hb hd
                  simp [Region.binds] at hd
                  obtain ⟨e14, e13⟩ := hd
                  simp only [e14, e13]
                  go_wp2_with fail
                  exact ⟨rfl, _, rfl, Below.refl _ _, rfl⟩
                apply OpsOK.eq
                · intro vs u hb hd
                  simp [Region.binds] at hd
                  obtain ⟨e13, e15⟩ := hd
                  simp only [e13, e15]
                  go_wp2_with fail
                  exact ⟨rfl, _, rfl, Below.refl _ _, rfl⟩
                apply OpsOK.eq
                · intro vs u hb hd
                  simp [Region.binds] at hd
                  obtain ⟨e16, e13⟩ := hd
                  simp only [e16, e13]
                  go_wp2_with fail
                  exact ⟨rfl, _, rfl, Below.refl _ _, rfl⟩
                apply OpsOK.eq
                · intro vs u hb hd
                  simp [Region.binds] at hd
                  have e17 := hd
                  clear hd
                  simp only [e17]
                  go_wp2_with fail
                  exact ⟨rfl, _, rfl, Below.refl _ _, rfl⟩
                apply OpsOK.eq
                · intro vs u hb hd
                  simp [Region.binds] at hd
                  obtain ⟨e18, e17⟩ := hd
                  simp only [e18, e17]
                  go_wp2_with fail
                  refine (statsA_any B A u (HS10.out.is.below hb) HS10.out.inv.f).mono ?_; rintro e w1 ⟨rfl, hbel⟩; rw [HQ.out]; go_wp2_with fail; exact ⟨rfl, _, rfl, hbel, rfl⟩
                apply OpsOK.eq
                · intro vs u hb hd
                  simp [Region.binds] at hd
                  have e17 := hd
                  clear hd
                  simp only [e17]
                  have hz7 := block_below hb HC10.out (block_lt HC10.out)
                  have p0 := block_cell hz7 0
                  have p1 := block_cell hz7 1
                  have p2 := block_cell hz7 2
                  have p3 := block_cell hz7 3
                  have p4 := block_cell hz7 4
                  have p5 := block_cell hz7 5
                  have p6 := block_cell hz7 6
                  simp at p0 p1 p2 p3 p4 p5 p6
                  clear hz7
                  go_wp2_with fail
                  exact ⟨rfl, _, rfl, Below.refl _ _, rfl⟩
                apply OpsOK.eq
                · intro vs u hb hd
                  simp [Region.binds] at hd
                  obtain ⟨e19, e20, e17⟩ := hd
                  simp only [e19, e20, e17]
                  go_wp2_with fail
                  exact ⟨rfl, _, rfl, Below.refl _ _, rfl⟩
                apply OpsOK.eq
                · intro vs u hb hd
                  simp [Region.binds] at hd
                  obtain ⟨e17, e21⟩ := hd
                  simp only [e17, e21]
                  go_wp2_with fail
                  exact ⟨rfl, _, rfl, Below.refl _ _, rfl⟩
                apply OpsOK.eq
                · intro vs u hb hd
                  simp [Region.binds] at hd
                  obtain ⟨e22, e19⟩ := hd
                  simp only [e22, e19]
                  go_wp2_with fail
                  exact ⟨rfl, _, rfl, Below.refl _ _, rfl⟩
                apply OpsOK.eq
                · intro vs u hb hd
                  simp [Region.binds] at hd
                  have e23 := hd
                  clear hd
                  simp only [e23]
                  go_wp2_with fail
                  exact ⟨rfl, _, rfl, Below.refl _ _, rfl⟩
                refine OpsOK.step (HsR w10.heap.size A.x il) (Stab_hs _ _ _) ?_ ?_
                · intro vs u hb hd
                  simp [Region.binds] at hd
                  obtain ⟨e24, e23⟩ := hd
                  simp only [e24, e23]
                  go_wp2_with fail
                  refine (handlesA_any B A u (HS10.out.is.below hb) HS10.out.inv.f).mono ?_; rintro e w1 hh; obtain ⟨v, rfl, hr, hbel⟩ := hh.rs; clear hh; have hr2 : Rs w1 u.heap.size 31 v (slotsTo A.x 1 A.x.n).length (fun i => encH A.x ((slotsTo A.x 1 A.x.n).getD i 0)) := hr; rw [HIL.out] at hr2; go_wp2_with fail; exact ⟨rfl, _, rfl, hbel, hr2.low (hb.size)⟩
                apply OpsOK.eq
                · intro vs u hb hd
                  simp [Region.binds] at hd
                  have e23 := hd
                  clear hd
                  simp only [e23]
                  go_wp2_with fail
                  exact ⟨rfl, _, rfl, Below.refl _ _, rfl⟩
                apply OpsOK.eq
                · intro vs u hb hd
                  simp [Region.binds] at hd
                  obtain ⟨h25, e26, h25, e23⟩ := hd
                  simp only [e26, e23]
                  go_wp2_with fail
                  refine (equalHandles_self u _ (.slice al il cl) il (hsF A.x) (show Rs _ _ _ _ _ _ from h25).sl (show Rs u w1.heap.size 31 (.slice al il cl) il (fun i => .int .u64 (hsF A.x i)) from HL10.out.keep hb (Nat.le_refl _)).sl (by omega)).mono ?_; rintro e w1 ⟨rfl, n1, rfl⟩; go_wp2_with fail; exact ⟨rfl, _, rfl, below_drewN (Below.refl _ _) n1, rfl⟩
                apply OpsOK.eq
                · intro vs u hb hd
                  simp [Region.binds] at hd
                  obtain ⟨e27, e23⟩ := hd
                  simp only [e27, e23]
                  go_wp2_with fail
                  exact ⟨rfl, _, rfl, Below.refl _ _, rfl⟩
                apply OpsOK.eq
                · intro vs u hb hd
                  simp [Region.binds] at hd
                  obtain ⟨e23, e28⟩ := hd
                  simp only [e23, e28]
                  go_wp2_with fail
                  exact ⟨rfl, _, rfl, Below.refl _ _, rfl⟩
                refine OpsOK.done ?_
                intro vs u hbu hS
                have h29 := hS 29 (by decide)
                simp at h29
                simp only [h29]
                clear h29
                clear hS
                have HBU := Lib.hid hbu
                have HS11 := Lib.hid (HS10.out.below HBU.out)
                have HC11 := Lib.hid (block_below HBU.out HC10.out (block_lt HC10.out))
                have HL11 := Lib.hid (HL10.out.keep HBU.out (Nat.le_refl _))
                clear hbu HS10 HC10 HL10
                by_cases hlm : liveL A.x m
                · have HLM := Lib.hid hlm
                  clear hlm
                  go_wp2_with fail
                  refine (liveA_yes B A m u HM.out HS11.out.is HLM.out).mono ?_; rintro e w12 ⟨rfl, n1, rfl⟩
                  go_wp2_with fail
                  refine (awake13_any _).mono ?_; rintro e w13 ⟨rfl, hb⟩
                  have HB := Lib.hid (below_two (HS11.out.drewN n1).low hb)
                  clear hb
                  go_wp2_with fail
                  go_ret
                  exact ⟨rfl, HB.out⟩
                · have HLM := Lib.hid hlm
                  clear hlm
                  go_wp2_with fail
                  refine (liveA_no B A m u HM.out HS11.out.is HLM.out).mono ?_; rintro e w12 ⟨rfl, n1, rfl⟩
                  go_wp2_with fail
                  refine (soloGet_no w B A m _ (HS11.out.drewN n1) (by omega) HLM.out).mono ?_; rintro e w13 ⟨ay, cy, rfl, hs13, hk13⟩
                  have HS13 := Lib.hid (hs13.below ((Below.refl _ _).alloc (Nat.le_refl _) (.cells #[.int .i64 0, .string ⟨#[]⟩, .slice ay 0 cy] 36)))
                  have HC13 := Lib.hid (block_alloc (box_turn (HS11.out.is.drewN n1) hk13 HC11.out plainS) (.cells #[.int .i64 0, .string ⟨#[]⟩, .slice ay 0 cy] 36))
                  have HL13 := Lib.hid ((Rs.turn (w := u.drewN n1) (show Rs (u.drewN n1) w1.heap.size 31 (.slice al il cl) il (fun i => encH A.x ((slotsTo A.x 1 A.x.n).getD i 0)) from HL11.out) (HS11.out.is.drewN n1) hk13 plainH).keep ((Below.refl _ _).alloc (Nat.le_refl _) (.cells #[.int .i64 0, .string ⟨#[]⟩, .slice ay 0 cy] 36)) (Nat.le_refl _))
                  clear hs13 hk13 HC11 HL11
                  go_wp2_with fail
                  refine (soloFree w B { A with st := A.st + 1 } m _ HM.out.1 HM.out.2 HS13.out (by show A.st + 1 ≤ _; omega)).mono ?_; rintro e w14 ⟨rfl, hs14, hk14⟩
                  rw [show getE ({ A with st := A.st + 1 } : AS) m = 10 from if_neg HLM.out]
                  rw [show freeS ({ A with st := A.st + 1 } : AS) m = { A with st := A.st + 1 + 1 } from freeS_no HLM.out] at hs14
                  have hc14 := box_turn HS13.out.is hk14 HC13.out plainS
                  have HC14 := Lib.hid hc14
                  have HL14 := Lib.hid (HL13.out.turn HS13.out.is hk14 plainH)
                  have HS14 := Lib.hid (hs14.set (i := 6) HSB.out (hs14.is.nownP hc14 plainS) (notKb hc14 plainS.n6) (.int .i64 ((A.st : Int) + 2)))
                  have HC15 := Lib.hid (block_setCell HC14.out 6 (.int .i64 ((A.st : Int) + 2)))
                  have HL15 := Lib.hid (HL14.out.far (i := 6) HC14.out (by decide) (.int .i64 ((A.st : Int) + 2)))
                  have HQ2 := Lib.hid (stats_st HQ.out)
                  clear hs14 hk14 HS13 HC13 HL13 HL14
                  (have q0 := block_cell hc14 0; have q1 := block_cell hc14 1; have q2 := block_cell hc14 2; have q3 := block_cell hc14 3; have q4 := block_cell hc14 4; have q5 := block_cell hc14 5; have q6 := block_cell hc14 6; have f0 := block_free hc14 0; have f1 := block_free hc14 1; have f2 := block_free hc14 2; have f3 := block_free hc14 3; have f4 := block_free hc14 4; have f5 := block_free hc14 5; have f6 := block_free hc14 6; have hz := block_lt hc14; simp at q0 q1 q2 q3 q4 q5 q6)
                  clear hc14
                  go_wp2_with fail
                  clear q0 q1 q2 q3 q4 q5 q6 f0 f1 f2 f3 f4 f5 f6 hz HC14
                  generalize w14.setCell ⟨Sb, 6, none⟩ (.int .i64 ((A.st : Int) + 2)) = w15 at *
                  simp only [List.setIfInBounds_toArray, List.set_cons_zero, List.set_cons_succ] at HC15
                  refine wp_region_specs (by kernel_rfl) (by decide) (by kernel_rfl) ?_
                  simp only [fill, Act.put, List.setIfInBounds_toArray, List.set_cons_zero, List.set_cons_succ, Nat.zero_add, Nat.reduceAdd]
                  apply OpsOK.eq
                  · intro vs u hb hd
                    clear hd
                    go_wp2_with fail
                    exact ⟨rfl, _, rfl, Below.refl _ _, rfl⟩
                  apply OpsOK.eq
                  · intro vs u hb hd
                    simp [Region.binds] at hd
                    have e0 := hd
                    clear hd
                    simp only [e0]
                    go_wp2_with fail
                    exact ⟨rfl, _, rfl, Below.refl _ _, rfl⟩
                  apply OpsOK.eq
                  · intro vs u hb hd
                    simp [Region.binds] at hd
                    have e1 := hd
                    clear hd
                    simp only [e1]
                    go_wp2_with fail
                    exact ⟨rfl, _, rfl, Below.refl _ _, rfl⟩
                  apply OpsOK.eq
                  · intro vs u hb hd
                    simp [Region.binds] at hd
                    have e2 := hd
                    clear hd
                    simp only [e2]
                    go_wp2_with fail
                    exact ⟨rfl, _, rfl, Below.refl _ _, rfl⟩
                  apply OpsOK.eq
                  · intro vs u hb hd
                    simp [Region.binds] at hd
                    obtain ⟨e3, e2⟩ := hd
                    simp only [e3, e2]
                    go_wp2_with fail
                    exact ⟨rfl, _, rfl, Below.refl _ _, rfl⟩
                  apply OpsOK.eq
                  · intro vs u hb hd
                    simp [Region.binds] at hd
                    obtain ⟨e2, e4⟩ := hd
                    simp only [e2, e4]
                    go_wp2_with fail
                    exact ⟨rfl, _, rfl, Below.refl _ _, rfl⟩
                  apply OpsOK.eq
                  · intro vs u hb hd
                    simp [Region.binds] at hd
                    obtain ⟨e5, e2⟩ := hd
                    simp only [e5, e2]
                    go_wp2_with fail
                    exact ⟨rfl, _, rfl, Below.refl _ _, rfl⟩
                  apply OpsOK.eq
                  · intro vs u hb hd
                    simp [Region.binds] at hd
                    have e6 := hd
                    clear hd
                    simp only [e6]
                    go_wp2_with fail
                    exact ⟨rfl, _, rfl, Below.refl _ _, rfl⟩
                  apply OpsOK.eq
                  · intro vs u hb hd
                    simp [Region.binds] at hd
                    obtain ⟨e7, e6⟩ := hd
                    simp only [e7, e6]
                    go_wp2_with fail
                    refine (statsA_any B { A with st := A.st + 1 + 1 } u (HS14.out.is.below hb) HS14.out.inv.f).mono ?_; rintro e w1 ⟨rfl, hbel⟩; rw [HQ2.out]; go_wp2_with fail; exact ⟨rfl, _, rfl, hbel, rfl⟩
                  apply OpsOK.eq
                  · intro vs u hb hd
                    simp [Region.binds] at hd
                    have e6 := hd
                    clear hd
                    simp only [e6]
                    have hz7 := block_below hb HC15.out (block_lt HC15.out)
                    have p0 := block_cell hz7 0
                    have p1 := block_cell hz7 1
                    have p2 := block_cell hz7 2
                    have p3 := block_cell hz7 3
                    have p4 := block_cell hz7 4
                    have p5 := block_cell hz7 5
                    have p6 := block_cell hz7 6
                    simp at p0 p1 p2 p3 p4 p5 p6
                    clear hz7
                    go_wp2_with fail
                    exact ⟨rfl, _, rfl, Below.refl _ _, rfl⟩
                  apply OpsOK.eq
                  · intro vs u hb hd
                    simp [Region.binds] at hd
                    obtain ⟨e8, e9, e6⟩ := hd
                    simp only [e8, e9, e6]
                    go_wp2_with fail
                    exact ⟨rfl, _, rfl, Below.refl _ _, rfl⟩
                  apply OpsOK.eq
                  · intro vs u hb hd
                    simp [Region.binds] at hd
                    obtain ⟨e6, e10⟩ := hd
                    simp only [e6, e10]
                    go_wp2_with fail
                    exact ⟨rfl, _, rfl, Below.refl _ _, rfl⟩
                  apply OpsOK.eq
                  · intro vs u hb hd
                    simp [Region.binds] at hd
                    obtain ⟨e11, e8⟩ := hd
                    simp only [e11, e8]
                    go_wp2_with fail
                    exact ⟨rfl, _, rfl, Below.refl _ _, rfl⟩
                  apply OpsOK.eq
                  · intro vs u hb hd
                    simp [Region.binds] at hd
                    have e12 := hd
                    clear hd
                    simp only [e12]
                    go_wp2_with fail
                    exact ⟨rfl, _, rfl, Below.refl _ _, rfl⟩
                  refine OpsOK.step (HsR w15.heap.size A.x il) (Stab_hs _ _ _) ?_ ?_
                  · intro vs u hb hd
                    simp [Region.binds] at hd
                    obtain ⟨e13, e12⟩ := hd
                    simp only [e13, e12]
                    go_wp2_with fail
                    refine (handlesA_any B { A with st := A.st + 1 + 1 } u (HS14.out.is.below hb) HS14.out.inv.f).mono ?_; rintro e w1 hh; obtain ⟨v, rfl, hr, hbel⟩ := hh.rs; clear hh; have hr2 : Rs w1 u.heap.size 31 v (slotsTo A.x 1 A.x.n).length (fun i => encH A.x ((slotsTo A.x 1 A.x.n).getD i 0)) := hr; rw [HIL.out] at hr2; go_wp2_with fail; exact ⟨rfl, _, rfl, hbel, hr2.low (hb.size)⟩
                  apply OpsOK.eq
                  · intro vs u hb hd
                    simp [Region.binds] at hd
                    have e12 := hd
                    clear hd
                    simp only [e12]
                    go_wp2_with fail
                    exact ⟨rfl, _, rfl, Below.refl _ _, rfl⟩
                  apply OpsOK.eq
                  · intro vs u hb hd
                    simp [Region.binds] at hd
                    obtain ⟨h14, e15, h14, e12⟩ := hd
                    simp only [e15, e12]
                    go_wp2_with fail
                    refine (equalHandles_self u _ (.slice al il cl) il (hsF A.x) (show Rs _ _ _ _ _ _ from h14).sl (show Rs u w1.heap.size 31 (.slice al il cl) il (fun i => .int .u64 (hsF A.x i)) from HL15.out.keep hb (Nat.le_refl _)).sl (by omega)).mono ?_; rintro e w1 ⟨rfl, n1, rfl⟩; go_wp2_with fail; exact ⟨rfl, _, rfl, below_drewN (Below.refl _ _) n1, rfl⟩
                  apply OpsOK.eq
                  · intro vs u hb hd
                    simp [Region.binds] at hd
                    obtain ⟨e12, e16⟩ := hd
                    simp only [e12, e16]
                    go_wp2_with fail
                    exact ⟨rfl, _, rfl, Below.refl _ _, rfl⟩
                  apply OpsOK.eq
                  · intro vs u hb hd
                    simp [Region.binds] at hd
                    obtain ⟨e17, e16⟩ := hd
                    simp only [e17, e16]
                    go_wp2_with fail
                    exact ⟨rfl, _, rfl, Below.refl _ _, rfl⟩
                  apply OpsOK.eq
                  · intro vs u hb hd
                    simp [Region.binds] at hd
                    have e18 := hd
                    clear hd
                    simp only [e18]
                    go_wp2_with fail
                    refine (awake13_any u).mono ?_; rintro e w1 ⟨rfl, hbel⟩; go_wp2_with fail; exact ⟨rfl, _, rfl, hbel, rfl⟩
                  apply OpsOK.eq
                  · intro vs u hb hd
                    simp [Region.binds] at hd
                    obtain ⟨e18, e19⟩ := hd
                    simp only [e18, e19]
                    go_wp2_with fail
                    exact ⟨rfl, _, rfl, Below.refl _ _, rfl⟩
                  apply OpsOK.eq
                  · intro vs u hb hd
                    simp [Region.binds] at hd
                    obtain ⟨e20, e19, e0, e1, e2, e3, e4, e5, e6, e7, e8, e9, e10, e11, e12, e13, h14, e15, e16, e17, e18, e19, e20⟩ := hd
                    simp only [e20, e19, e0, e1, e2, e3, e4, e5, e6, e7, e8, e9, e10, e11, e12, e13, e15, e16, e17, e18]
                    go_wp2_with fail
                    exact ⟨rfl, _, rfl, Below.refl _ _, rfl⟩
                  refine OpsOK.done ?_
                  intro vs u hbu hS
                  have h21 := hS 21 (by decide)
                  simp at h21
                  simp only [h21]
                  clear h21
                  clear hS
                  have HBV := Lib.hid (below_two HS14.out.low hbu)
                  clear hbu
                  go_wp2_with fail
                  go_ret
                  exact ⟨rfl, HBV.out⟩
          · obtain rfl : i = X.kids.length := by omega
            cases b with
            | true =>
              have HFT := Lib.hid (show fitsP A X from ⟨(HT.out rfl).1, by rw [← (HT.out rfl).2, List.drop_eq_nil_of_le (Nat.le_refl _)]; rfl⟩)
              clear HT HF
              as_aux_lemma =>
                have hal := soloAlloc w B A X xa X.kids.length xc wr HKX.out.1 HKX.out.2.1 (HKX.out.sep HS.out.is HS.out.ge) HS.out
                rcases take_two A.x HS.out.inv.f with ⟨hm0, htr, -⟩ | ⟨hm0, htr, -, -⟩
                · have hR : allocR A X = (0, 6) := (allocR_fit HFT.out).trans htr
                  have hA : allocS A X = A := allocS_no (by rw [hR]; decide)
                  rw [hR, hA] at hal
                  have HAL := Lib.hid hal
                  have hmz : mm = 0 := by rw [← HMM.out]; exact hm0
                  clear hal hm0 htr hR hA HFT
                  subst hmz
                  go_wp2_with fail
                  refine (HAL.out).mono ?_; rintro e w10 ⟨rfl, hs10, hk10⟩
                  have HS10 := Lib.hid hs10
                  have HC10 := Lib.hid (box_turn HS.out.is hk10 HC.out plainS)
                  have HL10 := Lib.hid (HL.out.turn HS.out.is hk10 plainH)
                  clear hs10 hk10 HS HC HL HX HKX HAL HBR q0 q1 q2 f0 f1 f2 hz
                  go_wp2_with fail
                  refine wp_region_specs (by kernel_rfl) (by decide) (by kernel_rfl) ?_
                  simp only [fill, Act.put, List.setIfInBounds_toArray, List.set_cons_zero, List.set_cons_succ, Nat.zero_add, Nat.reduceAdd]
                  apply OpsOK.eq
                  · intro vs u hb hd
                    clear hd
                    go_wp2_with fail
                    exact ⟨rfl, _, rfl, Below.refl _ _, rfl⟩
                  apply OpsOK.eq
                  · intro vs u hb hd
                    clear hd
                    go_wp2_with fail
                    exact ⟨rfl, _, rfl, Below.refl _ _, rfl⟩
                  apply OpsOK.eq
                  · intro vs u hb hd
                    simp [Region.binds] at hd
                    have e1 := hd
                    clear hd
                    simp only [e1]
                    go_wp2_with fail
                    exact ⟨rfl, _, rfl, Below.refl _ _, rfl⟩
                  apply OpsOK.eq
                  · intro vs u hb hd
                    simp [Region.binds] at hd
                    obtain ⟨e0, e2⟩ := hd
                    simp only [e0, e2]
                    go_wp2_with fail
                    exact ⟨rfl, _, rfl, Below.refl _ _, rfl⟩
                  apply OpsOK.eq
                  · intro vs u hb hd
                    simp [Region.binds] at hd
                    have e3 := hd
                    clear hd
                    simp only [e3]
                    go_wp2_with fail
                    exact ⟨rfl, _, rfl, Below.refl _ _, rfl⟩
                  apply OpsOK.eq
                  · intro vs u hb hd
                    simp [Region.binds] at hd
                    have e4 := hd
                    clear hd
                    simp only [e4]
                    go_wp2_with fail
                    exact ⟨rfl, _, rfl, Below.refl _ _, rfl⟩
                  apply OpsOK.eq
                  · intro vs u hb hd
                    simp [Region.binds] at hd
                    obtain ⟨e5, e4⟩ := hd
                    simp only [e5, e4]
                    go_wp2_with fail
                    exact ⟨rfl, _, rfl, Below.refl _ _, rfl⟩
                  apply OpsOK.eq
                  · intro vs u hb hd
                    simp [Region.binds] at hd
                    obtain ⟨e6, e4⟩ := hd
                    simp only [e6, e4]
                    go_wp2_with fail
                    exact ⟨rfl, _, rfl, Below.refl _ _, rfl⟩
                  apply OpsOK.eq
                  · intro vs u hb hd
                    simp [Region.binds] at hd
                    have e7 := hd
                    clear hd
                    simp only [e7]
                    go_wp2_with fail
                    exact ⟨rfl, _, rfl, Below.refl _ _, rfl⟩
                  apply OpsOK.eq
                  · intro vs u hb hd
                    simp [Region.binds] at hd
                    obtain ⟨e8, e7⟩ := hd
                    simp only [e8, e7]
                    have hz7 := block_below hb HC10.out (block_lt HC10.out)
                    have p0 := block_cell hz7 0
                    have p1 := block_cell hz7 1
                    have p2 := block_cell hz7 2
                    have p3 := block_cell hz7 3
                    have p4 := block_cell hz7 4
                    have p5 := block_cell hz7 5
                    have p6 := block_cell hz7 6
                    simp at p0 p1 p2 p3 p4 p5 p6
                    clear hz7
                    go_wp2_with fail
                    exact ⟨rfl, _, rfl, Below.refl _ _, rfl⟩
                  apply OpsOK.eq
                  · intro vs u hb hd
                    simp [Region.binds] at hd
                    obtain ⟨e9, e7⟩ := hd
                    simp only [e9, e7]
                    go_wp2_with fail
                    exact ⟨rfl, _, rfl, Below.refl _ _, rfl⟩
                  apply OpsOK.eq
                  · intro vs u hb hd
                    simp [Region.binds] at hd
                    obtain ⟨e7, e10, e4⟩ := hd
                    simp only [e7, e10, e4]
                    go_wp2_with fail
                    exact ⟨rfl, _, rfl, Below.refl _ _, rfl⟩
                  apply OpsOK.eq
                  · intro vs u hb hd
                    simp [Region.binds] at hd
                    obtain ⟨e4, e11⟩ := hd
                    simp only [e4, e11]
                    go_wp2_with fail
                    exact ⟨rfl, _, rfl, Below.refl _ _, rfl⟩
                  apply OpsOK.eq
                  · intro vs u hb hd
                    simp [Region.binds] at hd
                    obtain ⟨e12, e7⟩ := hd
                    simp only [e12, e7]
                    go_wp2_with fail
                    exact ⟨rfl, _, rfl, Below.refl _ _, rfl⟩
                  apply OpsOK.eq
                  · intro vs u hb hd
                    simp [Region.binds] at hd
                    have e13 := hd
                    clear hd
                    simp only [e13]
                    go_wp2_with fail
                    exact ⟨rfl, _, rfl, Below.refl _ _, rfl⟩
                  apply OpsOK.eq
                  · intro vs u hb hd
                    simp [Region.binds] at hd
                    obtain ⟨e14, e13⟩ := hd
                    simp only [e14, e13]
                    go_wp2_with fail
                    exact ⟨rfl, _, rfl, Below.refl _ _, rfl⟩
                  apply OpsOK.eq
                  · intro vs u hb hd
                    simp [Region.binds] at hd
                    obtain ⟨e13, e15⟩ := hd
                    simp only [e13, e15]
                    go_wp2_with fail
                    exact ⟨rfl, _, rfl, Below.refl _ _, rfl⟩
                  apply OpsOK.eq
                  · intro vs u hb hd
                    simp [Region.binds] at hd
                    obtain ⟨e16, e13⟩ := hd
                    simp only [e16, e13]
                    go_wp2_with fail
                    exact ⟨rfl, _, rfl, Below.refl _ _, rfl⟩
                  apply OpsOK.eq
                  · intro vs u hb hd
                    simp [Region.binds] at hd
                    have e17 := hd
                    clear hd
                    simp only [e17]
                    go_wp2_with fail
                    exact ⟨rfl, _, rfl, Below.refl _ _, rfl⟩
                  apply OpsOK.eq
                  · intro vs u hb hd
                    simp [Region.binds] at hd
                    obtain ⟨e18, e17⟩ := hd
                    simp only [e18, e17]
                    go_wp2_with fail
                    refine (statsA_any B A u (HS10.out.is.below hb) HS10.out.inv.f).mono ?_; rintro e w1 ⟨rfl, hbel⟩; rw [HQ.out]; go_wp2_with fail; exact ⟨rfl, _, rfl, hbel, rfl⟩
                  apply OpsOK.eq
                  · intro vs u hb hd
                    simp [Region.binds] at hd
                    have e17 := hd
                    clear hd
                    simp only [e17]
                    have hz7 := block_below hb HC10.out (block_lt HC10.out)
                    have p0 := block_cell hz7 0
                    have p1 := block_cell hz7 1
                    have p2 := block_cell hz7 2
                    have p3 := block_cell hz7 3
                    have p4 := block_cell hz7 4
                    have p5 := block_cell hz7 5
                    have p6 := block_cell hz7 6
                    simp at p0 p1 p2 p3 p4 p5 p6
                    clear hz7
                    go_wp2_with fail
                    exact ⟨rfl, _, rfl, Below.refl _ _, rfl⟩
                  apply OpsOK.eq
                  · intro vs u hb hd
                    simp [Region.binds] at hd
                    obtain ⟨e19, e20, e17⟩ := hd
                    simp only [e19, e20, e17]
                    go_wp2_with fail
                    exact ⟨rfl, _, rfl, Below.refl _ _, rfl⟩
                  apply OpsOK.eq
                  · intro vs u hb hd
                    simp [Region.binds] at hd
                    obtain ⟨e17, e21⟩ := hd
                    simp only [e17, e21]
                    go_wp2_with fail
                    exact ⟨rfl, _, rfl, Below.refl _ _, rfl⟩
                  apply OpsOK.eq
                  · intro vs u hb hd
                    simp [Region.binds] at hd
                    obtain ⟨e22, e19⟩ := hd
                    simp only [e22, e19]
                    go_wp2_with fail
                    exact ⟨rfl, _, rfl, Below.refl _ _, rfl⟩
                  apply OpsOK.eq
                  · intro vs u hb hd
                    simp [Region.binds] at hd
                    have e23 := hd
                    clear hd
                    simp only [e23]
                    go_wp2_with fail
                    exact ⟨rfl, _, rfl, Below.refl _ _, rfl⟩
                  refine OpsOK.step (HsR w10.heap.size A.x il) (Stab_hs _ _ _) ?_ ?_
                  · intro vs u hb hd
                    simp [Region.binds] at hd
                    obtain ⟨e24, e23⟩ := hd
                    simp only [e24, e23]
                    go_wp2_with fail
                    refine (handlesA_any B A u (HS10.out.is.below hb) HS10.out.inv.f).mono ?_; rintro e w1 hh; obtain ⟨v, rfl, hr, hbel⟩ := hh.rs; clear hh; have hr2 : Rs w1 u.heap.size 31 v (slotsTo A.x 1 A.x.n).length (fun i => encH A.x ((slotsTo A.x 1 A.x.n).getD i 0)) := hr; rw [HIL.out] at hr2; go_wp2_with fail; exact ⟨rfl, _, rfl, hbel, hr2.low (hb.size)⟩
                  apply OpsOK.eq
                  · intro vs u hb hd
                    simp [Region.binds] at hd
                    have e23 := hd
                    clear hd
                    simp only [e23]
                    go_wp2_with fail
                    exact ⟨rfl, _, rfl, Below.refl _ _, rfl⟩
                  apply OpsOK.eq
                  · intro vs u hb hd
                    simp [Region.binds] at hd
                    obtain ⟨h25, e26, h25, e23⟩ := hd
                    simp only [e26, e23]
                    go_wp2_with fail
                    refine (equalHandles_self u _ (.slice al il cl) il (hsF A.x) (show Rs _ _ _ _ _ _ from h25).sl (show Rs u w1.heap.size 31 (.slice al il cl) il (fun i => .int .u64 (hsF A.x i)) from HL10.out.keep hb (Nat.le_refl _)).sl (by omega)).mono ?_; rintro e w1 ⟨rfl, n1, rfl⟩; go_wp2_with fail; exact ⟨rfl, _, rfl, below_drewN (Below.refl _ _) n1, rfl⟩
                  apply OpsOK.eq
                  · intro vs u hb hd
                    simp [Region.binds] at hd
                    obtain ⟨e27, e23⟩ := hd
                    simp only [e27, e23]
                    go_wp2_with fail
                    exact ⟨rfl, _, rfl, Below.refl _ _, rfl⟩
                  apply OpsOK.eq
                  · intro vs u hb hd
                    simp [Region.binds] at hd
                    obtain ⟨e23, e28⟩ := hd
                    simp only [e23, e28]
                    go_wp2_with fail
                    exact ⟨rfl, _, rfl, Below.refl _ _, rfl⟩
                  refine OpsOK.done ?_
                  intro vs u hbu hS
                  have h29 := hS 29 (by decide)
                  simp at h29
                  simp only [h29]
                  clear h29
                  clear hS
                  have HBU := Lib.hid hbu
                  have HS11 := Lib.hid (HS10.out.below HBU.out)
                  have HC11 := Lib.hid (block_below HBU.out HC10.out (block_lt HC10.out))
                  have HL11 := Lib.hid (HL10.out.keep HBU.out (Nat.le_refl _))
                  clear hbu HS10 HC10 HL10
                  by_cases hlm : liveL A.x m
                  · have HLM := Lib.hid hlm
                    clear hlm
                    go_wp2_with fail
                    refine (liveA_yes B A m u HM.out HS11.out.is HLM.out).mono ?_; rintro e w12 ⟨rfl, n1, rfl⟩
                    go_wp2_with fail
                    refine (awake13_any _).mono ?_; rintro e w13 ⟨rfl, hb⟩
                    have HB := Lib.hid (below_two (HS11.out.drewN n1).low hb)
                    clear hb
                    go_wp2_with fail
                    go_ret
                    exact ⟨rfl, HB.out⟩
                  · have HLM := Lib.hid hlm
                    clear hlm
                    go_wp2_with fail
                    refine (liveA_no B A m u HM.out HS11.out.is HLM.out).mono ?_; rintro e w12 ⟨rfl, n1, rfl⟩
                    go_wp2_with fail
                    refine (soloGet_no w B A m _ (HS11.out.drewN n1) (by omega) HLM.out).mono ?_; rintro e w13 ⟨ay, cy, rfl, hs13, hk13⟩
                    have HS13 := Lib.hid (hs13.below ((Below.refl _ _).alloc (Nat.le_refl _) (.cells #[.int .i64 0, .string ⟨#[]⟩, .slice ay 0 cy] 36)))
                    have HC13 := Lib.hid (block_alloc (box_turn (HS11.out.is.drewN n1) hk13 HC11.out plainS) (.cells #[.int .i64 0, .string ⟨#[]⟩, .slice ay 0 cy] 36))
                    have HL13 := Lib.hid ((Rs.turn (w := u.drewN n1) (show Rs (u.drewN n1) w1.heap.size 31 (.slice al il cl) il (fun i => encH A.x ((slotsTo A.x 1 A.x.n).getD i 0)) from HL11.out) (HS11.out.is.drewN n1) hk13 plainH).keep ((Below.refl _ _).alloc (Nat.le_refl _) (.cells #[.int .i64 0, .string ⟨#[]⟩, .slice ay 0 cy] 36)) (Nat.le_refl _))
                    clear hs13 hk13 HC11 HL11
                    go_wp2_with fail
                    refine (soloFree w B { A with st := A.st + 1 } m _ HM.out.1 HM.out.2 HS13.out (by show A.st + 1 ≤ _; omega)).mono ?_; rintro e w14 ⟨rfl, hs14, hk14⟩
                    rw [show getE ({ A with st := A.st + 1 } : AS) m = 10 from if_neg HLM.out]
                    rw [show freeS ({ A with st := A.st + 1 } : AS) m = { A with st := A.st + 1 + 1 } from freeS_no HLM.out] at hs14
                    have hc14 := box_turn HS13.out.is hk14 HC13.out plainS
                    have HC14 := Lib.hid hc14
                    have HL14 := Lib.hid (HL13.out.turn HS13.out.is hk14 plainH)
                    have HS14 := Lib.hid (hs14.set (i := 6) HSB.out (hs14.is.nownP hc14 plainS) (notKb hc14 plainS.n6) (.int .i64 ((A.st : Int) + 2)))
                    have HC15 := Lib.hid (block_setCell HC14.out 6 (.int .i64 ((A.st : Int) + 2)))
                    have HL15 := Lib.hid (HL14.out.far (i := 6) HC14.out (by decide) (.int .i64 ((A.st : Int) + 2)))
                    have HQ2 := Lib.hid (stats_st HQ.out)
                    clear hs14 hk14 HS13 HC13 HL13 HL14
                    (have q0 := block_cell hc14 0; have q1 := block_cell hc14 1; have q2 := block_cell hc14 2; have q3 := block_cell hc14 3; have q4 := block_cell hc14 4; have q5 := block_cell hc14 5; have q6 := block_cell hc14 6; have f0 := block_free hc14 0; have f1 := block_free hc14 1; have f2 := block_free hc14 2; have f3 := block_free hc14 3; have f4 := block_free hc14 4; have f5 := block_free hc14 5; have f6 := block_free hc14 6; have hz := block_lt hc14; simp at q0 q1 q2 q3 q4 q5 q6)
                    clear hc14
                    go_wp2_with fail
                    clear q0 q1 q2 q3 q4 q5 q6 f0 f1 f2 f3 f4 f5 f6 hz HC14
                    generalize w14.setCell ⟨Sb, 6, none⟩ (.int .i64 ((A.st : Int) + 2)) = w15 at *
                    simp only [List.setIfInBounds_toArray, List.set_cons_zero, List.set_cons_succ] at HC15
                    refine wp_region_specs (by kernel_rfl) (by decide) (by kernel_rfl) ?_
                    simp only [fill, Act.put, List.setIfInBounds_toArray, List.set_cons_zero, List.set_cons_succ, Nat.zero_add, Nat.reduceAdd]
                    apply OpsOK.eq
                    · intro vs u hb hd
                      clear hd
                      go_wp2_with fail
                      exact ⟨rfl, _, rfl, Below.refl _ _, rfl⟩
                    apply OpsOK.eq
                    · intro vs u hb hd
                      simp [Region.binds] at hd
                      have e0 := hd
                      clear hd
                      simp only [e0]
                      go_wp2_with fail
                      exact ⟨rfl, _, rfl, Below.refl _ _, rfl⟩
                    apply OpsOK.eq
                    · intro vs u hb hd
                      simp [Region.binds] at hd
                      have e1 := hd
                      clear hd
                      simp only [e1]
                      go_wp2_with fail
                      exact ⟨rfl, _, rfl, Below.refl _ _, rfl⟩
                    apply OpsOK.eq
                    · intro vs u hb hd
                      simp [Region.binds] at hd
                      have e2 := hd
                      clear hd
                      simp only [e2]
                      go_wp2_with fail
                      exact ⟨rfl, _, rfl, Below.refl _ _, rfl⟩
                    apply OpsOK.eq
                    · intro vs u hb hd
                      simp [Region.binds] at hd
                      obtain ⟨e3, e2⟩ := hd
                      simp only [e3, e2]
                      go_wp2_with fail
                      exact ⟨rfl, _, rfl, Below.refl _ _, rfl⟩
                    apply OpsOK.eq
                    · intro vs u hb hd
                      simp [Region.binds] at hd
                      obtain ⟨e2, e4⟩ := hd
                      simp only [e2, e4]
                      go_wp2_with fail
                      exact ⟨rfl, _, rfl, Below.refl _ _, rfl⟩
                    apply OpsOK.eq
                    · intro vs u hb hd
                      simp [Region.binds] at hd
                      obtain ⟨e5, e2⟩ := hd
                      simp only [e5, e2]
                      go_wp2_with fail
                      exact ⟨rfl, _, rfl, Below.refl _ _, rfl⟩
                    apply OpsOK.eq
                    · intro vs u hb hd
                      simp [Region.binds] at hd
                      have e6 := hd
                      clear hd
                      simp only [e6]
                      go_wp2_with fail
                      exact ⟨rfl, _, rfl, Below.refl _ _, rfl⟩
                    apply OpsOK.eq
                    · intro vs u hb hd
                      simp [Region.binds] at hd
                      obtain ⟨e7, e6⟩ := hd
                      simp only [e7, e6]
                      go_wp2_with fail
                      refine (statsA_any B { A with st := A.st + 1 + 1 } u (HS14.out.is.below hb) HS14.out.inv.f).mono ?_; rintro e w1 ⟨rfl, hbel⟩; rw [HQ2.out]; go_wp2_with fail; exact ⟨rfl, _, rfl, hbel, rfl⟩
                    apply OpsOK.eq
                    · intro vs u hb hd
                      simp [Region.binds] at hd
                      have e6 := hd
                      clear hd
                      simp only [e6]
                      have hz7 := block_below hb HC15.out (block_lt HC15.out)
                      have p0 := block_cell hz7 0
                      have p1 := block_cell hz7 1
                      have p2 := block_cell hz7 2
                      have p3 := block_cell hz7 3
                      have p4 := block_cell hz7 4
                      have p5 := block_cell hz7 5
                      have p6 := block_cell hz7 6
                      simp at p0 p1 p2 p3 p4 p5 p6
                      clear hz7
                      go_wp2_with fail
                      exact ⟨rfl, _, rfl, Below.refl _ _, rfl⟩
                    apply OpsOK.eq
                    · intro vs u hb hd
                      simp [Region.binds] at hd
                      obtain ⟨e8, e9, e6⟩ := hd
                      simp only [e8, e9, e6]
                      go_wp2_with fail
                      exact ⟨rfl, _, rfl, Below.refl _ _, rfl⟩
                    apply OpsOK.eq
                    · intro vs u hb hd
                      simp [Region.binds] at hd
                      obtain ⟨e6, e10⟩ := hd
                      simp only [e6, e10]
                      go_wp2_with fail
                      exact ⟨rfl, _, rfl, Below.refl _ _, rfl⟩
                    apply OpsOK.eq
                    · intro vs u hb hd
                      simp [Region.binds] at hd
                      obtain ⟨e11, e8⟩ := hd
                      simp only [e11, e8]
                      go_wp2_with fail
                      exact ⟨rfl, _, rfl, Below.refl _ _, rfl⟩
                    apply OpsOK.eq
                    · intro vs u hb hd
                      simp [Region.binds] at hd
                      have e12 := hd
                      clear hd
                      simp only [e12]
                      go_wp2_with fail
                      exact ⟨rfl, _, rfl, Below.refl _ _, rfl⟩
                    refine OpsOK.step (HsR w15.heap.size A.x il) (Stab_hs _ _ _) ?_ ?_
                    · intro vs u hb hd
                      simp [Region.binds] at hd
                      obtain ⟨e13, e12⟩ := hd
                      simp only [e13, e12]
                      go_wp2_with fail
                      refine (handlesA_any B { A with st := A.st + 1 + 1 } u (HS14.out.is.below hb) HS14.out.inv.f).mono ?_; rintro e w1 hh; obtain ⟨v, rfl, hr, hbel⟩ := hh.rs; clear hh; have hr2 : Rs w1 u.heap.size 31 v (slotsTo A.x 1 A.x.n).length (fun i => encH A.x ((slotsTo A.x 1 A.x.n).getD i 0)) := hr; rw [HIL.out] at hr2; go_wp2_with fail; exact ⟨rfl, _, rfl, hbel, hr2.low (hb.size)⟩
                    apply OpsOK.eq
                    · intro vs u hb hd
                      simp [Region.binds] at hd
                      have e12 := hd
                      clear hd
                      simp only [e12]
                      go_wp2_with fail
                      exact ⟨rfl, _, rfl, Below.refl _ _, rfl⟩
                    apply OpsOK.eq
                    · intro vs u hb hd
                      simp [Region.binds] at hd
                      obtain ⟨h14, e15, h14, e12⟩ := hd
                      simp only [e15, e12]
                      go_wp2_with fail
                      refine (equalHandles_self u _ (.slice al il cl) il (hsF A.x) (show Rs _ _ _ _ _ _ from h14).sl (show Rs u w1.heap.size 31 (.slice al il cl) il (fun i => .int .u64 (hsF A.x i)) from HL15.out.keep hb (Nat.le_refl _)).sl (by omega)).mono ?_; rintro e w1 ⟨rfl, n1, rfl⟩; go_wp2_with fail; exact ⟨rfl, _, rfl, below_drewN (Below.refl _ _) n1, rfl⟩
                    apply OpsOK.eq
                    · intro vs u hb hd
                      simp [Region.binds] at hd
                      obtain ⟨e12, e16⟩ := hd
                      simp only [e12, e16]
                      go_wp2_with fail
                      exact ⟨rfl, _, rfl, Below.refl _ _, rfl⟩
                    apply OpsOK.eq
                    · intro vs u hb hd
                      simp [Region.binds] at hd
                      obtain ⟨e17, e16⟩ := hd
                      simp only [e17, e16]
                      go_wp2_with fail
                      exact ⟨rfl, _, rfl, Below.refl _ _, rfl⟩
                    apply OpsOK.eq
                    · intro vs u hb hd
                      simp [Region.binds] at hd
                      have e18 := hd
                      clear hd
                      simp only [e18]
                      go_wp2_with fail
                      refine (awake13_any u).mono ?_; rintro e w1 ⟨rfl, hbel⟩; go_wp2_with fail; exact ⟨rfl, _, rfl, hbel, rfl⟩
                    apply OpsOK.eq
                    · intro vs u hb hd
                      simp [Region.binds] at hd
                      obtain ⟨e18, e19⟩ := hd
                      simp only [e18, e19]
                      go_wp2_with fail
                      exact ⟨rfl, _, rfl, Below.refl _ _, rfl⟩
                    apply OpsOK.eq
                    · intro vs u hb hd
                      simp [Region.binds] at hd
                      obtain ⟨e20, e19, e0, e1, e2, e3, e4, e5, e6, e7, e8, e9, e10, e11, e12, e13, h14, e15, e16, e17, e18, e19, e20⟩ := hd
                      simp only [e20, e19, e0, e1, e2, e3, e4, e5, e6, e7, e8, e9, e10, e11, e12, e13, e15, e16, e17, e18]
                      go_wp2_with fail
                      exact ⟨rfl, _, rfl, Below.refl _ _, rfl⟩
                    refine OpsOK.done ?_
                    intro vs u hbu hS
                    have h21 := hS 21 (by decide)
                    simp at h21
                    simp only [h21]
                    clear h21
                    clear hS
                    have HBV := Lib.hid (below_two HS14.out.low hbu)
                    clear hbu
                    go_wp2_with fail
                    go_ret
                    exact ⟨rfl, HBV.out⟩
                · obtain ⟨kk, hkk⟩ : ∃ kk, allocR A X = (kk, 0) := ⟨_, (allocR_fit HFT.out).trans htr⟩
                  obtain ⟨hl, hlen1, hm1, hk0⟩ := alloc_live HS.out.inv hkk
                  rw [hkk] at hal
                  have HAL := Lib.hid hal
                  have HLV := Lib.hid hl
                  have HLN := Lib.hid hlen1
                  have HK0 := Lib.hid hk0
                  have hmm1 : 0 < mm := by rw [← HMM.out]; exact hm1
                  have hmi : (0 : Int) < (mm : Int) := by omega
                  clear hal hl hlen1 hk0 hm1 hkk htr hm0 HFT
                  go_wp2_with fail
                  refine (HAL.out).mono ?_; rintro e w10 ⟨rfl, hs10, hk10⟩
                  have hc10 := box_turn HS.out.is hk10 HC.out plainS
                  have HS10 := Lib.hid hs10
                  clear hs10 hk10 HS HC HL HX HKX HAL HBR q0 q1 q2 f0 f1 f2 hz
                  (have q0 := block_cell hc10 0; have q1 := block_cell hc10 1; have q2 := block_cell hc10 2; have q3 := block_cell hc10 3; have q4 := block_cell hc10 4; have q5 := block_cell hc10 5; have q6 := block_cell hc10 6; have f0 := block_free hc10 0; have f1 := block_free hc10 1; have f2 := block_free hc10 2; have f3 := block_free hc10 3; have f4 := block_free hc10 4; have f5 := block_free hc10 5; have f6 := block_free hc10 6; have hz := block_lt hc10; simp at q0 q1 q2 q3 q4 q5 q6)
                  clear hc10
                  go_wp2_with fail
                  refine (liveA_yes B (allocS A X) kk w10 HK0.out HS10.out.is HLV.out).mono ?_; rintro e w11 ⟨rfl, n1, rfl⟩
                  go_wp2_with fail
                  refine (handlesA_any B (allocS A X) _ (HS10.out.is.drewN n1) HS10.out.inv.f).mono ?_; rintro e w12 hh
                  obtain ⟨vn, rfl, hfn, hbn⟩ := hh.rs
                  rw [HLN.out, HIL.out] at hfn
                  obtain ⟨an, cn, rfl, -⟩ := hfn
                  have HS12 := Lib.hid ((HS10.out.drewN n1).below hbn)
                  clear hh hbn
                  go_wp2_with fail
                  refine (awake13_any _).mono ?_; rintro e w13 ⟨rfl, hb⟩
                  have HB := Lib.hid (below_two HS12.out.low hb)
                  clear hb
                  go_wp2_with fail
                  go_ret
                  exact ⟨rfl, HB.out⟩
            | false =>
              have HNF := Lib.hid (HF.out rfl)
              clear HT HF
              as_aux_lemma =>
                obtain ⟨e9, hR, he0, he6, hA⟩ := allocR_nofit HNF.out
                have hal := soloAlloc w B A X xa X.kids.length xc wr HKX.out.1 HKX.out.2.1 (HKX.out.sep HS.out.is HS.out.ge) HS.out
                rw [hR, hA] at hal
                have HAL := Lib.hid hal
                have hq0 : (e9 == 0) = false := by simpa using he0
                have hq6 : (e9 == 6) = false := by simpa using he6
                clear hal hR hA he0 he6 HNF
                go_wp2_with fail
                refine (HAL.out).mono ?_; rintro e w10 ⟨rfl, hs10, hk10⟩
                have HS10 := Lib.hid hs10
                have HC10 := Lib.hid (box_turn HS.out.is hk10 HC.out plainS)
                have HL10 := Lib.hid (HL.out.turn HS.out.is hk10 plainH)
                clear hs10 hk10 HS HC HL HX HKX HAL HBR q0 q1 q2 f0 f1 f2 hz
                go_wp2_with fail
                refine wp_region_specs (by kernel_rfl) (by decide) (by kernel_rfl) ?_
                simp only [fill, Act.put, List.setIfInBounds_toArray, List.set_cons_zero, List.set_cons_succ, Nat.zero_add, Nat.reduceAdd]
                apply OpsOK.eq
                · intro vs u hb hd
                  clear hd
                  go_wp2_with fail
                  exact ⟨rfl, _, rfl, Below.refl _ _, rfl⟩
                apply OpsOK.eq
                · intro vs u hb hd
                  clear hd
                  go_wp2_with fail
                  exact ⟨rfl, _, rfl, Below.refl _ _, rfl⟩
                apply OpsOK.eq
                · intro vs u hb hd
                  simp [Region.binds] at hd
                  have e1 := hd
                  clear hd
                  simp only [e1]
                  go_wp2_with fail
                  exact ⟨rfl, _, rfl, Below.refl _ _, rfl⟩
                apply OpsOK.eq
                · intro vs u hb hd
                  simp [Region.binds] at hd
                  obtain ⟨e0, e2⟩ := hd
                  simp only [e0, e2]
                  go_wp2_with fail
                  exact ⟨rfl, _, rfl, Below.refl _ _, rfl⟩
                apply OpsOK.eq
                · intro vs u hb hd
                  simp [Region.binds] at hd
                  have e3 := hd
                  clear hd
                  simp only [e3]
                  go_wp2_with fail
                  exact ⟨rfl, _, rfl, Below.refl _ _, rfl⟩
                apply OpsOK.eq
                · intro vs u hb hd
                  simp [Region.binds] at hd
                  have e4 := hd
                  clear hd
                  simp only [e4]
                  go_wp2_with fail
                  exact ⟨rfl, _, rfl, Below.refl _ _, rfl⟩
                apply OpsOK.eq
                · intro vs u hb hd
                  simp [Region.binds] at hd
                  obtain ⟨e5, e4⟩ := hd
                  simp only [e5, e4]
                  go_wp2_with fail
                  exact ⟨rfl, _, rfl, Below.refl _ _, rfl⟩
                apply OpsOK.eq
                · intro vs u hb hd
                  simp [Region.binds] at hd
                  obtain ⟨e6, e4⟩ := hd
                  simp only [e6, e4]
                  go_wp2_with fail
                  exact ⟨rfl, _, rfl, Below.refl _ _, rfl⟩
                apply OpsOK.eq
                · intro vs u hb hd
                  simp [Region.binds] at hd
                  have e7 := hd
                  clear hd
                  simp only [e7]
                  go_wp2_with fail
                  exact ⟨rfl, _, rfl, Below.refl _ _, rfl⟩
                apply OpsOK.eq
                · intro vs u hb hd
                  simp [Region.binds] at hd
                  obtain ⟨e8, e7⟩ := hd
                  simp only [e8, e7]
                  go_wp2_with fail
                  exact ⟨rfl, _, rfl, Below.refl _ _, rfl⟩
                apply OpsOK.eq
                · intro vs u hb hd
                  simp [Region.binds] at hd
                  obtain ⟨e9, e7⟩ := hd
                  simp only [e9, e7]
                  go_wp2_with fail
                  exact ⟨rfl, _, rfl, Below.refl _ _, rfl⟩
                apply OpsOK.eq
                · intro vs u hb hd
                  simp [Region.binds] at hd
                  obtain ⟨e7, e10, e4⟩ := hd
                  simp only [e7, e10, e4]
                  go_wp2_with fail
                  exact ⟨rfl, _, rfl, Below.refl _ _, rfl⟩
                apply OpsOK.eq
                · intro vs u hb hd
                  simp [Region.binds] at hd
                  obtain ⟨e4, e11⟩ := hd
                  simp only [e4, e11]
                  go_wp2_with fail
                  exact ⟨rfl, _, rfl, Below.refl _ _, rfl⟩
                apply OpsOK.eq
                · intro vs u hb hd
                  simp [Region.binds] at hd
                  obtain ⟨e12, e7⟩ := hd
                  simp only [e12, e7]
                  go_wp2_with fail
                  exact ⟨rfl, _, rfl, Below.refl _ _, rfl⟩
                apply OpsOK.eq
                · intro vs u hb hd
                  simp [Region.binds] at hd
                  have e13 := hd
                  clear hd
                  simp only [e13]
                  go_wp2_with fail
                  exact ⟨rfl, _, rfl, Below.refl _ _, rfl⟩
                apply OpsOK.eq
                · intro vs u hb hd
                  simp [Region.binds] at hd
                  obtain ⟨e14, e13⟩ := hd
                  simp only [e14, e13]
                  go_wp2_with fail
                  exact ⟨rfl, _, rfl, Below.refl _ _, rfl⟩
                apply OpsOK.eq
                · intro vs u hb hd
                  simp [Region.binds] at hd
                  obtain ⟨e13, e15⟩ := hd
                  simp only [e13, e15]
                  go_wp2_with fail
                  exact ⟨rfl, _, rfl, Below.refl _ _, rfl⟩
                apply OpsOK.eq
                · intro vs u hb hd
                  simp [Region.binds] at hd
                  obtain ⟨e16, e13⟩ := hd
                  simp only [e16, e13]
                  go_wp2_with fail
                  exact ⟨rfl, _, rfl, Below.refl _ _, rfl⟩
                apply OpsOK.eq
                · intro vs u hb hd
                  simp [Region.binds] at hd
                  have e17 := hd
                  clear hd
                  simp only [e17]
                  go_wp2_with fail
                  exact ⟨rfl, _, rfl, Below.refl _ _, rfl⟩
                apply OpsOK.eq
                · intro vs u hb hd
                  simp [Region.binds] at hd
                  obtain ⟨e18, e17⟩ := hd
                  simp only [e18, e17]
                  go_wp2_with fail
                  refine (statsA_any B A u (HS10.out.is.below hb) HS10.out.inv.f).mono ?_; rintro e w1 ⟨rfl, hbel⟩; rw [HQ.out]; go_wp2_with fail; exact ⟨rfl, _, rfl, hbel, rfl⟩
                apply OpsOK.eq
                · intro vs u hb hd
                  simp [Region.binds] at hd
                  have e17 := hd
                  clear hd
                  simp only [e17]
                  have hz7 := block_below hb HC10.out (block_lt HC10.out)
                  have p0 := block_cell hz7 0
                  have p1 := block_cell hz7 1
                  have p2 := block_cell hz7 2
                  have p3 := block_cell hz7 3
                  have p4 := block_cell hz7 4
                  have p5 := block_cell hz7 5
                  have p6 := block_cell hz7 6
                  simp at p0 p1 p2 p3 p4 p5 p6
                  clear hz7
                  go_wp2_with fail
                  exact ⟨rfl, _, rfl, Below.refl _ _, rfl⟩
                apply OpsOK.eq
                · intro vs u hb hd
                  simp [Region.binds] at hd
                  obtain ⟨e19, e20, e17⟩ := hd
                  simp only [e19, e20, e17]
                  go_wp2_with fail
                  exact ⟨rfl, _, rfl, Below.refl _ _, rfl⟩
                apply OpsOK.eq
                · intro vs u hb hd
                  simp [Region.binds] at hd
                  obtain ⟨e17, e21⟩ := hd
                  simp only [e17, e21]
                  go_wp2_with fail
                  exact ⟨rfl, _, rfl, Below.refl _ _, rfl⟩
                apply OpsOK.eq
                · intro vs u hb hd
                  simp [Region.binds] at hd
                  obtain ⟨e22, e19⟩ := hd
                  simp only [e22, e19]
                  go_wp2_with fail
                  exact ⟨rfl, _, rfl, Below.refl _ _, rfl⟩
                apply OpsOK.eq
                · intro vs u hb hd
                  simp [Region.binds] at hd
                  have e23 := hd
                  clear hd
                  simp only [e23]
                  go_wp2_with fail
                  exact ⟨rfl, _, rfl, Below.refl _ _, rfl⟩
                refine OpsOK.step (HsR w10.heap.size A.x il) (Stab_hs _ _ _) ?_ ?_
                · intro vs u hb hd
                  simp [Region.binds] at hd
                  obtain ⟨e24, e23⟩ := hd
                  simp only [e24, e23]
                  go_wp2_with fail
                  refine (handlesA_any B A u (HS10.out.is.below hb) HS10.out.inv.f).mono ?_; rintro e w1 hh; obtain ⟨v, rfl, hr, hbel⟩ := hh.rs; clear hh; have hr2 : Rs w1 u.heap.size 31 v (slotsTo A.x 1 A.x.n).length (fun i => encH A.x ((slotsTo A.x 1 A.x.n).getD i 0)) := hr; rw [HIL.out] at hr2; go_wp2_with fail; exact ⟨rfl, _, rfl, hbel, hr2.low (hb.size)⟩
                apply OpsOK.eq
                · intro vs u hb hd
                  simp [Region.binds] at hd
                  have e23 := hd
                  clear hd
                  simp only [e23]
                  go_wp2_with fail
                  exact ⟨rfl, _, rfl, Below.refl _ _, rfl⟩
                apply OpsOK.eq
                · intro vs u hb hd
                  simp [Region.binds] at hd
                  obtain ⟨h25, e26, h25, e23⟩ := hd
                  simp only [e26, e23]
                  go_wp2_with fail
                  refine (equalHandles_self u _ (.slice al il cl) il (hsF A.x) (show Rs _ _ _ _ _ _ from h25).sl (show Rs u w1.heap.size 31 (.slice al il cl) il (fun i => .int .u64 (hsF A.x i)) from HL10.out.keep hb (Nat.le_refl _)).sl (by omega)).mono ?_; rintro e w1 ⟨rfl, n1, rfl⟩; go_wp2_with fail; exact ⟨rfl, _, rfl, below_drewN (Below.refl _ _) n1, rfl⟩
                apply OpsOK.eq
                · intro vs u hb hd
                  simp [Region.binds] at hd
                  obtain ⟨e27, e23⟩ := hd
                  simp only [e27, e23]
                  go_wp2_with fail
                  exact ⟨rfl, _, rfl, Below.refl _ _, rfl⟩
                apply OpsOK.eq
                · intro vs u hb hd
                  simp [Region.binds] at hd
                  obtain ⟨e23, e28⟩ := hd
                  simp only [e23, e28]
                  go_wp2_with fail
                  exact ⟨rfl, _, rfl, Below.refl _ _, rfl⟩
                refine OpsOK.done ?_
                intro vs u hbu hS
                have h29 := hS 29 (by decide)
                simp at h29
                simp only [h29]
                clear h29
                clear hS
                have HBU := Lib.hid hbu
                have HS11 := Lib.hid (HS10.out.below HBU.out)
                have HC11 := Lib.hid (block_below HBU.out HC10.out (block_lt HC10.out))
                have HL11 := Lib.hid (HL10.out.keep HBU.out (Nat.le_refl _))
                clear hbu HS10 HC10 HL10
                by_cases hlm : liveL A.x m
                · have HLM := Lib.hid hlm
                  clear hlm
                  go_wp2_with fail
                  refine (liveA_yes B A m u HM.out HS11.out.is HLM.out).mono ?_; rintro e w12 ⟨rfl, n1, rfl⟩
                  go_wp2_with fail
                  refine (awake13_any _).mono ?_; rintro e w13 ⟨rfl, hb⟩
                  have HB := Lib.hid (below_two (HS11.out.drewN n1).low hb)
                  clear hb
                  go_wp2_with fail
                  go_ret
                  exact ⟨rfl, HB.out⟩
                · have HLM := Lib.hid hlm
                  clear hlm
                  go_wp2_with fail
                  refine (liveA_no B A m u HM.out HS11.out.is HLM.out).mono ?_; rintro e w12 ⟨rfl, n1, rfl⟩
                  go_wp2_with fail
                  refine (soloGet_no w B A m _ (HS11.out.drewN n1) (by omega) HLM.out).mono ?_; rintro e w13 ⟨ay, cy, rfl, hs13, hk13⟩
                  have HS13 := Lib.hid (hs13.below ((Below.refl _ _).alloc (Nat.le_refl _) (.cells #[.int .i64 0, .string ⟨#[]⟩, .slice ay 0 cy] 36)))
                  have HC13 := Lib.hid (block_alloc (box_turn (HS11.out.is.drewN n1) hk13 HC11.out plainS) (.cells #[.int .i64 0, .string ⟨#[]⟩, .slice ay 0 cy] 36))
                  have HL13 := Lib.hid ((Rs.turn (w := u.drewN n1) (show Rs (u.drewN n1) w1.heap.size 31 (.slice al il cl) il (fun i => encH A.x ((slotsTo A.x 1 A.x.n).getD i 0)) from HL11.out) (HS11.out.is.drewN n1) hk13 plainH).keep ((Below.refl _ _).alloc (Nat.le_refl _) (.cells #[.int .i64 0, .string ⟨#[]⟩, .slice ay 0 cy] 36)) (Nat.le_refl _))
                  clear hs13 hk13 HC11 HL11
                  go_wp2_with fail
                  refine (soloFree w B { A with st := A.st + 1 } m _ HM.out.1 HM.out.2 HS13.out (by show A.st + 1 ≤ _; omega)).mono ?_; rintro e w14 ⟨rfl, hs14, hk14⟩
                  rw [show getE ({ A with st := A.st + 1 } : AS) m = 10 from if_neg HLM.out]
                  rw [show freeS ({ A with st := A.st + 1 } : AS) m = { A with st := A.st + 1 + 1 } from freeS_no HLM.out] at hs14
                  have hc14 := box_turn HS13.out.is hk14 HC13.out plainS
                  have HC14 := Lib.hid hc14
                  have HL14 := Lib.hid (HL13.out.turn HS13.out.is hk14 plainH)
                  have HS14 := Lib.hid (hs14.set (i := 6) HSB.out (hs14.is.nownP hc14 plainS) (notKb hc14 plainS.n6) (.int .i64 ((A.st : Int) + 2)))
                  have HC15 := Lib.hid (block_setCell HC14.out 6 (.int .i64 ((A.st : Int) + 2)))
                  have HL15 := Lib.hid (HL14.out.far (i := 6) HC14.out (by decide) (.int .i64 ((A.st : Int) + 2)))
                  have HQ2 := Lib.hid (stats_st HQ.out)
                  clear hs14 hk14 HS13 HC13 HL13 HL14
                  (have q0 := block_cell hc14 0; have q1 := block_cell hc14 1; have q2 := block_cell hc14 2; have q3 := block_cell hc14 3; have q4 := block_cell hc14 4; have q5 := block_cell hc14 5; have q6 := block_cell hc14 6; have f0 := block_free hc14 0; have f1 := block_free hc14 1; have f2 := block_free hc14 2; have f3 := block_free hc14 3; have f4 := block_free hc14 4; have f5 := block_free hc14 5; have f6 := block_free hc14 6; have hz := block_lt hc14; simp at q0 q1 q2 q3 q4 q5 q6)
                  clear hc14
                  go_wp2_with fail
                  clear q0 q1 q2 q3 q4 q5 q6 f0 f1 f2 f3 f4 f5 f6 hz HC14
                  generalize w14.setCell ⟨Sb, 6, none⟩ (.int .i64 ((A.st : Int) + 2)) = w15 at *
                  simp only [List.setIfInBounds_toArray, List.set_cons_zero, List.set_cons_succ] at HC15
                  refine wp_region_specs (by kernel_rfl) (by decide) (by kernel_rfl) ?_
                  simp only [fill, Act.put, List.setIfInBounds_toArray, List.set_cons_zero, List.set_cons_succ, Nat.zero_add, Nat.reduceAdd]
                  apply OpsOK.eq
                  · intro vs u hb hd
                    clear hd
                    go_wp2_with fail
                    exact ⟨rfl, _, rfl, Below.refl _ _, rfl⟩
                  apply OpsOK.eq
                  · intro vs u hb hd
                    simp [Region.binds] at hd
                    have e0 := hd
                    clear hd
                    simp only [e0]
                    go_wp2_with fail
                    exact ⟨rfl, _, rfl, Below.refl _ _, rfl⟩
                  apply OpsOK.eq
                  · intro vs u hb hd
                    simp [Region.binds] at hd
                    have e1 := hd
                    clear hd
                    simp only [e1]
                    go_wp2_with fail
                    exact ⟨rfl, _, rfl, Below.refl _ _, rfl⟩
                  apply OpsOK.eq
                  · intro vs u hb hd
                    simp [Region.binds] at hd
                    have e2 := hd
                    clear hd
                    simp only [e2]
                    go_wp2_with fail
                    exact ⟨rfl, _, rfl, Below.refl _ _, rfl⟩
                  apply OpsOK.eq
                  · intro vs u hb hd
                    simp [Region.binds] at hd
                    obtain ⟨e3, e2⟩ := hd
                    simp only [e3, e2]
                    go_wp2_with fail
                    exact ⟨rfl, _, rfl, Below.refl _ _, rfl⟩
                  apply OpsOK.eq
                  · intro vs u hb hd
                    simp [Region.binds] at hd
                    obtain ⟨e2, e4⟩ := hd
                    simp only [e2, e4]
                    go_wp2_with fail
                    exact ⟨rfl, _, rfl, Below.refl _ _, rfl⟩
                  apply OpsOK.eq
                  · intro vs u hb hd
                    simp [Region.binds] at hd
                    obtain ⟨e5, e2⟩ := hd
                    simp only [e5, e2]
                    go_wp2_with fail
                    exact ⟨rfl, _, rfl, Below.refl _ _, rfl⟩
                  apply OpsOK.eq
                  · intro vs u hb hd
                    simp [Region.binds] at hd
                    have e6 := hd
                    clear hd
                    simp only [e6]
                    go_wp2_with fail
                    exact ⟨rfl, _, rfl, Below.refl _ _, rfl⟩
                  apply OpsOK.eq
                  · intro vs u hb hd
                    simp [Region.binds] at hd
                    obtain ⟨e7, e6⟩ := hd
                    simp only [e7, e6]
                    go_wp2_with fail
                    refine (statsA_any B { A with st := A.st + 1 + 1 } u (HS14.out.is.below hb) HS14.out.inv.f).mono ?_; rintro e w1 ⟨rfl, hbel⟩; rw [HQ2.out]; go_wp2_with fail; exact ⟨rfl, _, rfl, hbel, rfl⟩
                  apply OpsOK.eq
                  · intro vs u hb hd
                    simp [Region.binds] at hd
                    have e6 := hd
                    clear hd
                    simp only [e6]
                    have hz7 := block_below hb HC15.out (block_lt HC15.out)
                    have p0 := block_cell hz7 0
                    have p1 := block_cell hz7 1
                    have p2 := block_cell hz7 2
                    have p3 := block_cell hz7 3
                    have p4 := block_cell hz7 4
                    have p5 := block_cell hz7 5
                    have p6 := block_cell hz7 6
                    simp at p0 p1 p2 p3 p4 p5 p6
                    clear hz7
                    go_wp2_with fail
                    exact ⟨rfl, _, rfl, Below.refl _ _, rfl⟩
                  apply OpsOK.eq
                  · intro vs u hb hd
                    simp [Region.binds] at hd
                    obtain ⟨e8, e9, e6⟩ := hd
                    simp only [e8, e9, e6]
                    go_wp2_with fail
                    exact ⟨rfl, _, rfl, Below.refl _ _, rfl⟩
                  apply OpsOK.eq
                  · intro vs u hb hd
                    simp [Region.binds] at hd
                    obtain ⟨e6, e10⟩ := hd
                    simp only [e6, e10]
                    go_wp2_with fail
                    exact ⟨rfl, _, rfl, Below.refl _ _, rfl⟩
                  apply OpsOK.eq
                  · intro vs u hb hd
                    simp [Region.binds] at hd
                    obtain ⟨e11, e8⟩ := hd
                    simp only [e11, e8]
                    go_wp2_with fail
                    exact ⟨rfl, _, rfl, Below.refl _ _, rfl⟩
                  apply OpsOK.eq
                  · intro vs u hb hd
                    simp [Region.binds] at hd
                    have e12 := hd
                    clear hd
                    simp only [e12]
                    go_wp2_with fail
                    exact ⟨rfl, _, rfl, Below.refl _ _, rfl⟩
                  refine OpsOK.step (HsR w15.heap.size A.x il) (Stab_hs _ _ _) ?_ ?_
                  · intro vs u hb hd
                    simp [Region.binds] at hd
                    obtain ⟨e13, e12⟩ := hd
                    simp only [e13, e12]
                    go_wp2_with fail
                    refine (handlesA_any B { A with st := A.st + 1 + 1 } u (HS14.out.is.below hb) HS14.out.inv.f).mono ?_; rintro e w1 hh; obtain ⟨v, rfl, hr, hbel⟩ := hh.rs; clear hh; have hr2 : Rs w1 u.heap.size 31 v (slotsTo A.x 1 A.x.n).length (fun i => encH A.x ((slotsTo A.x 1 A.x.n).getD i 0)) := hr; rw [HIL.out] at hr2; go_wp2_with fail; exact ⟨rfl, _, rfl, hbel, hr2.low (hb.size)⟩
                  apply OpsOK.eq
                  · intro vs u hb hd
                    simp [Region.binds] at hd
                    have e12 := hd
                    clear hd
                    simp only [e12]
                    go_wp2_with fail
                    exact ⟨rfl, _, rfl, Below.refl _ _, rfl⟩
                  apply OpsOK.eq
                  · intro vs u hb hd
                    simp [Region.binds] at hd
                    obtain ⟨h14, e15, h14, e12⟩ := hd
                    simp only [e15, e12]
                    go_wp2_with fail
                    refine (equalHandles_self u _ (.slice al il cl) il (hsF A.x) (show Rs _ _ _ _ _ _ from h14).sl (show Rs u w1.heap.size 31 (.slice al il cl) il (fun i => .int .u64 (hsF A.x i)) from HL15.out.keep hb (Nat.le_refl _)).sl (by omega)).mono ?_; rintro e w1 ⟨rfl, n1, rfl⟩; go_wp2_with fail; exact ⟨rfl, _, rfl, below_drewN (Below.refl _ _) n1, rfl⟩
                  apply OpsOK.eq
                  · intro vs u hb hd
                    simp [Region.binds] at hd
                    obtain ⟨e12, e16⟩ := hd
                    simp only [e12, e16]
                    go_wp2_with fail
                    exact ⟨rfl, _, rfl, Below.refl _ _, rfl⟩
                  apply OpsOK.eq
                  · intro vs u hb hd
                    simp [Region.binds] at hd
                    obtain ⟨e17, e16⟩ := hd
                    simp only [e17, e16]
                    go_wp2_with fail
                    exact ⟨rfl, _, rfl, Below.refl _ _, rfl⟩
                  apply OpsOK.eq
                  · intro vs u hb hd
                    simp [Region.binds] at hd
                    have e18 := hd
                    clear hd
                    simp only [e18]
                    go_wp2_with fail
                    refine (awake13_any u).mono ?_; rintro e w1 ⟨rfl, hbel⟩; go_wp2_with fail; exact ⟨rfl, _, rfl, hbel, rfl⟩
                  apply OpsOK.eq
                  · intro vs u hb hd
                    simp [Region.binds] at hd
                    obtain ⟨e18, e19⟩ := hd
                    simp only [e18, e19]
                    go_wp2_with fail
                    exact ⟨rfl, _, rfl, Below.refl _ _, rfl⟩
                  apply OpsOK.eq
                  · intro vs u hb hd
                    simp [Region.binds] at hd
                    obtain ⟨e20, e19, e0, e1, e2, e3, e4, e5, e6, e7, e8, e9, e10, e11, e12, e13, h14, e15, e16, e17, e18, e19, e20⟩ := hd
                    simp only [e20, e19, e0, e1, e2, e3, e4, e5, e6, e7, e8, e9, e10, e11, e12, e13, e15, e16, e17, e18]
                    go_wp2_with fail
                    exact ⟨rfl, _, rfl, Below.refl _ _, rfl⟩
                  refine OpsOK.done ?_
                  intro vs u hbu hS
                  have h21 := hS 21 (by decide)
                  simp at h21
                  simp only [h21]
                  clear h21
                  clear hS
                  have HBV := Lib.hid (below_two HS14.out.low hbu)
                  clear hbu
                  go_wp2_with fail
                  go_ret
                  exact ⟨rfl, HBV.out⟩
end Go.Proofs.Ytfgkbnnojogjpaa
