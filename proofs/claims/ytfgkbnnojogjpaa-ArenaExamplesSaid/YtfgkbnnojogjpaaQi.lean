/- The arena: an arena of its own, followed through calls; mod; awake. -/
import Derived.Test.YtfgkbnnojogjpaaQh
namespace Go.Proofs.Ytfgkbnnojogjpaa
open Go.RowKit

theorem mod13_plain (n m : Int) : (n.tmod m + m) % m = n % m := by
  rw [Int.add_emod_right]
  have := Int.tmod_def n m
  rw [this, show n - m * n.tdiv m = n + m * (-(n.tdiv m)) by rw [Int.mul_neg]; omega, Int.add_mul_emod_self_left]
set_option maxRecDepth 100000 in
set_option maxHeartbeats 2000000 in
theorem mod13_any (n m : Int) (w : World) (hm : 0 < m) (hm2 : m ≤ 4611686018427387904) :
    Calls Try.prog 15 #[.int .i64 n, .int .i64 m] w fun e w' => e = .returned (.int .i64 (n % m)) ∧ w = w' := by
  have HP := Lib.hid (mod13_plain n m)
  have k1 := Int.tmod_lt_of_pos n hm
  have k2 : -m < n.tmod m := by
    have := Int.lt_tmod_of_pos n hm
    omega
  have k3 : m ≠ 0 := by omega
  go_enter Try.func15, Try.ntmps15
  go_wp2_with fail
  go_ret
  exact ⟨congrArg (fun i => Ending.returned (Value.int .i64 i)) HP.out, rfl⟩
theorem mod13_as (n : Int) (m a : Nat) (hm : 0 < m) (hm2 : m ≤ 4611686018427387904) (h : n % (m : Int) = a) (w : World) :
    Calls Try.prog 15 #[.int .i64 n, .int .i64 m] w fun e w' => e = .returned (.int .i64 a) ∧ w = w' := by
  have := mod13_any n m w (by omega) (by omega)
  rwa [h] at this

/-- an arena of its own, no older than w0 -/
structure SoloA (w0 w : World) (B : PB) (A : AS) : Prop where
  is : IsA w B A
  inv : AInv A
  cnt : CInv A
  ge : B.ge w0.heap.size
  low : Below w0.heap.size w0 w
theorem SoloA.below {w0 w w' : World} {B : PB} {A : AS} (h : SoloA w0 w B A) (k : Below w.heap.size w w') : SoloA w0 w' B A := ⟨h.is.below k, h.inv, h.cnt, h.ge, below_two h.low k⟩
theorem SoloA.drewN {w0 w : World} {B : PB} {A : AS} (h : SoloA w0 w B A) (n : Nat) : SoloA w0 (w.drewN n) B A := ⟨h.is.drewN n, h.inv, h.cnt, h.ge, below_drewN h.low n⟩
theorem KeepA.ge {B : PB} {w w' : World} (k : KeepA B w w') {b0 : Nat} (h0 : b0 ≤ w.heap.size) (hb : B.ge b0) : Below b0 w w' := k.1 b0 h0 hb
theorem SoloA.turn {w0 w w' : World} {B : PB} {A A' : AS} (h : SoloA w0 w B A) (hi : AInv A') (hc : CInv A') (ha : IsA w' B A') (k : KeepA B w w') : SoloA w0 w' B A' := ⟨ha, hi, hc, h.ge, h.low.trans (k.ge h.low.size h.ge)⟩
theorem SoloA.al {w0 w : World} {B : PB} {A : AS} (h : SoloA w0 w B A) : A.al ≤ 1152921504606846976 ∧ A.fr ≤ 1152921504606846976 := by
  have h1 := h.cnt.facts h.inv.f
  have h2 : A.x.n * A.x.most ≤ 16384 * 4294967295 := Nat.mul_le_mul h.inv.f.n2 h.inv.f.g2
  omega
theorem NewA.solo {w : World} {n g : Nat} {e : Ending} {w' : World} (h : NewA w n g e w') (h1 : 1 ≤ n) (h2 : n ≤ 16384) (h3 : 1 ≤ g) (h4 : g ≤ 4294967295) : ∃ B : PB, e = .returned (.tuple #[.pointer (some ⟨B.p, 0, none⟩), .int .i64 0]) ∧ SoloA w w' B (newA n g) := by
  obtain ⟨B, e1, ha, hb, hg⟩ := h
  exact ⟨B, e1, ha, newA_inv h1 h2 h3 h4, newA_c n g, hg, hb⟩

theorem soloAlloc (w0 : World) (B : PB) (A : AS) (x : Nd) (ao : Option Addr) (n c : Nat) (w : World) (hk : IsKs w ao n x.kids) (hno : ao = none → c = 0) (hsep : ∀ b o, ao = some ⟨b, o, none⟩ → 0 < n → ¬ B.own b) (h : SoloA w0 w B A) :
    Calls Try.prog 13 #[.pointer (some ⟨B.p, 0, none⟩), aggN x.h x.text ao n c] w fun e w' => e = .returned (.tuple #[.int .u64 (allocR A x).1, .int .i64 (allocR A x).2]) ∧ SoloA w0 w' B (allocS A x) ∧ KeepA B w w' := by
  have := h.al
  refine (allocA_any B A x ao n c w hk hno hsep h.is h.inv (by omega)).mono ?_
  rintro e w1 ⟨rfl, h1, h2⟩
  exact ⟨rfl, h.turn (allocS_inv h.inv x) (allocS_c h.inv h.cnt x) h1 h2, h2⟩
theorem leafAlloc (w0 : World) (B : PB) (A : AS) (t : ByteArray) (w : World) (r : Int × Int) (A' : AS) (hr : allocR A ⟨0, t, []⟩ = r) (hs : allocS A ⟨0, t, []⟩ = A') (h : SoloA w0 w B A) :
    Calls Try.prog 13 #[.pointer (some ⟨B.p, 0, none⟩), .agg #[.int .i64 0, .string t, .slice none 0 0]] w fun e w' => e = .returned (.tuple #[.int .u64 r.1, .int .i64 r.2]) ∧ SoloA w0 w' B A' := by
  refine (soloAlloc w0 B A ⟨0, t, []⟩ none 0 0 w ⟨rfl, by simp, fun h => absurd h (Nat.lt_irrefl _)⟩ (fun _ => rfl) (fun _ _ h => by cases h) h).mono ?_
  rintro e w1 ⟨rfl, h1, h2⟩
  subst hr hs
  exact ⟨rfl, h1⟩
theorem soloGet (w0 : World) (B : PB) (A : AS) (h : Int) (w : World) (hs : SoloA w0 w B A) (hb : A.st ≤ 1000000000) :
    Calls Try.prog 21 #[.pointer (some ⟨B.p, 0, none⟩), .int .u64 h] w fun e w' => ∃ v, e = .returned (.tuple #[v, .int .i64 (getE A h)]) ∧ OwnN w.heap.size w' v (nodeOf A h) ∧ SoloA w0 w' B (getS A h) ∧ KeepA B w w' := by
  refine (getA_any B A h w hs.is hs.inv (by omega)).mono ?_
  rintro e w1 ⟨v, rfl, h1, h2, h3⟩
  exact ⟨v, rfl, h1, hs.turn (getS_inv hs.inv h) (getS_c hs.cnt h) h2 h3, h3⟩
theorem soloFree (w0 : World) (B : PB) (A : AS) (h : Int) (w : World) (h0 : 0 ≤ h) (h1 : h ≤ 18446744073709551615) (hs : SoloA w0 w B A) (hb : A.st ≤ 1000000000) :
    Calls Try.prog 28 #[.pointer (some ⟨B.p, 0, none⟩), .int .u64 h] w fun e w' => e = .returned (.int .i64 (getE A h)) ∧ SoloA w0 w' B (freeS A h) ∧ KeepA B w w' := by
  have := hs.al
  refine (freeA_any B A h w h0 h1 hs.is hs.inv (by omega) (by omega)).mono ?_
  rintro e w1 ⟨rfl, h2, h3⟩
  exact ⟨rfl, hs.turn (freeS_inv hs.inv h) (freeS_c hs.inv hs.cnt h) h2 h3, h3⟩
theorem getLit (w0 : World) (B : PB) (A : AS) (h e0 : Int) (x : Nd) (A' : AS) (w : World) (hs : SoloA w0 w B A) (hb : A.st ≤ 1000000000) (he : getE A h = e0) (hx : nodeOf A h = x) (hA : getS A h = A') :
    Calls Try.prog 21 #[.pointer (some ⟨B.p, 0, none⟩), .int .u64 h] w fun e w' => ∃ ao n c, e = .returned (.tuple #[.agg #[.int .i64 x.h, .string x.text, .slice ao n c], .int .i64 e0]) ∧ SoloA w0 w' B A' ∧ KeepA B w w' := by
  subst he hx hA
  refine (soloGet w0 B A h w hs hb).mono ?_
  rintro e w1 ⟨v, rfl, ⟨s, rfl, h1⟩, h2, h3⟩
  obtain ⟨ao, c, rfl, -⟩ := h1.ks
  exact ⟨_, _, _, rfl, h2, h3⟩
theorem freeLit (w0 : World) (B : PB) (A : AS) (h e0 : Int) (A' : AS) (w : World) (h0 : 0 ≤ h) (h1 : h ≤ 18446744073709551615) (hs : SoloA w0 w B A) (hb : A.st ≤ 1000000000) (he : getE A h = e0) (hA : freeS A h = A') :
    Calls Try.prog 28 #[.pointer (some ⟨B.p, 0, none⟩), .int .u64 h] w fun e w' => e = .returned (.int .i64 e0) ∧ SoloA w0 w' B A' := by
  subst he hA
  refine (soloFree w0 B A h w h0 h1 hs hb).mono ?_
  rintro e w1 ⟨rfl, h2, -⟩
  exact ⟨rfl, h2⟩

def tA : ByteArray := ⟨#[97]⟩
def tB : ByteArray := ⟨#[98]⟩
def av0 : AS := newA 2 1
def av1 : AS := ⟨takeL (newL 2 1), [(65536, ⟨0, tA, []⟩)], 1, 0, 0⟩
def av2 : AS := ⟨takeL av1.x, [(65536, ⟨0, tA, []⟩), (65537, ⟨0, tB, []⟩)], 2, 0, 0⟩
def av3 : AS := { av2 with st := 1 }
def av4 : AS := ⟨giveL av3.x 0, [(65537, ⟨0, tB, []⟩)], 2, 1, 1⟩
def av5 : AS := { av4 with st := 2 }
theorem ckA : checkN ⟨0, tA, []⟩ = 0 := by decide +kernel
theorem ckB : checkN ⟨0, tB, []⟩ = 0 := by decide +kernel
theorem ckO : checkN ⟨0, ⟨#[]⟩, []⟩ = 23 := by decide +kernel
theorem leaf_R {A : AS} {t : ByteArray} (h : checkN ⟨0, t, []⟩ = 0) : allocR A ⟨0, t, []⟩ = takeR A.x := allocR_take h rfl
theorem leaf_S {A : AS} {t : ByteArray} {k : Int} {A' : AS} (h : checkN ⟨0, t, []⟩ = 0) (hk : takeR A.x = (k, 0)) (hA : A' = { A with x := takeL A.x, it := A.it ++ [(k, ⟨0, t, []⟩)], al := A.al + 1 }) : allocR A ⟨0, t, []⟩ = (k, 0) ∧ allocS A ⟨0, t, []⟩ = A' := by
  have h1 := (leaf_R h).trans hk
  refine ⟨h1, ?_⟩
  unfold allocS
  rw [h1, hA]
  exact if_neg (fun h => h rfl)
theorem leaf_F {A : AS} {t : ByteArray} {e : Int} (h : allocR A ⟨0, t, []⟩ = (0, e)) (he : e ≠ 0) : allocS A ⟨0, t, []⟩ = A := allocS_no (by rw [h]; exact he)
theorem st1 : allocR av0 ⟨0, tA, []⟩ = (65536, 0) ∧ allocS av0 ⟨0, tA, []⟩ = av1 := leaf_S ckA (by decide) rfl
theorem st2 : allocR av1 ⟨0, tB, []⟩ = (65537, 0) ∧ allocS av1 ⟨0, tB, []⟩ = av2 := leaf_S ckB (by decide) rfl
theorem st3 : allocR av2 ⟨0, tA, []⟩ = (0, 6) := (leaf_R ckA).trans (by decide)
theorem st4 : allocR av5 ⟨0, tA, []⟩ = (0, 6) := (leaf_R ckA).trans (by decide)
theorem st5 : allocR av5 ⟨0, ⟨#[]⟩, []⟩ = (0, 23) := by
  unfold allocR
  rw [ckO]
  rfl
theorem lv1 : liveL av2.x 65536 := by decide
theorem lv2 : ¬ liveL av2.x 131073 := by decide
theorem lv3 : ¬ liveL av4.x 65536 := by decide
theorem st6 : stats av5 = .agg #[.int .i64 2, .int .i64 0, .int .i64 1, .int .i64 1, .int .i64 2, .int .i64 1, .int .i64 2] := by kernel_rfl
set_option maxRecDepth 100000 in
theorem free3 : freeS av3 65536 = av4 := by
  unfold freeS
  rw [if_pos (show liveL av3.x 65536 from lv1)]
  have h1 : giveS av3.x 65536 = giveL av3.x 0 := by
    unfold giveS
    rw [if_pos (show liveL av3.x 65536 from lv1)]
    rfl
  rw [h1]
  rfl

set_option maxRecDepth 100000 in
set_option maxHeartbeats 4000000 in
theorem awake13_any (w : World) : Calls Try.prog 12 #[] w fun e w' => e = .returned (.bool true) ∧ Below w.heap.size w w' := by
  have HW := Lib.hid (Below.refl w.heap.size w)
  go_enter Try.func12, Try.ntmps12
  go_wp2_with fail
  refine (newA_ok 2 1 w (by decide) (by decide) (by decide) (by decide)).mono ?_; rintro e w1 hh
  obtain ⟨B, rfl, hs⟩ := hh.solo (by decide) (by decide) (by decide) (by decide)
  have HS0 := Lib.hid (show SoloA w w1 B av0 from hs)
  clear hs hh
  go_wp2_with fail
  refine (leafAlloc w B av0 tA w1 _ _ st1.1 st1.2 HS0.out).mono ?_; rintro e w2 ⟨rfl, hs⟩
  have HS1 := Lib.hid hs
  clear hs HS0
  go_wp2_with fail
  refine (leafAlloc w B av1 tB w2 _ _ st2.1 st2.2 HS1.out).mono ?_; rintro e w3 ⟨rfl, hs⟩
  have HS2 := Lib.hid hs
  clear hs HS1
  go_wp2_with fail
  refine (leafAlloc w B av2 tA w3 _ _ st3 (leaf_F st3 (by decide)) HS2.out).mono ?_; rintro e w4 ⟨rfl, hs⟩
  have HS3 := Lib.hid hs
  clear hs HS2
  go_wp2_with fail
  refine (getLit w B av2 65536 0 ⟨0, ⟨#[97]⟩, []⟩ av2 w4 HS3.out (by decide) (if_pos lv1) rfl (if_pos lv1)).mono ?_; rintro e w5 ⟨ao, n, c, rfl, hs, -⟩
  have HS4 := Lib.hid hs
  have HNO := Lib.hid (show ¬ B.own w5.heap.size from fun h => Nat.lt_irrefl _ (hs.is.lt (.inl h)))
  have HS5 := Lib.hid (hs.below ((Below.refl w5.heap.size w5).alloc (Nat.le_refl _) (.cells #[.int .i64 0, .string ⟨#[97]⟩, .slice ao n c] 36)))
  clear hs HS3
  simp only
  go_wp2_with fail
  refine (getLit w B av2 131073 10 ⟨0, ⟨#[]⟩, []⟩ av3 _ HS5.out (by decide) (if_neg lv2) (nodeOf_dead HS5.out.inv lv2).1 (if_neg lv2)).mono ?_; rintro e w6 ⟨ao2, n2, c2, rfl, hs, hk⟩
  have hX := (hk.2 w5.heap.size (by simp) HNO.out).trans (block_new w5 (.cells #[.int .i64 0, .string ⟨#[97]⟩, .slice ao n c] 36))
  have HS6 := Lib.hid (hs.below ((Below.refl w6.heap.size w6).alloc (Nat.le_refl _) (.cells #[.int .i64 0, .string ⟨#[]⟩, .slice ao2 n2 c2] 36)))
  clear hs hk HS5 HS4
  (have q0 := block_cell hX 0; have q1 := block_cell hX 1; have q2 := block_cell hX 2; have f0 := block_free hX 0; have f1 := block_free hX 1; have f2 := block_free hX 2; have hz := block_lt hX; simp at q0 q1 q2)
  clear hX
  simp only
  go_wp2_with fail
  refine (freeLit w B av3 65536 0 av4 _ (by decide) (by decide) HS6.out (by decide) (if_pos lv1) free3).mono ?_; rintro e w7 ⟨rfl, hs⟩
  have HS7 := Lib.hid hs
  clear hs HS6 q0 q1 q2 f0 f1 f2 hz
  go_wp2_with fail
  refine (getLit w B av4 65536 10 ⟨0, ⟨#[]⟩, []⟩ av5 _ HS7.out (by decide) (if_neg lv3) (nodeOf_dead HS7.out.inv lv3).1 (if_neg lv3)).mono ?_; rintro e w8 ⟨ao2, n2, c2, rfl, hs, -⟩
  have HS8 := Lib.hid (hs.below ((Below.refl w8.heap.size w8).alloc (Nat.le_refl _) (.cells #[.int .i64 0, .string ⟨#[]⟩, .slice ao2 n2 c2] 36)))
  clear hs HS7
  simp only
  go_wp2_with fail
  refine (leafAlloc w B av5 tA _ _ _ st4 (leaf_F st4 (by decide)) HS8.out).mono ?_; rintro e w9 ⟨rfl, hs⟩
  have HS9 := Lib.hid hs
  clear hs HS8
  go_wp2_with fail
  refine (slotsA_any B av5 w9 HS9.out.is HS9.out.inv.f).mono ?_; rintro e w10 ⟨va, vb, rfl, ha, hb, hbel⟩
  obtain ⟨aa, ca, rfl, -⟩ := ha
  have hm0 : av5.x.m = 0 := rfl
  rw [hm0]
  have HB := Lib.hid hb
  have HS10 := Lib.hid (HS9.out.below hbel)
  clear hb hbel HS9 hm0
  go_wp2_with fail
  refine (allocA_check B ⟨0, ⟨#[]⟩, []⟩ none 0 0 w10 ⟨rfl, by simp, fun h => absurd h (Nat.lt_irrefl _)⟩ (by rw [ckO]; decide)).mono ?_; rintro e w11 ⟨rfl, hbel⟩
  rw [ckO]
  have HB1 := Lib.hid ((show Rs _ _ _ _ _ _ from HB.out).keep hbel (Nat.le_refl _))
  have HS11 := Lib.hid (HS10.out.below hbel)
  clear HS10 HB hbel
  go_wp2_with fail
  refine (equalInts_eq (w11.alloc (.cells #[.int .i64 0] 3)) vb _ 1 (fun i => (slotsTo av5.x 2 av5.x.n).getD i 0) (fun i => [0].getD i 0) (HB1.out.keep ((Below.refl _ _).alloc (Nat.le_refl _) (.cells #[.int .i64 0] 3)) (Nat.le_refl _)).sl (lit_ints w11 [0] 1) (by decide) (by decide)).mono ?_; rintro e w12 ⟨rfl, m, rfl⟩
  have HS12 := Lib.hid ((HS11.out.below ((Below.refl w11.heap.size w11).alloc (Nat.le_refl _) (.cells #[.int .i64 0] 3))).drewN m)
  clear HS11 HB1
  generalize (w11.alloc (.cells #[.int .i64 0] 3)).drewN m = w12 at *
  go_wp2_with fail
  refine (handlesA_any B av5 w12 HS12.out.is HS12.out.inv.f).mono ?_; rintro e w13 hh
  obtain ⟨vc, rfl, rc, bc⟩ := hh.rs
  have HC := Lib.hid rc
  have HS13 := Lib.hid (HS12.out.below bc)
  clear hh rc bc HS12
  go_wp2_with fail
  refine (equalHandles_eq (w13.alloc (.cells #[.int .u64 65537] 31)) vc _ 1 (hsF av5.x) (fun i => [65537].getD i 0) (HC.out.keep ((Below.refl _ _).alloc (Nat.le_refl _) (.cells #[.int .u64 65537] 31)) (Nat.le_refl _)).sl (lit_sl w13 31 [65537] 1 .u64) (by decide) (by decide)).mono ?_; rintro e w14 ⟨rfl, m, rfl⟩
  have HS14 := Lib.hid ((HS13.out.below ((Below.refl w13.heap.size w13).alloc (Nat.le_refl _) (.cells #[.int .u64 65537] 31))).drewN m)
  clear HS13 HC
  generalize (w13.alloc (.cells #[.int .u64 65537] 31)).drewN m = w14 at *
  go_wp2_with fail
  refine (statsA_any B av5 w14 HS14.out.is HS14.out.inv.f).mono ?_; rintro e w15 ⟨rfl, hb⟩
  have HS15 := Lib.hid (HS14.out.below hb)
  clear hb HS14
  rw [st6]
  go_wp2_with fail
  go_ret
  exact ⟨rfl, HS15.out.low⟩
end Go.Proofs.Ytfgkbnnojogjpaa
