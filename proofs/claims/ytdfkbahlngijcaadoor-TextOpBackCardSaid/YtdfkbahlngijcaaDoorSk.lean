/- Text: text.plain. -/
import Derived.Test.YtdfkbahlngijcaaDoorSj
namespace Go.Proofs.YtdfkbahlngijcaaDoor
open Go.RowKit
set_option linter.unusedVariables false

def c1 : Cf := ⟨1, 1, 1, 0, 1, 1, 1, ⟨#[]⟩⟩
theorem valid_nil : validB ([] : List UInt8) = true := by rw [validB_iff]; exact VL.nil
def pg1 (a : Option Addr) (x : Ov) : Pg := ⟨a, 1, 1, [x]⟩
theorem scE_one (x : Ov) (a : Option Addr) : scE c1 [pg1 a x] [] = if plainO x = true then 0 else 2 := by
  have h0 : cfgE c1 = 0 := by
    unfold cfgE
    rw [if_pos (by decide), if_neg (by decide), if_pos (by exact valid_nil)]
  have h1 : progE [pg1 a x] = if plainO x = true then 0 else 2 := by
    unfold progE
    rw [if_neg (show ¬ 256 < (pg1 a x).n from by show ¬ 256 < 1; decide)]
    by_cases h : plainO x = true
    · rw [if_pos h, if_pos (by simp [h, pg1])]; rfl
    · rw [if_neg h, if_neg (by simp [h, pg1])]
  unfold scE
  rw [if_neg (by rw [h0]; exact fun h => h rfl), if_neg (show ¬ (([pg1 a x].length : Int) ≠ c1.clients) from fun h => h rfl), h1]
  by_cases h : plainO x = true
  · rw [if_pos h, if_neg (fun h => h rfl), if_neg (show ¬ 65535 < ([] : List Int).length by decide), if_pos (show ([] : List Int).all _ = true from rfl), if_neg]
    have := szO_le h
    unfold lenSc szP
    simp [c1, pg1]
    have e : (ByteArray.mk #[]).size = 0 := rfl
    omega
  · rw [if_neg h, if_pos (by decide)]
theorem one_pg (x : Ov) (v : World) (m : Nat) (hm : m = v.heap.size) :
    IsPg ((v.alloc (.cells (oC x) 51)).alloc (.cells #[.slice (some ⟨m, 0, none⟩) 1 1] 60)) (some ⟨m + 1, 0, none⟩) 1 [pg1 (some ⟨m, 0, none⟩) x] := by
  have h1 := block_new v (.cells (oC x) 51)
  have h2 := block_alloc h1 (.cells #[.slice (some ⟨m, 0, none⟩) 1 1] 60)
  have h3 := block_new (v.alloc (.cells (oC x) 51)) (.cells #[.slice (some ⟨m, 0, none⟩) 1 1] 60)
  rw [World.size_alloc] at h3
  subst hm
  refine ⟨⟨rfl, fun _ => ⟨_, _, rfl, block_lt h3, fun j u hj => ?_⟩⟩, fun s hs => ?_⟩
  · rw [Nat.zero_add, block_cell h3]
    rw [flatR_one] at hj
    simpa [fPg, pg1] using hj
  · rcases List.mem_singleton.1 hs with rfl
    refine ⟨rfl, fun _ => ⟨_, _, rfl, block_lt h2, fun j u hj => ?_⟩⟩
    rw [Nat.zero_add, block_cell h2]
    have e : flatR fO (pg1 (some ⟨v.heap.size, 0, none⟩) x).l = fO x := flatR_one fO x
    rw [e] at hj
    simpa [fO, oC] using hj
theorem plainT_any (x : Ov) (w : World) (ht : x.t.size ≤ 140737488355328) :
    Calls Tryd.prog 52 #[.agg #[.int .u8 x.k, .int .i64 x.slot, .int .i64 x.at_, .int .i64 x.n, .int .u32 x.id, .int .u8 x.g, .string x.t]] w fun e w' => e = .returned (.bool (plainO x)) ∧ Below w.heap.size w w' := by
  have HCK := Lib.hid (fun (a b : Option Addr) (u : World) (hp : IsPg u a 1 [pg1 b x]) => check_sc c1 a 1 1 none 0 0 [pg1 b x] [] u hp (IsR.nil _ _ _) (by decide) (by
    intro s hs y hy
    rcases List.mem_singleton.1 hs with rfl
    rcases List.mem_singleton.1 hy with rfl
    exact ht) (by decide) (by decide))
  have HB0 := Lib.hid ((((((Below.refl w.heap.size w).alloc (Nat.le_refl _) (.cells (oC x) 51)).alloc (by simp) (.cells #[.int .i64 1, .int .u64 1, .int .i64 1, .int .i64 0, .int .i64 1, .int .i64 1, .int .i64 1, .string ⟨#[]⟩] 38)).alloc (by simp; omega) (.cells (oC x) 51)).alloc (by simp; omega) (.cells #[.slice (some ⟨w.heap.size + 1 + 1, 0, none⟩) 1 1] 60)))
  have HPG := Lib.hid (one_pg x ((w.alloc (.cells (oC x) 51)).alloc (.cells #[.int .i64 1, .int .u64 1, .int .i64 1, .int .i64 0, .int .i64 1, .int .i64 1, .int .i64 1, .string ⟨#[]⟩] 38)) (w.heap.size + 1 + 1) (by simp))
  have HSO := Lib.hid (fun b => scE_one x b)
  unfold oC at HB0 HPG
  go_enter Tryd.func52, Tryd.ntmps52
  go_wp2_with fail
  refine (HCK.out _ _ _ HPG.out).mono ?_; rintro e w2 ⟨rfl, hb2⟩
  rw [HSO.out]
  have HB2 := Lib.hid (HB0.out.trans (hb2.mono HB0.out.size))
  clear hb2
  by_cases h : plainO x = true
  · rw [if_pos h]
    go_wp2_with fail
    go_ret
    exact ⟨by rw [h] <;> rfl, HB2.out⟩
  · rw [if_neg h]
    have hf := Bool.eq_false_iff.2 h
    go_wp2_with fail
    go_ret
    exact ⟨by rw [hf] <;> rfl, HB2.out⟩
end Go.Proofs.YtdfkbahlngijcaaDoor
