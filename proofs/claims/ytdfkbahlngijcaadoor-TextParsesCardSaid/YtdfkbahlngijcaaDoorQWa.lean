/- Text: a range over a function whose iterator keeps a string of its own in a cell: the law (over whatever is kept of the two blocks of the loop). (printed by slim.py.) -/
import Derived.Test.YtdfkbahlngijcaaDoorQKa
import Derived.RangeFuncNested
import Derived.RangeFuncBound
import Derived.RangeFuncCalls
import Derived.RangeFuncLeaves
namespace Go.Proofs.YtdfkbahlngijcaaDoor
open Go.RowKit
set_option linter.unusedVariables false

/-- the iterator hands over the elements of L, in order, or less where a round says so; between two rounds it may turn its own block bI -/
def SeqOf {α : Type} (P : Program) (g : Nat) (lb : Array Value) (encs : α → Array Value) (Kp : World → World → Prop) (bI : Nat) (L : List α) (w0 : World) : Prop :=
  ∀ (l : Nat) (J Jx : List α → World → Prop) (W : World), Below w0.heap.size w0 W → (∀ s A B, J s A → A.grownBy B (some bI) → J s B) → (∀ s A B, Jx s A → A.grownBy B (some bI) → Jx s B) →
    (∀ pre x rest W1, L = pre ++ x :: rest → J pre W1 → YieldAt Fence.wide 1 P l (encs x) W1 fun e W' =>
      (e = .returned (.bool true) ∧ J (pre ++ [x]) W' ∧ Kp W1 W') ∨ (e = .returned (.bool false) ∧ Jx (pre ++ [x]) W')) →
    J [] W → CallsIn Fence.wide 2 P g (#[.func (.yield l) #[] #[]] ++ lb) W fun e W' => (∃ v, e = .returned v) ∧ (J L W' ∨ ∃ pre, pre <+: L ∧ Jx pre W')
/-- what a caller's invariant must bear: the iterator's block, and the loop's own two blocks, turned -/
def Bears {β : Type} (w : World) (bI : Nat) (I : β → World → Prop) : Prop :=
  ∀ s A B r, I s A → A.grownBy B (some r) → (r = bI ∨ (w.heap.size ≤ r ∧ ∀ o, A.heap[r]? = some o → o.isCells = false)) → I s B
/-- how the body of a round may be left -/
def roundPostS {α : Type} (B : Nat) (Kp : World → World → Prop) (I : List α → World → Prop) (Ix : List α → World → Prop) (xs : List α) (W : World) : Exit → Act → World → Prop
  | .normal, _, W' => KeepsFrom B W W' ∧ Kp W W' ∧ I xs W'
  | .ret, _, W' => KeepsFrom B W W' ∧ Ix xs W'
  | _, _, _ => False

theorem wpIn_rangeSeq {α : Type} {P : Program} {g : Operand} {ps : Array Tmp} {assign body : Code} {Q : Exit → Act → World → Prop} {a : Act} {w : World} {gf : Nat} {lb : Array Value}
    (hg : a.eval g = .func (.func gf) #[] lb) (eg : ∀ args w, (callFunc gf args).run P w = .ok (.enter gf args) w) {encs : α → Array Value} {Kp : World → World → Prop} {bI : Nat} {L : List α}
    (hseq : SeqOf P gf lb encs Kp bI L w) (hKt : ∀ {A B C : World}, Kp A B → Kp B C → Kp A C) (hKb : ∀ (W : World) (l : Nat) (o' : Obj), w.heap.size ≤ l → Kp W (W.putObj l o'))
    (hbI : bI < w.heap.size) (hps : ∀ x, (encs x).size = ps.size) (I Ix : List α → World → Prop) (hI : Bears w bI I) (hIx : Bears w bI Ix) (h0 : I [] w) (a₁ : α → Act)
    (hassign : ∀ (l : Nat) (x : α) (W : World) (K : Act → World → Prop), K (a₁ x) W → assign.wpIn (Fence.wide.inRound l) 1 P (Exit.then K (fun _ _ _ => False)) { tmps := (ps.zip (encs x)).foldl (fun t (p, v) => t.setIfInBounds p v) a.tmps, defers := [] } W)
    (hbody : ∀ (l : Nat) (pre : List α) (x : α) (rest : List α) (W : World), L = pre ++ x :: rest → I pre W → body.wpIn (Fence.wide.inRound l) 1 P (roundPostS w.heap.size Kp I Ix (pre ++ [x]) W) (a₁ x) W)
    (hdone : ∀ (D : Nat) (W : World), w.heap.size ≤ D → I L W → W.heap[D]? = some (.deferred (some [])) → Q .normal { a with defers := { target := .collected D, args := #[] } :: a.defers } W)
    (hstop : ∀ (D : Nat) (pre : List α) (W : World), w.heap.size ≤ D → pre <+: L → Ix pre W → W.heap[D]? = some (.deferred (some [])) → Q .ret { a with defers := { target := .collected D, args := #[] } :: a.defers } W) :
    (Code.rangeFunc g ps assign body).wpIn Fence.wide 3 P Q a w := by
  refine wpIn_rangeFunc fun fn hfn => ?_
  obtain ⟨R, hR⟩ : ∃ R : LoopState → Option Code → Loop, R = fun s p => { state := s, pending := p, fn, tmps := a.tmps, params := ps, assign, body, defers := w.heap.size } := ⟨_, rfl⟩
  -- the two blocks of the loop
  let Bk : LoopState → Option Code → World → Prop := fun s p W => W.heap[w.heap.size + 1]? = some (.loop (R s p)) ∧ W.heap[w.heap.size]? = some (.deferred (some []))
  have bkI : ∀ {s p A B}, Bk s p A → A.grownBy B (some bI) → Bk s p B := fun h hg => by
    refine ⟨?_, ?_⟩
    · rw [hg.block _ (block_lt h.1) (fun e => by injection e with e; omega)]; exact h.1
    · rw [hg.block _ (block_lt h.2) (fun e => by injection e with e; omega)]; exact h.2
  have put1 : ∀ {s p W} s' p', Bk s p W → Bk s' p' (W.putObj (w.heap.size + 1) (.loop (R s' p'))) := fun s' p' h =>
    ⟨World.putObj_heap_same (block_lt h.1), (World.putObj_heap_other (by omega)).trans h.2⟩
  have ipt : ∀ {J : List α → World → Prop} {xs s p W} o', Bears w bI J → J xs W → Bk s p W → J xs (W.putObj (w.heap.size + 1) o') := fun o' hJ h hb =>
    hJ _ _ _ (w.heap.size + 1) h (grownBy_putObj' _ _ _) (.inr ⟨by omega, fun o ho => by rw [hb.1] at ho; cases ho; rfl⟩)
  obtain ⟨W1, hW1⟩ : ∃ W1, (w.alloc (.deferred (some []))).alloc (.loop (R .ready none)) = W1 := ⟨_, rfl⟩
  have hB1 : Bk .ready none W1 := by
    rw [← hW1]
    refine ⟨?_, ?_⟩
    · have := World.alloc_heap_new (w.alloc (.deferred (some []))) (.loop (R .ready none)); rwa [World.size_alloc] at this
    · exact (Below.heap_alloc _ _ _ (by simp)).trans (World.alloc_heap_new w _)
  have hlow : Below w.heap.size w W1 := by rw [← hW1]; exact ((Below.refl _ w).alloc (Nat.le_refl _) _).alloc (by simp) _
  have hI1 : I [] W1 := by
    rw [← hW1]
    have g1 : w.grownBy (w.alloc (.deferred (some []))) (some bI) := World.grownBy_alloc w _ _
    have g2 : (w.alloc (.deferred (some []))).grownBy ((w.alloc (.deferred (some []))).alloc (.loop (R .ready none))) (some bI) := World.grownBy_alloc _ _ _
    exact hI _ _ _ bI (hI _ _ _ bI h0 g1 (.inl rfl)) g2 (.inl rfl)
  refine ⟨w.heap.size + 1, [{ target := .collected w.heap.size, args := #[] }], W1, { target := .fn (.func gf) lb, args := #[.func (.yield (w.heap.size + 1)) #[] #[]] }, W1, gf,
    #[.func (.yield (w.heap.size + 1)) #[] #[]] ++ lb, W1, ?_, ?_, fun _ _ => trivial, ?_, fun _ => by decide, ?_⟩
  · rw [← hW1, hR]; exact run_enterLoop_outer _ _ _ _ _
  · simp only [resolve, hg]
    simp [go_sem]
  · simp [invoke, go_sem, eg]
  refine (hseq (w.heap.size + 1) (fun xs W => I xs W ∧ Bk .ready none W) (fun xs W => Ix xs W ∧ Bk .done (some .ret) W) W1 hlow
    (fun s A B h hg => ⟨hI _ _ _ bI h.1 hg (.inl rfl), bkI h.2 hg⟩) (fun s A B h hg => ⟨hIx _ _ _ bI h.1 hg (.inl rfl), bkI h.2 hg⟩) ?_ ⟨hI1, hB1⟩).mono ?_
  · rintro pre x rest W hL ⟨hi, hb⟩
    have hy := run_yield (P := P) (args := encs x) hb.1 (by rw [hR]; exact hps x)
    rw [hR] at hy
    have hbeg := run_beginRound (P := P) hb.1 (by rw [hR])
    have hb2 : Bk .busy none (W.putObj (w.heap.size + 1) (.loop (R .busy none))) := put1 .busy none hb
    have e2 : ({ R .ready none with state := .busy } : Loop) = R .busy none := by rw [hR]
    rw [e2] at hbeg
    refine ⟨fn, _, assign, body, hy, roundIn_of_wpIn hfn (hassign _ x W _ ⟨_, hbeg, ?_⟩)⟩
    refine wpIn_mono (hbody _ pre x rest _ hL (ipt _ hI hi hb)) ?_
    have stay : ∀ {W3 : World}, KeepsFrom w.heap.size (W.putObj (w.heap.size + 1) (.loop (R .busy none))) W3 → Bk .busy none W3 := fun hk =>
      ⟨hk.same _ _ (by omega) hb2.1 rfl, hk.same _ _ (Nat.le_refl _) hb2.2 rfl⟩
    have eN : ({ R .busy none with state := if (none : Option Code).isNone = true then LoopState.ready else LoopState.done, pending := none } : Loop) = R .ready none := by rw [hR]; rfl
    have eR : ({ R .busy none with state := if (some Code.ret).isNone = true then LoopState.ready else LoopState.done, pending := some Code.ret } : Loop) = R .done (some .ret) := by rw [hR]; rfl
    rintro e a3 W3 hp
    cases e with
    | normal =>
      obtain ⟨hk, hkp, hi3⟩ := hp
      have hb3 := stay hk
      have hend := run_endRound (P := P) none hb3.1
      rw [eN] at hend
      exact ⟨_, _, hend, .inl ⟨rfl, ⟨ipt _ hI hi3 hb3, put1 .ready none hb3⟩, hKt (hKt (hKb W _ _ (by omega)) hkp) (hKb W3 _ _ (by omega))⟩⟩
    | ret =>
      obtain ⟨hk, hi3⟩ := hp
      have hb3 := stay hk
      have hend := run_endRound (P := P) (some .ret) hb3.1
      rw [eR] at hend
      exact ⟨_, _, hend, .inr ⟨rfl, ipt _ hIx hi3 hb3, put1 .done (some .ret) hb3⟩⟩
    | exit id => exact hp.elim
    | goto t => exact hp.elim
    | panic ch => exact hp.elim
    | outgrown => exact hp.elim
  · rintro e W2 ⟨⟨v, rfl⟩, (⟨hi, hb⟩ | ⟨pre, hpre, hi, hb⟩)⟩
    · have hend := run_endLoop (P := P) hb.1 (by rw [hR]; simp)
      rw [show (R .ready none).pending = none by rw [hR]] at hend
      refine ⟨none, _, hend, hdone _ _ (Nat.le_refl _) (ipt _ hI hi hb) ((World.putObj_heap_other (by omega)).trans hb.2)⟩
    · have hend := run_endLoop (P := P) hb.1 (by rw [hR]; simp)
      rw [show (R .done (some .ret)).pending = some .ret by rw [hR]] at hend
      refine ⟨some .ret, _, hend, ?_⟩
      exact wpIn_ret (hstop _ pre _ (Nat.le_refl _) hpre (ipt _ hIx hi hb) ((World.putObj_heap_other (by omega)).trans hb.2))
end Go.Proofs.YtdfkbahlngijcaaDoor

