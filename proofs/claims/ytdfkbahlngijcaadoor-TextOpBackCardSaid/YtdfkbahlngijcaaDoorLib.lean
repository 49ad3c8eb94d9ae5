/- General lemmas for walks: equality of short arrays of integers; regions whose operations make at most new memory. -/
import Derived.Test.YtdfkbahlngijcaaDoorRows
import Derived.WalkKit
import Derived.WalkSpells
import Derived.WalkLawsBesides
import Derived.Lib.Hide
import Derived.Deep.QuietTactic
import Derived.BigQuiet
import Derived.Handy
namespace Go.Proofs.YtdfkbahlngijcaaDoor
open Go.RowKit

theorem run_equalIn_arr3 {P : Program} (w : World) (d : Nat) {t e : TypeId} {k : IntKind} (a b c x y z : Int)
    (ht : P.underlying t = some (.array 3 e)) (he : P.underlying e = some (.int k)) (hs : (sizeOf e).run P w = .ok 1 w)
    (hp : (isAgg e).run P w = .ok false w) :
    (Op.equalIn (d + 2) t (.agg #[.int k a, .int k b, .int k c]) (.agg #[.int k x, .int k y, .int k z])).run P w = .ok (a == x && b == y && c == z) w := by
  simp only [Op.equalIn, Sem.run_bind, run_underlying ht, Result.andThen_ok, hs, Std.Legacy.Range.forIn_eq_forIn_range']
  simp [Std.Legacy.Range.size, List.range', Sem.run_bind, part, hp, run_underlying he]
  by_cases h1 : a = x <;> by_cases h2 : b = y <;> by_cases h3 : c = z <;> simp [h1, h2, h3]

theorem run_equalIn_arr2 {P : Program} (w : World) (d : Nat) {t e : TypeId} {k : IntKind} (a b x y : Int)
    (ht : P.underlying t = some (.array 2 e)) (he : P.underlying e = some (.int k)) (hs : (sizeOf e).run P w = .ok 1 w)
    (hp : (isAgg e).run P w = .ok false w) :
    (Op.equalIn (d + 2) t (.agg #[.int k a, .int k b]) (.agg #[.int k x, .int k y])).run P w = .ok (a == x && b == y) w := by
  simp only [Op.equalIn, Sem.run_bind, run_underlying ht, Result.andThen_ok, hs, Std.Legacy.Range.forIn_eq_forIn_range']
  simp [Std.Legacy.Range.size, List.range', Sem.run_bind, part, hp, run_underlying he]
  by_cases h1 : a = x <;> by_cases h2 : b = y <;> simp [h1, h2]

theorem ret_int {k : IntKind} {a b : Int} (h : a = b) : Ending.returned (.int k a) = .returned (.int k b) := by rw [h]
theorem ret_bool {a b : Bool} (h : a = b) : Ending.returned (.bool a) = .returned (.bool b) := by rw [h]

theorem wf64 {n : Int} (h : (Lit.int .i64 n).wf = true) : -9223372036854775808 ≤ n ∧ n ≤ 9223372036854775807 := by
  simpa [Lit.wf, IntKind.min, IntKind.max, IntKind.signed, IntKind.bits] using h

/-! ### A region that draws its order, whose operations only read, and whose callees write nothing that was there when they began -/

/-- Behind a call that writes nothing that was there: all old cells and marks read as before. -/
theorem bcell {W w1 : World} (hb : Below W.heap.size W w1) : (∀ b o, b < W.heap.size → w1.cell? ⟨b, o, none⟩ = W.cell? ⟨b, o, none⟩) ∧ (∀ b o, b < W.heap.size → w1.frozen? ⟨b, o, none⟩ = W.frozen? ⟨b, o, none⟩) :=
  ⟨fun b o h => hb.cell (p := ⟨b, o, none⟩) h, fun b o h => hb.frozen (p := ⟨b, o, none⟩) h⟩

/-- Behind 'Below w.heap.size w v' a call that writes nothing that was there leaves 'Below w.heap.size w'. -/
theorem below_step {w v u : World} (h : Below w.heap.size w v) (k : Below v.heap.size v u) : Below w.heap.size w u :=
  h.trans (k.mono h.size)

/-- THE WORLDS OF THE REGION: 'f x', x of some type: all of them keep what was there. -/
theorem wp_region_mild {P : Program} {id : Nat} {Q : Exit → Act → World → Prop} {a : Act} {w : World} {l : List Oper}
    (hm : P.follows .mixedOrders = true) (hB : Region.lexB .any l.toArray = true)
    (h : ∀ (X : Type) [Nonempty X] (f : X → World), (∀ x, Below w.heap.size w (f x)) → (∀ x u, Below (f x).heap.size (f x) u → ∃ y, u = f y) →
      wpQuiet P l.toArray (fun w' => ∃ x, w' = f x) (fun a' => ∀ w', (∃ x, w' = f x) → Q .normal a' w') l a) : (Code.region id l.toArray true).wp P Q a w := by
  refine wp_region_quiet (C := fun w' => ∃ x : {v : World // Below w.heap.size w v}, w' = x.1) hm hB ⟨⟨_, Below.drew (Below.refl _ _)⟩, rfl⟩ ?_
  have := @h {v : World // Below w.heap.size w v} ⟨⟨w, Below.refl _ _⟩⟩ (fun x => x.1) (fun x => x.2) (fun x u hu => ⟨⟨u, below_step x.2 hu⟩, rfl⟩)
  simpa using this

/-- The contract of a callee, met in a world of the region. -/
theorem Calls_mild {P : Program} {X : Type} {f : X → World} (hg : ∀ x u, Below (f x).heap.size (f x) u → ∃ y, u = f y) {F : FuncId} {args : Array Value} {x : X} {v : Value}
    (h : Calls P F args (f x) fun e w' => e = .returned v ∧ Below (f x).heap.size (f x) w') : Calls P F args (f x) fun e w'' => e = .returned v ∧ ∃ y, w'' = f y :=
  h.mono fun _ _ ⟨he, hb⟩ => ⟨he, hg x _ hb⟩
theorem Calls_mild_same {P : Program} {X : Type} {f : X → World} {F : FuncId} {args : Array Value} {x : X} {v : Value}
    (h : Calls P F args (f x) fun e w' => e = .returned v ∧ f x = w') : Calls P F args (f x) fun e w'' => e = .returned v ∧ ∃ y, w'' = f y :=
  h.mono fun _ _ ⟨he, hb⟩ => ⟨he, x, hb.symm⟩

end Go.Proofs.YtdfkbahlngijcaaDoor
