/- A region that draws its order, whose operations only read, and whose callees may lay blocks of their own: walked once. -/
import Derived.Test.YtndmdhmghjfckaaBase
import Derived.Deep.QuietTactic
import Derived.WalkKit
namespace Go.Proofs.Ytndmdhmghjfckaa
open Go.RowKit
set_option linter.unusedVariables false

/-- A world in which all that lay in w ahead of block B lies as it did. -/
structure Bl (B : Nat) (w : World) where
  val : World
  ok : Below B w val
instance (w : World) : Nonempty (Bl w.heap.size w) := ⟨⟨w, Below.refl _ _⟩⟩
theorem wp_region_qb {P : Program} {id : Nat} {Q : Exit → Act → World → Prop} {a : Act} {w : World} {l : List Oper} (hm : P.follows .mixedOrders = true) (hB : Region.lexB .any l.toArray = true)
    (h : wpQuiet P l.toArray (fun w' => ∃ p : Bl w.heap.size w, w' = p.val) (fun a' => ∀ w', (∃ p : Bl w.heap.size w, w' = p.val) → Q .normal a' w') l a) : (Code.region id l.toArray true).wp P Q a w :=
  wp_region_quiet (C := fun w' => ∃ p : Bl w.heap.size w, w' = p.val) hm hB ⟨⟨w.drew, (Below.refl _ _).drew⟩, rfl⟩ (by simpa using h)
theorem Bl.cell {w : World} (p : Bl w.heap.size w) {a : Addr} {v : Value} (h : w.cell? a = some v) : p.val.cell? a = some v :=
  (p.ok.cell (World.block_lt_of_cell? w _ h)).trans h
theorem Calls.qb {P : Program} {f : FuncId} {args : Array Value} {w : World} {p : Bl w.heap.size w} {v : Value}
    (h : Calls P f args p.val fun e w' => e = .returned v ∧ Below p.val.heap.size p.val w') : Calls P f args p.val fun e w'' => e = .returned v ∧ ∃ q : Bl w.heap.size w, w'' = q.val :=
  h.mono fun _ w' ⟨he, hb⟩ => ⟨he, ⟨w', p.ok.trans (hb.mono p.ok.size)⟩, rfl⟩
theorem Calls.qb_same {P : Program} {f : FuncId} {args : Array Value} {w : World} {p : Bl w.heap.size w} {v : Value}
    (h : Calls P f args p.val fun e w' => e = .returned v ∧ p.val = w') : Calls P f args p.val fun e w'' => e = .returned v ∧ ∃ q : Bl w.heap.size w, w'' = q.val :=
  h.mono fun _ _ ⟨he, hb⟩ => ⟨he, p, hb.symm⟩
theorem qb_end {P : Program} {ops : Array Oper} {C : World → Prop} {Q : Exit → Act → World → Prop} {a : Act} {w : World} (h : ∀ w', Below w.heap.size w w' → Q .normal a w') :
    wpQuiet P ops C (fun a' => ∀ w', (∃ p : Bl w.heap.size w, w' = p.val) → Q .normal a' w') [] a :=
  wpQuiet_nil fun _ ⟨p, hp⟩ => hp ▸ h _ p.ok
end Go.Proofs.Ytndmdhmghjfckaa
