/- The law of PutVar. -/
import Derived.Test.YtbaojeiinjjlcaaP2
namespace Go.Proofs.Ytbaojeiinjjlcaa
open Go.RowKit
set_option linter.unusedVariables false

/-- A call that returns new bytes and a bool. -/
def PutPost (w : World) (r : List UInt8 × Bool) (e : Ending) (w' : World) : Prop :=
  ∃ A' c' us ok, Hid (us = r.1) ∧ Hid (ok = r.2) ∧ e = .returned (.tuple #[.slice A' us.length c', .bool ok]) ∧ Ob w' w.heap.size A' c' us ∧ Below w.heap.size w w'
def putVarR (xs : List UInt8) (z : Int) : List UInt8 × Bool := if 0 ≤ z ∧ z ≤ 4294967295 then (xs ++ varB z.toNat, true) else ([], false)
theorem putVarR_len (xs : List UInt8) (z : Int) : (putVarR xs z).1.length ≤ xs.length + 5 := by
  unfold putVarR
  split
  · have := varB_len5 (n := z.toNat) (by omega); simp; omega
  · simp

end Go.Proofs.Ytbaojeiinjjlcaa
