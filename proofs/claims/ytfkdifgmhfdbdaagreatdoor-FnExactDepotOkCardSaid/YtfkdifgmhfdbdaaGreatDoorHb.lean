/- Files, turns and disks that hold their marks. -/
import Derived.Test.YtfkdifgmhfdbdaaGreatDoorHa
namespace Go.Proofs.YtfkdifgmhfdbdaaGreatDoor
open Go.RowKit
set_option linter.unusedVariables false
set_option maxRecDepth 100000

theorem mkF_get : ∀ (k : Nat) (xs : List Fl) (j : Nat) (h : j < xs.length), (mkF k xs)[j]'(by rw [mkF_len]; exact h) = mF (k + 2 * j + ftot (xs.take j)) xs[j]
  | k, x :: r, 0, h => by simp [mkF, ftot]
  | k, x :: r, j + 1, h => by
    have ih := mkF_get (k + 2 + x.2.1.2.2.length) r j (by simpa using h)
    simp only [mkF, List.getElem_cons_succ, ih, List.take_succ_cons]
    have : k + 2 + x.2.1.2.2.length + 2 * j + ftot (r.take j) = k + 2 * (j + 1) + ftot (x :: r.take j) := by simp [ftot]; omega
    rw [this]
end Go.Proofs.YtfkdifgmhfdbdaaGreatDoor
