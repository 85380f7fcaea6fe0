/- The law of FrameRead. -/
import Derived.Test.YtbaojeiinjjlcaaP19
namespace Go.Proofs.Ytbaojeiinjjlcaa
open Go.RowKit
set_option linter.unusedVariables false
set_option maxRecDepth 100000

theorem frR_len (xs : List UInt8) (z : Int) : (frR xs z).2.1.length ≤ 60000 := by
  unfold frR frB3 frT
  (repeat' split) <;> simp <;> omega
theorem fr_len {xs : List UInt8} {z : Int} {n p k : Int} {us : List UInt8} (h : frR xs z = (n, us, p, k)) : us.length ≤ 60000 := by
  have := frR_len xs z
  rw [h] at this
  exact this
theorem fr_eq {r : FrOut} {n p k n' p' k' : Int} {us us' : List UInt8} (h : r = (n, us, p, k)) (h' : r = (n', us', p', k')) : n = n' ∧ us = us' ∧ p = p' ∧ k = k' := by
  rw [h] at h'
  simpa using h'
end Go.Proofs.Ytbaojeiinjjlcaa
