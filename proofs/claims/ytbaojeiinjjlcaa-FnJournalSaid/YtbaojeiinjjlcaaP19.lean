/- A frame read: the reference's way. -/
import Derived.Test.YtbaojeiinjjlcaaP18
namespace Go.Proofs.Ytbaojeiinjjlcaa
open Go.RowKit
set_option linter.unusedVariables false
set_option maxRecDepth 100000

theorem gvAt_tt {xs : List UInt8} {z : Int} (h : (gvAt xs z).2.2 = true) : ∃ n q : Nat, gvAt xs z = ((n : Int), (q : Int), true) ∧ n ≤ 4294967295 ∧ q ≤ xs.length ∧ z < q ∧ (0 ≤ z ∧ gv (xs.drop z.toNat) = some (n, q - z.toNat)) := by
  rcases gvAt_cases xs z with h2 | h2
  · rw [h2] at h; simp at h
  · exact h2
theorem frameR_good {n : Nat} {d : List UInt8} (h1 : 1 ≤ n) (h2 : n ≤ 1000000000) (h3 : d.length ≤ 60000) : frameR n d = (frameB n d, true) := by
  rw [frameR, if_pos ⟨⟨by omega, by omega⟩, h3⟩]
theorem bstr_inj {a b : List UInt8} : bstr a = bstr b ↔ a = b := by
  constructor
  · intro h
    rw [← bstr_toList a, h, bstr_toList]
  · intro h
    rw [h]
end Go.Proofs.Ytbaojeiinjjlcaa
