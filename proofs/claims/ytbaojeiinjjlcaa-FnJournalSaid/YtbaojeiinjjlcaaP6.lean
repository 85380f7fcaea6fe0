/- The law of GetVar. -/
import Derived.Test.YtbaojeiinjjlcaaP5
namespace Go.Proofs.Ytbaojeiinjjlcaa
open Go.RowKit
set_option linter.unusedVariables false

theorem gvV_form (xs : List UInt8) (z : Int) : ∃ p q r, Hid (gvV xs z = .tuple #[.int .i64 p, .int .i64 q, .bool r]) := ⟨_, _, _, rfl⟩
theorem getVar_implR (A : Option Addr) (c : Nat) (xs : List UInt8) (z : Int) (w : World) (ha : By w A xs) (hc : xs.length ≤ c) (h1 : xs.length ≤ 549755813888) :
    Calls Try.prog 23 #[.slice A xs.length c, .int .i64 z] w fun e w' => e = .returned (gvV xs z) ∧ w = w' := by
  by_cases hz : z < 0 ∨ (xs.length : Int) < z
  · refine (getVar_impl_out A c xs.length z w hz).mono ?_
    rintro e w' ⟨rfl, rfl⟩
    exact ⟨by rw [gvV, gvAt_out hz], rfl⟩
  · obtain ⟨k, rfl⟩ := Int.eq_ofNat_of_zero_le (show 0 ≤ z by omega)
    exact getVar_impl_in A c xs k w ha hc h1 (by omega)

end Go.Proofs.Ytbaojeiinjjlcaa
