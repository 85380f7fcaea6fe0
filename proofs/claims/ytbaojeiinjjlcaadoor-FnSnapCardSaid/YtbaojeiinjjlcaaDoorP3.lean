/- The law of PutVar. -/
import Derived.Test.YtbaojeiinjjlcaaDoorP2
namespace Go.Proofs.YtbaojeiinjjlcaaDoor
open Go.RowKit
set_option linter.unusedVariables false

/-- A call that returns new bytes and a bool. -/
def PutPost (w : World) (r : List UInt8 × Bool) (e : Ending) (w' : World) : Prop :=
  ∃ A' c' us ok, Hid (us = r.1) ∧ Hid (ok = r.2) ∧ e = .returned (.tuple #[.slice A' us.length c', .bool ok]) ∧ Ob w' w.heap.size A' c' us ∧ Below w.heap.size w w'
def putVarR (xs : List UInt8) (z : Int) : List UInt8 × Bool := if 0 ≤ z ∧ z ≤ 4294967295 then (xs ++ varB z.toNat, true) else ([], false)
theorem putVar_implR (A : Option Addr) (c : Nat) (xs : List UInt8) (z : Int) (w : World) (ha : By w A xs) (h1 : xs.length ≤ 549755813888) :
    Calls Tryd.prog 7 #[.slice A xs.length c, .int .i64 z] w (PutPost w (putVarR xs z)) := by
  by_cases hz : 0 ≤ z ∧ z ≤ 4294967295
  · obtain ⟨n, rfl⟩ := Int.eq_ofNat_of_zero_le hz.1
    refine (putVar_impl A c xs n w ha h1 (by omega)).mono ?_
    rintro e w' ⟨A', c', us, hus, he, ho, hb⟩
    exact ⟨A', c', us, true, Lib.hid (by rw [hus.out, putVarR, if_pos hz]; rfl), Lib.hid (by rw [putVarR, if_pos hz]), he, ho, hb⟩
  · refine (putVar_impl_no A xs.length c z w (by omega)).mono ?_
    rintro e w' ⟨he, rfl⟩
    exact ⟨none, 0, [], false, Lib.hid (by rw [putVarR, if_neg hz]), Lib.hid (by rw [putVarR, if_neg hz]), he, ownsG_nil _ _ _ _, Below.refl _ _⟩
theorem putVarR_len (xs : List UInt8) (z : Int) : (putVarR xs z).1.length ≤ xs.length + 5 := by
  unfold putVarR
  split
  · have := varB_len5 (n := z.toNat) (by omega); simp; omega
  · simp

end Go.Proofs.YtbaojeiinjjlcaaDoor
