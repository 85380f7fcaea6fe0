/- A rune read: the program's way. -/
import Derived.Test.YtgodpbiojekicaaG3
import Derived.Test.YtgodpbiojekicaaG3a
import Derived.Test.YtgodpbiojekicaaG3b
import Derived.Test.YtgodpbiojekicaaG3c
namespace Go.Proofs.Ytgodpbiojekicaa
open Go.RowKit
set_option linter.unusedVariables false
set_option maxRecDepth 100000

set_option maxHeartbeats 400000 in
theorem runeRead_impl (A : Option Addr) (c : Nat) (xs : List UInt8) (z : Int) (w : World) (ha : By w A xs) (hc : xs.length ≤ c) (h1 : xs.length ≤ 137438953472) (hz1 : -9223372036854775808 ≤ z) (hz2 : z ≤ 9223372036854775807) :
    Calls Try.prog 21 #[.slice A xs.length c, .int .i64 z] w (RrPost w (rrR xs z)) := by
  by_cases hz : z < 0 ∨ (xs.length : Int) ≤ z
  · have HR : Hid (rrR xs z = (0, 0)) := if_pos hz
    have W1 : Hid (withinB z 0 ((xs.length : Int) - 1) = false) := by show _ = _; simp [withinB]; omega
    clear hz
    go_enter Try.func21, Try.ntmps21
    go_wp2_with (go_at_call 46; refine (within_any _ _ _ _).mono ?_; rintro e w' ⟨he, rfl⟩; rw [W1.out] at he; subst he)
    go_ret2
    exact rr_ret HR.out (Below.refl _ _)
  · obtain ⟨k, rfl⟩ := Int.eq_ofNat_of_zero_le (show 0 ≤ z by omega)
    have hk : k < xs.length := by omega
    have W1 : Hid (withinB k 0 ((xs.length : Int) - 1) = true) := by show _ = _; simp [withinB]; omega
    have hR := rrR_at hk
    obtain ⟨x, hx⟩ := get_ex hk
    have hbt := bt_get hx
    obtain ⟨b, o, rfl, hcell⟩ := ha.pos (by omega)
    have hcx := hcell k _ hx
    have h256 := u8_lt x
    have HX := Lib.hid hx
    clear hx hz
    rw [hbt] at hR
    have hk' : (k : Int) < xs.length := by omega
    by_cases hA : 192 ≤ x.toNat ∧ x.toNat ≤ 223
    · have W2 : Hid (withinB x.toNat 192 223 = true) := by show _ = _; simp [withinB]; omega
      have hs : szOf (x.toNat : Int) = 2 := if_pos ⟨by omega, by omega⟩
      rw [hs] at hR
      exact rr_impl2 _ _ _ _ _ x _ ha hc h1 hz2 hk W1 hbt hcx hcell h256 hA W2 hs hR
    · have W2 : Hid (withinB x.toNat 192 223 = false) := by show _ = _; simp [withinB]; omega
      by_cases hB : 224 ≤ x.toNat ∧ x.toNat ≤ 239
      · have W3 : Hid (withinB x.toNat 224 239 = true) := by show _ = _; simp [withinB]; omega
        have hs : szOf (x.toNat : Int) = 3 := by rw [szOf, if_neg (by omega), if_pos ⟨by omega, by omega⟩]
        rw [hs] at hR
        exact rr_impl3 _ _ _ _ _ x _ ha hc h1 hz2 hk W1 hbt hcx hcell h256 hB W2 W3 hs hR
      · have W3 : Hid (withinB x.toNat 224 239 = false) := by show _ = _; simp [withinB]; omega
        have hs : szOf (x.toNat : Int) = 1 := by rw [szOf, if_neg (by omega), if_neg (by omega)]
        rw [hs] at hR
        exact rr_impl1 _ _ _ _ _ x _ ha hc h1 hz2 hk W1 hbt hcx hcell h256 hA hB W2 W3 hs hR
end Go.Proofs.Ytgodpbiojekicaa
