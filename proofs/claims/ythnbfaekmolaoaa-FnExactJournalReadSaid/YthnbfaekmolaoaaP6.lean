/- The law of GetVar. -/
import Derived.Test.YthnbfaekmolaoaaP5
namespace Go.Proofs.Ythnbfaekmolaoaa
open Go.RowKit
set_option linter.unusedVariables false

theorem gvV_form (xs : List UInt8) (z : Int) : ∃ p q r, Hid (gvV xs z = .tuple #[.int .i64 p, .int .i64 q, .bool r]) := ⟨_, _, _, rfl⟩
theorem getVar_specR (A : Option Addr) (c : Nat) (xs : List UInt8) (z : Int) (w : World) (ha : By w A xs) (hc : xs.length ≤ c) (h1 : xs.length ≤ 549755813888) :
    Calls Try.prog 25 #[.slice A xs.length c, .int .i64 z] w fun e w' => e = .returned (gvV xs z) ∧ Below w.heap.size w w' := by
  by_cases hz : z < 0 ∨ (xs.length : Int) ≤ z
  · refine (getVar_spec_out A c xs.length z w hz).mono ?_
    rintro e w' ⟨rfl, rfl⟩
    refine ⟨?_, Below.refl _ _⟩
    have : gvAt xs z = (0, 0, false) := by
      rcases hz with hz | hz
      · exact gvAt_out (.inl hz)
      · obtain ⟨k, rfl⟩ := Int.eq_ofNat_of_zero_le (show 0 ≤ z by omega)
        exact gvAt_len (by omega)
    rw [gvV, this]
  · obtain ⟨k, rfl⟩ := Int.eq_ofNat_of_zero_le (show 0 ≤ z by omega)
    exact getVar_spec_in A c xs k w ha hc h1 (by omega)
theorem getVar_implR (A : Option Addr) (c : Nat) (xs : List UInt8) (z : Int) (w : World) (ha : By w A xs) (hc : xs.length ≤ c) (h1 : xs.length ≤ 549755813888) :
    Calls Try.prog 26 #[.slice A xs.length c, .int .i64 z] w fun e w' => e = .returned (gvV xs z) ∧ w = w' := by
  by_cases hz : z < 0 ∨ (xs.length : Int) < z
  · refine (getVar_impl_out A c xs.length z w hz).mono ?_
    rintro e w' ⟨rfl, rfl⟩
    exact ⟨by rw [gvV, gvAt_out hz], rfl⟩
  · obtain ⟨k, rfl⟩ := Int.eq_ofNat_of_zero_le (show 0 ≤ z by omega)
    exact getVar_impl_in A c xs k w ha hc h1 (by omega)

set_option maxHeartbeats 2000000 in
theorem walk_FnExactGetVar (A : Option Addr) (n c : Nat) (z : Int) (w : World) (h : Rd Try.prog w 23 [.slice A n c]) (hz : (Lit.int .i64 z).wf = true) :
    Calls Try.prog 6 #[.slice A n c, .int .i64 z] w fun e w' => e = .returned (.bool true) ∧ Below w.heap.size w w' := by
  obtain ⟨xs, rfl, ha, hm⟩ := rd_bytes h
  unfold maxLen at hm
  clear h
  by_cases hbig : 1048576 < xs.length
  · have hbig' : (1048576 : Int) < xs.length := by omega
    go_enter Try.func6, Try.ntmps6
    go_wp2
    go_ret
    exact ⟨rfl, Below.refl _ _⟩
  · have hbig' : ¬ (1048576 : Int) < xs.length := by omega
    obtain ⟨p, q, r, hv⟩ := gvV_form xs z
    go_enter Try.func6, Try.ntmps6
    go_wp2_with fail
    refine (toByteS_any _ _ _ _ ha (by omega)).mono ?_
    rintro e w1 ⟨A1, c1, rfl, ho1, hb1⟩
    go_wp2_with fail
    refine (getVar_specR _ _ _ _ _ ho1.by_ ho1.le_cap (by omega)).mono ?_
    rintro e w2 ⟨rfl, hb2⟩
    rw [hv.out]
    have z1 := hb1.size
    have z2 := hb2.size
    go_wp2_with fail
    have ha2 := (ha.below hb1).below hb2
    refine (toByteS_any _ _ _ _ ha2 (by omega)).mono ?_
    rintro e w3 ⟨A3, c3, rfl, ho3, hb3⟩
    go_wp2_with fail
    refine (getVar_implR _ _ _ _ _ ho3.by_ ho3.le_cap (by omega)).mono ?_
    rintro e w3' ⟨rfl, rfl⟩
    rw [hv.out]
    have z3 := hb3.size
    go_wp2_with fail
    refine (toByteS_any _ _ _ _ (ha2.below hb3) (by omega)).mono ?_
    rintro e w4 ⟨A4, c4, rfl, ho4, hb4⟩
    go_wp2_with fail
    refine (eqByteS_same _ _ _ _ xs _ (ho3.by_.below hb4) ho4.by_ (by omega)).mono ?_
    rintro e w4' ⟨rfl, m1, rfl⟩
    go_wp2_with fail
    go_ret
    exact ⟨rfl, below_drewN (hb1.trans ((hb2.mono z1).trans ((hb3.mono (by omega)).trans (hb4.mono (by omega))))) _⟩
end Go.Proofs.Ythnbfaekmolaoaa
