/- Numbers: their bytes, put and got. -/
import Derived.Test.YtndmdhmghjfckaaP1
namespace Go.Proofs.Ytndmdhmghjfckaa
open Go.RowKit
set_option linter.unusedVariables false

theorem within_any (n lo hi : Int) (w : World) :
    Calls Try.prog 16 #[.int .i64 n, .int .i64 lo, .int .i64 hi] w fun e w' => e = .returned (.bool (decide (lo ≤ n ∧ n ≤ hi))) ∧ w = w' := by
  go_enter Try.func16, Try.ntmps16
  go_wp2
  all_goals (go_ret; exact ⟨ret_bool (by (try rw [Bool.eq_iff_iff]); simp; omega), rfl⟩)
theorem within_yes {n lo hi : Int} (h1 : lo ≤ n) (h2 : n ≤ hi) (w : World) :
    Calls Try.prog 16 #[.int .i64 n, .int .i64 lo, .int .i64 hi] w fun e w' => e = .returned (.bool true) ∧ w = w' :=
  (within_any n lo hi w).mono fun e w' ⟨he, hw⟩ => ⟨he.trans (by simp; exact ⟨h1, h2⟩), hw⟩
theorem within_no {n lo hi : Int} (h : n < lo ∨ hi < n) (w : World) :
    Calls Try.prog 16 #[.int .i64 n, .int .i64 lo, .int .i64 hi] w fun e w' => e = .returned (.bool false) ∧ w = w' :=
  (within_any n lo hi w).mono fun e w' ⟨he, hw⟩ => ⟨he.trans (by simp; omega), hw⟩
/-- The bytes of a number. -/
def varB (n : Nat) : List UInt8 := if n < 128 then [UInt8.ofNat n] else UInt8.ofNat (n % 128 + 128) :: varB (n / 128)
termination_by n
decreasing_by omega
theorem varB_small {n : Nat} (h : n < 128) : varB n = [UInt8.ofNat n] := by rw [varB, if_pos h]
theorem varB_big {n : Nat} (h : ¬ n < 128) : varB n = UInt8.ofNat (n % 128 + 128) :: varB (n / 128) := by rw [varB, if_neg h]
theorem varB_len (k : Nat) : ∀ n, n < 128 ^ (k + 1) → (varB n).length ≤ k + 1 := by
  induction k with
  | zero => intro n h; rw [varB_small (by simpa using h)]; simp
  | succ k ih =>
    intro n h
    by_cases hs : n < 128
    · rw [varB_small hs]; simp
    · rw [varB_big hs]
      have := ih (n / 128) (by rw [Nat.div_lt_iff_lt_mul (by omega)]; rw [Nat.pow_succ] at h; exact h)
      simp; omega
theorem varB_len5 {n : Nat} (h : n ≤ 4294967295) : (varB n).length ≤ 5 := varB_len 4 n (by omega)

theorem b_ofNat {n : Nat} (h : n < 256) : B (UInt8.ofNat n) = .int .u8 (n : Int) := by
  show Value.int .u8 _ = _
  rw [UInt8.toNat_ofNat', Nat.mod_eq_of_lt h]

theorem u8_big {k : Nat} : ((k : Int) % 128 + 128) = ((UInt8.ofNat (k % 128 + 128)).toNat : Int) := by
  rw [UInt8.toNat_ofNat', Nat.mod_eq_of_lt (by omega)]; omega
theorem u8_small {k : Nat} (h : k < 128) : (k : Int) = ((UInt8.ofNat k).toNat : Int) := by
  rw [UInt8.toNat_ofNat', Nat.mod_eq_of_lt (by omega)]
theorem hlen_of {T : Type} {us vs : List T} (h : Hid (us = vs)) : us.length = vs.length := by rw [h.out]
theorem Ob.empty {w : World} : Ob (w.alloc (.cells #[] 5)) w.heap.size (some ⟨w.heap.size, 0, none⟩) 0 [] :=
  ⟨rfl, .inr ⟨w.heap.size, 0, #[], (0, 0), rfl, Nat.le_refl _, heap_alloc_new _ _, .inl rfl, Nat.le_refl _, Nat.zero_le _, rfl, rfl⟩⟩
set_option maxHeartbeats 1000000 in
theorem clone_any (A : Option Addr) (c : Nat) (xs : List UInt8) (w : World) (ha : By w A xs) (h1 : xs.length ≤ 549755813888)  :
    Calls Try.prog 26 #[.slice A xs.length c] w fun e w' => ∃ A' c', e = .returned (.slice A' xs.length c') ∧ Ob w' w.heap.size A' c' xs ∧ Below w.heap.size w w' := by
  have hn := fun (w : World) (n : Nat) => Lib.run_eql_slice_nil (P := Try.prog) w 22 5 A n c 0 0 Try.underlying22
  cases A with
  | none =>
    have h0 : xs = [] := by
      rcases ha with h | ⟨b, o, h, _⟩
      · exact h
      · cases h
    subst h0
    go_enter Try.func26, Try.ntmps26
    go_wp2
    go_ret
    exact ⟨none, 0, rfl, ownsG_nil _ _ _ _, Below.refl _ _⟩
  | some ad =>
    go_enter Try.func26, Try.ntmps26
    go_wp2_with (at_builtin; refine wp_appN rfl _ _ rfl w.heap.size _ _ [] _ _ _ xs Ob.empty (ha.below ((Below.refl _ _).alloc (Nat.le_refl _) _)) rfl rfl (by simp) (by omega) (by simp) ?_; intro A1 c1 w1 us1 hus1 ha1 hb1)
    have he : us1 = xs := by rw [hus1.out]; rfl
    rw [he] at ha1
    go_ret
    refine ⟨A1, c1, ?_, ha1, ((Below.refl _ _).alloc (Nat.le_refl _) _).trans hb1⟩
    show Ending.returned (Value.slice A1 us1.length c1) = _
    rw [he]
end Go.Proofs.Ytndmdhmghjfckaa
