/- Numbers: their bytes, put and got. -/
import Derived.Test.YtdfcnghgolncaaaDoorP1
namespace Go.Proofs.YtdfcnghgolncaaaDoor
open Go.RowKit
set_option linter.unusedVariables false

/-- The bytes of a number. -/
def varB (n : Nat) : List UInt8 := if n < 128 then [UInt8.ofNat n] else UInt8.ofNat (n % 128 + 128) :: varB (n / 128)
termination_by n
decreasing_by omega
theorem varB_small {n : Nat} (h : n < 128) : varB n = [UInt8.ofNat n] := by rw [varB, if_pos h]
theorem varB_big {n : Nat} (h : ¬ n < 128) : varB n = UInt8.ofNat (n % 128 + 128) :: varB (n / 128) := by rw [varB, if_neg h]
theorem varB_len (k : Nat) : ∀ n, n < 128 ^ (k + 1) → (varB n).length ≤ k + 1 := by
  induction k with
  | zero => intro n h; rw [varB_small (by simpa using h)]; simp
  | succ k ih =>
    intro n h
    by_cases hs : n < 128
    · rw [varB_small hs]; simp
    · rw [varB_big hs]
      have := ih (n / 128) (by rw [Nat.div_lt_iff_lt_mul (by omega)]; rw [Nat.pow_succ] at h; exact h)
      simp; omega
theorem varB_len5 {n : Nat} (h : n ≤ 4294967295) : (varB n).length ≤ 5 := varB_len 4 n (by omega)

theorem b_ofNat {n : Nat} (h : n < 256) : B (UInt8.ofNat n) = .int .u8 (n : Int) := by
  show Value.int .u8 _ = _
  rw [UInt8.toNat_ofNat', Nat.mod_eq_of_lt h]

theorem u8_big {k : Nat} : ((k : Int) % 128 + 128) = ((UInt8.ofNat (k % 128 + 128)).toNat : Int) := by
  rw [UInt8.toNat_ofNat', Nat.mod_eq_of_lt (by omega)]; omega
theorem u8_small {k : Nat} (h : k < 128) : (k : Int) = ((UInt8.ofNat k).toNat : Int) := by
  rw [UInt8.toNat_ofNat', Nat.mod_eq_of_lt (by omega)]
theorem hlen_of {T : Type} {us vs : List T} (h : Hid (us = vs)) : us.length = vs.length := by rw [h.out]
theorem Ob.empty {w : World} : Ob (w.alloc (.cells #[] 5)) w.heap.size (some ⟨w.heap.size, 0, none⟩) 0 [] :=
  ⟨rfl, .inr ⟨w.heap.size, 0, #[], (0, 0), rfl, Nat.le_refl _, heap_alloc_new _ _, .inl rfl, Nat.le_refl _, Nat.zero_le _, rfl, rfl⟩⟩
end Go.Proofs.YtdfcnghgolncaaaDoor
