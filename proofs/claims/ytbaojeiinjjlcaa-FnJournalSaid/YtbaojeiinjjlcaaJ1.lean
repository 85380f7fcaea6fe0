/- The checksum tells a changed byte (plain law). -/
import Derived.Test.YtbaojeiinjjlcaaP10
namespace Go.Proofs.Ytbaojeiinjjlcaa
set_option linter.unusedVariables false

theorem xor_right_inj {a b c : Nat} (h : a ^^^ c = b ^^^ c) : a = b := by
  have h2 : (a ^^^ c) ^^^ c = (b ^^^ c) ^^^ c := by rw [h]
  simpa [Nat.xor_assoc] using h2
theorem crcBit_inj {r s : Nat} (hr : r < 4294967296) (hs : s < 4294967296) (h : crcBit r = crcBit s) : r = s := by
  unfold crcBit at h
  have b1 : ∀ t, t < 4294967296 → (t / 2).testBit 31 = false := fun t ht => Nat.testBit_lt_two_pow (by omega)
  have bP : (2197175160 : Nat).testBit 31 = true := by decide
  split at h <;> split at h
  · have := xor_right_inj h
    omega
  · have h2 := congrArg (fun v => Nat.testBit v 31) h
    simp only [Nat.testBit_xor, b1 r hr, b1 s hs, bP] at h2
    simp at h2
  · have h2 := congrArg (fun v => Nat.testBit v 31) h
    simp only [Nat.testBit_xor, b1 r hr, b1 s hs, bP] at h2
    simp at h2
  · omega
theorem crcBits_inj {r s : Nat} (hr : r < 4294967296) (hs : s < 4294967296) : ∀ k, crcBits k r = crcBits k s → r = s := by
  intro k
  induction k with
  | zero => exact id
  | succ k ih => exact fun h => ih (crcBit_inj (crcBits_lt hr k) (crcBits_lt hs k) h)
theorem xor_lt {r : Nat} (hr : r < 4294967296) (x : UInt8) : r ^^^ x.toNat < 4294967296 := Nat.xor_lt_two_pow (n := 32) (by omega) (by have := x.toNat_lt; omega)
theorem crcByte_inj {r s : Nat} {x : UInt8} (hr : r < 4294967296) (hs : s < 4294967296) (h : crcByte r x = crcByte s x) : r = s :=
  xor_right_inj (crcBits_inj (xor_lt hr x) (xor_lt hs x) 8 h)
theorem crcByte_inj2 {r : Nat} {x y : UInt8} (hr : r < 4294967296) (h : crcByte r x = crcByte r y) : x = y := by
  have h2 := crcBits_inj (xor_lt hr x) (xor_lt hr y) 8 h
  rw [Nat.xor_comm r, Nat.xor_comm r] at h2
  exact UInt8.toNat_inj.1 (xor_right_inj h2)
theorem fold_ltC (l : List UInt8) : ∀ r, r < 4294967296 → l.foldl crcByte r < 4294967296 := by
  induction l with
  | nil => exact fun r h => h
  | cons x l ih => exact fun r h => ih _ (crcByte_lt h x)
theorem fold_inj (l : List UInt8) : ∀ r s, r < 4294967296 → s < 4294967296 → l.foldl crcByte r = l.foldl crcByte s → r = s := by
  induction l with
  | nil => exact fun r s _ _ h => h
  | cons x l ih => exact fun r s hr hs h => crcByte_inj hr hs (ih _ _ (crcByte_lt hr x) (crcByte_lt hs x) h)
theorem crcN_inj {a b : List UInt8} {x y : UInt8} (h : crcN (a ++ x :: b) = crcN (a ++ y :: b)) : x = y := by
  have h2 := xor_right_inj h
  unfold crcAll at h2
  rw [List.foldl_append, List.foldl_append, List.foldl_cons, List.foldl_cons] at h2
  have hl := fold_ltC a 4294967295 (by omega)
  exact crcByte_inj2 hl (fold_inj b _ _ (crcByte_lt hl x) (crcByte_lt hl y) h2)
end Go.Proofs.Ytbaojeiinjjlcaa
