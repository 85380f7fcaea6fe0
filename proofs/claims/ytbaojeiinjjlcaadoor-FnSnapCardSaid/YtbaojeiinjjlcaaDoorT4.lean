/- What a decimal numeral spells: the reference's way. -/
import Derived.Test.YtbaojeiinjjlcaaDoorT3
namespace Go.Proofs.YtbaojeiinjjlcaaDoor
open Go.RowKit Go.Lib
set_option linter.unusedVariables false
set_option maxRecDepth 100000

theorem bstr_tl (l : List UInt8) : (bstr l).toList = l := by
  simp [bstr]
theorem bstr_of (s : ByteArray) : s = bstr s.data.toList := by simp [bstr]
/-- What TextNum answers. -/
def tnV (l : List UInt8) : Value := .tuple #[.int .i64 (if tnB l = true then (valF l : Int) else 0), .bool (tnB l)]
theorem tnV_no {l : List UInt8} (h : tnB l = false) : tnV l = .tuple #[.int .i64 0, .bool false] := by rw [tnV, h]; rfl
theorem tnV_yes {l : List UInt8} (h : tnB l = true) : tnV l = .tuple #[.int .i64 (valF l), .bool true] := by rw [tnV, h]; rfl
theorem fold_lt : ∀ (l : List UInt8) (a : Nat), (∀ c ∈ l, 48 ≤ c.toNat ∧ c.toNat ≤ 57) → l.foldl (fun a c => a * 10 + (c.toNat - 48)) a < (a + 1) * 10 ^ l.length
  | [], a, _ => by simp
  | c :: r, a, h => by
    have h2 := h c (by simp)
    have h1 := fold_lt r (a * 10 + (c.toNat - 48)) (fun x hx => h x (by simp [hx]))
    have h3 : (a * 10 + (c.toNat - 48) + 1) * 10 ^ r.length ≤ ((a + 1) * 10) * 10 ^ r.length := Nat.mul_le_mul_right _ (by omega)
    rw [List.length_cons, Nat.pow_succ, Nat.mul_comm (10 ^ r.length) 10, ← Nat.mul_assoc]
    exact Nat.lt_of_lt_of_le h1 h3
theorem valF_lt (l : List UInt8) (h : ∀ c ∈ l, 48 ≤ c.toNat ∧ c.toNat ≤ 57) : valF l < 10 ^ l.length := by
  have := fold_lt l 0 h
  rw [Nat.zero_add, Nat.one_mul] at this
  exact this
theorem valF_ten {l : List UInt8} (h : ∀ c ∈ l, 48 ≤ c.toNat ∧ c.toNat ≤ 57) (hl : l.length ≤ 10) : valF l < 10000000000 := by
  have h1 := valF_lt l h
  have h2 : 10 ^ l.length ≤ 10 ^ 10 := Nat.pow_le_pow_right (by omega) hl
  omega
/-- What the numeral of the value tells. -/
theorem tn_spell {l : List UInt8} (hl : l ≠ []) : ((bstr (ntL (valF l))).toList == (bstr l).toList) = tnB l := by
  rw [bstr_tl, bstr_tl, Bool.eq_iff_iff, beq_iff_eq, tnB, decide_eq_true_eq]
  by_cases h : valF l ≤ 4294967295
  · rw [nt_yes (by omega)]
    simp [h]
  · rw [nt_no (by omega)]
    constructor
    · intro e; exact absurd e.symm hl
    · intro e; exact absurd e.1 h
end Go.Proofs.YtbaojeiinjjlcaaDoor
