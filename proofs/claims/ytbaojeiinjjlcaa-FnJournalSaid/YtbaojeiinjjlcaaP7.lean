/- Texts, put and got. -/
import Derived.Test.YtbaojeiinjjlcaaP6
namespace Go.Proofs.Ytbaojeiinjjlcaa
open Go.RowKit
set_option linter.unusedVariables false
set_option maxRecDepth 100000

def putTextR (xs : List UInt8) (t : ByteArray) : List UInt8 × Bool := if t.size ≤ 4000 then (xs ++ varB t.size ++ t.data.toList, true) else ([], false)
theorem putTextR_len (xs : List UInt8) (t : ByteArray) : (putTextR xs t).1.length ≤ xs.length + 4005 := by
  unfold putTextR
  split
  · have := varB_len5 (n := t.size) (by omega); have := str_len t
    simp only [List.length_append]; omega
  · simp
/-- What GetText answers. -/
def gtAt (xs : List UInt8) (z : Int) : List UInt8 × Int × Bool :=
  if (gvAt xs z).2.2 = true ∧ (gvAt xs z).1 ≤ 4000 ∧ (gvAt xs z).1 ≤ xs.length - (gvAt xs z).2.1 then
    ((xs.drop (gvAt xs z).2.1.toNat).take (gvAt xs z).1.toNat, (gvAt xs z).2.1 + (gvAt xs z).1, true) else ([], 0, false)
def gtV (xs : List UInt8) (z : Int) : Value := .tuple #[.string (bstr (gtAt xs z).1), .int .i64 (gtAt xs z).2.1, .bool (gtAt xs z).2.2]
theorem gvAt_cases (xs : List UInt8) (z : Int) : (gvAt xs z = (0, 0, false)) ∨ ∃ n q : Nat, gvAt xs z = ((n : Int), (q : Int), true) ∧ n ≤ 4294967295 ∧ q ≤ xs.length ∧ z < q ∧ (0 ≤ z ∧ gv (xs.drop z.toNat) = some (n, q - z.toNat)) := by
  by_cases hz : 0 ≤ z ∧ z ≤ xs.length
  · obtain ⟨k, rfl⟩ := Int.eq_ofNat_of_zero_le hz.1
    cases hg : gv (xs.drop k) with
    | none => exact .inl (gvAt_none hg)
    | some r =>
      obtain ⟨n, j⟩ := r
      right
      obtain ⟨h1, h2, h3, h4, _⟩ := gv_some hg
      rw [List.length_drop] at h3
      refine ⟨n, k + j, by rw [gvAt_some hg (by omega)]; simp, h1, by omega, by omega, by omega, ?_⟩
      rw [Int.toNat_natCast, hg]
      simp
  · exact .inl (gvAt_out (by omega))
end Go.Proofs.Ytbaojeiinjjlcaa
