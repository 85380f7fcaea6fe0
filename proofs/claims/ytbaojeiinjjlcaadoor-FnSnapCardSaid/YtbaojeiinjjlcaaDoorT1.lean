/- Decimal numerals: both ways. -/
import Derived.Test.YtbaojeiinjjlcaaDoorP2
import Derived.Test.YtbaojeiinjjlcaaDoorD1
import Derived.Deep.RegionWith
namespace Go.Proofs.YtbaojeiinjjlcaaDoor
open Go.RowKit Go.Lib
set_option linter.unusedVariables false
set_option maxRecDepth 100000

def ntL (n : Int) : List UInt8 := if 0 ≤ n ∧ n ≤ 4294967295 then decDigits n.toNat else []
theorem nt_no {n : Int} (h : ¬ (0 ≤ n ∧ n ≤ 4294967295)) : ntL n = [] := if_neg h
theorem nt_yes {n : Nat} (h : (n : Int) ≤ 4294967295) : ntL n = decDigits n := by rw [ntL, if_pos ⟨by omega, h⟩]; rfl
theorem nt_small {n : Nat} (h : n < 10) : ∃ d : UInt8, (d.toNat : Int) = 48 + (n : Int) ∧ ntL n = [d] := ⟨_, by rw [dig_nat h]; simp, by rw [nt_yes (by omega), dec_small h]⟩
theorem nt_big {n : Nat} (h : ¬ n < 10) (h2 : (n : Int) ≤ 4294967295) : ∃ d : UInt8, (d.toNat : Int) = 48 + ((n % 10 : Nat) : Int) ∧ ntL n = ntL ((n / 10 : Nat) : Int) ++ [d] := ⟨UInt8.ofNat (48 + n % 10), by rw [dig_nat (Nat.mod_lt _ (by omega))]; simp, by rw [nt_yes h2, nt_yes (by omega), dec_big h]⟩

theorem nt_len {n : Int} : (ntL n).length ≤ 10 := by
  unfold ntL
  split
  · exact dec_len_le 9 n.toNat (by omega)
  · simp
theorem bstr_app (x y : List UInt8) : bstr x ++ bstr y = bstr (x ++ y) := ByteArray.mk_append_mk x y
theorem room_add (n : Int) {x : List UInt8} (h : x.length ≤ 1000) : ¬ 9223372036854775807 < (bstr (ntL n)).size + (bstr x).size ∧ ¬ 9223372036854775807 < (bstr x).size + (bstr (ntL n)).size := by
  have := nt_len (n := n)
  rw [bstr_size, bstr_size]
  omega
/-- One byte in a block of its own. -/
theorem by_one {w : World} {b : Nat} {d : UInt8} (h : w.cell? ⟨b, 0, none⟩ = some (.int .u8 (d.toNat : Int))) : By w (some ⟨b, 0, none⟩) [d] := by
  refine .inr ⟨b, 0, rfl, fun i x hx => ?_⟩
  rcases i with _ | i
  · simp at hx; subst hx; simpa using h
  · simp at hx

end Go.Proofs.YtbaojeiinjjlcaaDoor
