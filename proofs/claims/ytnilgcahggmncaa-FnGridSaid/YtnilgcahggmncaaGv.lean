/- What the functions on grids compute (plain law): shifting a row, filling a place. -/
import Derived.Test.YtnilgcahggmncaaGu
import Derived.Test.YtnilgcahggmncaaG17
namespace Go.Proofs.Ytnilgcahggmncaa
open Go.RowKit
set_option linter.unusedVariables false
set_option maxRecDepth 100000

abbrev Gr := Int × Int × List Cl
abbrev gr0 : Gr := (0, 0, [])
abbrev bk' : Cl := (32, 0, 0, false, false, false)
/-- The cells of a row from place p on, shifted by n from column j on. -/
def shF (cs : List Cl) (p j a : Nat) (n : Int) (i : Nat) : Cl :=
  if (j : Int) ≤ (i : Int) - p - n ∧ (i : Int) - p - n < a then cs.getD ((i : Int) - n).toNat cl0 else bk'
def shL (cs : List Cl) (p j a : Nat) (n : Int) : List Cl := upd cs (shF cs p j a n) (p + j) (p + a)
def shR (W H : Int) (cs : List Cl) (x y n : Int) : Gr :=
  if gridB W H cs = true ∧ (0 ≤ x ∧ x < W) ∧ (0 ≤ y ∧ y < H) then (W, H, shL cs (y * W).toNat x.toNat W.toNat n) else gr0
theorem sh_no {W H : Int} {cs : List Cl} {x y n : Int} (h : ¬ (gridB W H cs = true ∧ (0 ≤ x ∧ x < W) ∧ (0 ≤ y ∧ y < H))) : shR W H cs x y n = gr0 := if_neg h
theorem sh_len {W H : Int} {cs : List Cl} {x y n : Int} : (shR W H cs x y n).2.2.length ≤ cs.length := by
  unfold shR
  split
  · show (shL cs _ _ _ n).length ≤ _
    rw [shL, upd_len]
    exact Nat.le_refl _
  · simp
theorem sh_out {cs : List Cl} {p j a : Nat} {n : Int} {k : Nat} (h : ¬ ((j : Int) ≤ (k : Int) - n ∧ (k : Int) - n < a)) : shF cs p j a n (p + k) = bk' :=
  if_neg (by omega)
theorem sh_in {cs : List Cl} {p j a : Nat} {n : Int} {k r : Nat} (h1 : j ≤ r) (h2 : r < a) (e : (k : Int) - n = r) (h3 : p + r < cs.length) : shF cs p j a n (p + k) = cs[p + r] := by
  rw [shF, if_pos (by omega)]
  have e2 : (((p + k : Nat) : Int) - n).toNat = p + r := by omega
  rw [e2, List.getD_eq_getElem?_getD, List.getElem?_eq_getElem h3]
  rfl
/-- A number cut down to -a .. a shifts in the same way. -/
theorem sh_clamp {cs : List Cl} {p j a : Nat} {n m : Int} (h : (n = m) ∨ (a ≤ n ∧ a ≤ m) ∨ (n ≤ -a ∧ m ≤ -a)) : shL cs p j a n = shL cs p j a m := by
  rcases h with rfl | h
  · rfl
  · refine upd_congr fun i h1 h2 _ => ?_
    rw [shF, shF, if_neg (by omega), if_neg (by omega)]
end Go.Proofs.Ytnilgcahggmncaa
