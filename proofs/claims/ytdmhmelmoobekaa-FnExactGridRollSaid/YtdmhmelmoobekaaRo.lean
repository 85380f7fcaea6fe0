/- What scrolling rows of a grid computes (plain law). -/
import Derived.Test.YtdmhmelmoobekaaGw
namespace Go.Proofs.Ytdmhmelmoobekaa
open Go.RowKit
set_option linter.unusedVariables false
set_option maxRecDepth 100000

/-- The cell at place i behind a scroll of the rows top to bot by n. -/
def roF (cs : List Cl) (a top bot : Nat) (n : Int) (i : Nat) : Cl :=
  if (top : Int) ≤ ((i / a : Nat) : Int) + n ∧ ((i / a : Nat) : Int) + n ≤ bot then cs.getD ((((i / a : Nat) : Int) + n).toNat * a + i % a) cl0 else bk
def roL (cs : List Cl) (a top bot : Nat) (n : Int) : List Cl := upd cs (roF cs a top bot n) (top * a) ((bot + 1) * a)
def roR (W H : Int) (cs : List Cl) (top bot n : Int) : Gr :=
  if gridB W H cs = true ∧ 0 ≤ top ∧ top ≤ bot ∧ bot < H then (W, H, roL cs W.toNat top.toNat bot.toNat n) else gr0
theorem ro_no {W H : Int} {cs : List Cl} {top bot n : Int} (h : ¬ (gridB W H cs = true ∧ 0 ≤ top ∧ top ≤ bot ∧ bot < H)) : roR W H cs top bot n = gr0 := if_neg h
theorem ro_len {W H : Int} {cs : List Cl} {top bot n : Int} : (roR W H cs top bot n).2.2.length ≤ cs.length := by
  unfold roR
  split
  · show (roL cs _ _ _ n).length ≤ _
    rw [roL, upd_len]
    exact Nat.le_refl _
  · simp
theorem row_div {a y x : Nat} (hx : x < a) : (y * a + x) / a = y ∧ (y * a + x) % a = x := by
  constructor
  · rw [Nat.mul_comm, Nat.mul_add_div (by omega), Nat.div_eq_of_lt hx, Nat.add_zero]
  · rw [Nat.mul_comm, Nat.mul_add_mod, Nat.mod_eq_of_lt hx]
theorem ro_out {cs : List Cl} {a top bot y x : Nat} {n : Int} (hx : x < a) (h : ¬ ((top : Int) ≤ (y : Int) + n ∧ (y : Int) + n ≤ bot)) : roF cs a top bot n (y * a + x) = bk := by
  rw [roF, (row_div hx).1]
  exact if_neg h
theorem ro_in {cs : List Cl} {a top bot y x r : Nat} {n : Int} (hx : x < a) (e : (y : Int) + n = r) (h1 : top ≤ r) (h2 : r ≤ bot) (h3 : r * a + x < cs.length) : roF cs a top bot n (y * a + x) = cs[r * a + x] := by
  rw [roF, (row_div hx).1, (row_div hx).2, e, if_pos ⟨by omega, by omega⟩]
  rw [show ((r : Int)).toNat = r by omega, List.getD_eq_getElem?_getD, List.getElem?_eq_getElem h3]
  rfl
/-- A number cut down to -b .. b scrolls in the same way. -/
theorem ro_clamp {cs : List Cl} {a top bot b : Nat} {n m : Int} (ha : 0 < a) (hb : bot < b) (h : (n = m) ∨ (b ≤ n ∧ b ≤ m) ∨ (n ≤ -b ∧ m ≤ -b)) : roL cs a top bot n = roL cs a top bot m := by
  rcases h with rfl | h
  · rfl
  · refine upd_congr fun i h1 h2 _ => ?_
    have h4 : i / a ≤ bot := Nat.lt_succ_iff.1 ((Nat.div_lt_iff_lt_mul ha).2 h2)
    have h5 : top ≤ i / a := (Nat.le_div_iff_mul_le ha).2 h1
    rw [roF, roF, if_neg (by omega), if_neg (by omega)]
end Go.Proofs.Ytdmhmelmoobekaa
