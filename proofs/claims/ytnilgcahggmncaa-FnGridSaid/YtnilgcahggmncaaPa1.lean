/- What laying a grid over another computes (plain law). -/
import Derived.Test.YtnilgcahggmncaaF1
namespace Go.Proofs.Ytnilgcahggmncaa
open Go.RowKit
set_option linter.unusedVariables false
set_option maxRecDepth 100000

def paIn (W H x y : Int) (a j : Nat) : Bool := decide ((0 ≤ x + ((j % a : Nat) : Int) ∧ x + ((j % a : Nat) : Int) < W) ∧ 0 ≤ y + ((j / a : Nat) : Int) ∧ y + ((j / a : Nat) : Int) < H)
def paIx (W x y : Int) (a j : Nat) : Nat := ((y + ((j / a : Nat) : Int)) * W + (x + ((j % a : Nat) : Int))).toNat
def paL (cs ds : List Cl) (W H x y : Int) (a : Nat) : Nat → List Cl
  | 0 => cs
  | j + 1 => if paIn W H x y a j = true then (paL cs ds W H x y a j).set (paIx W x y a j) (ds.getD j cl0) else paL cs ds W H x y a j
def paR (W H : Int) (cs : List Cl) (W' H' : Int) (ds : List Cl) (x y : Int) : Gr :=
  if gridB W H cs = true ∧ gridB W' H' ds = true ∧ smB x = true ∧ smB y = true then (W, H, paL cs ds W H x y W'.toNat ds.length) else gr0
section
variable {cs ds : List Cl} {W H W' H' x y : Int} {a j : Nat}
theorem paL_len : (paL cs ds W H x y a j).length = cs.length := by
  induction j with
  | zero => rfl
  | succ j ih =>
    unfold paL
    split
    · rw [List.length_set, ih]
    · exact ih
theorem pa_none (h : ¬ (gridB W H cs = true ∧ gridB W' H' ds = true ∧ smB x = true ∧ smB y = true)) : paR W H cs W' H' ds x y = gr0 := if_neg h
theorem pa_len : (paR W H cs W' H' ds x y).2.2.length ≤ cs.length := by
  unfold paR
  split
  · show (paL cs ds W H x y _ _).length ≤ _
    rw [paL_len]
    exact Nat.le_refl _
  · simp
theorem pa_skip (h : ¬ ((0 ≤ x + ((j % a : Nat) : Int) ∧ x + ((j % a : Nat) : Int) < W) ∧ 0 ≤ y + ((j / a : Nat) : Int) ∧ y + ((j / a : Nat) : Int) < H)) : paL cs ds W H x y a j = paL cs ds W H x y a (j + 1) := by
  show _ = ite _ _ _
  rw [if_neg (by rw [paIn, decide_eq_false h]; simp)]
/-- A place within: what it becomes. -/
theorem pa_set {A i p cx cy : Nat} (hj : j < ds.length) (hx : x + ((j % a : Nat) : Int) = (cx : Int)) (hy : y + ((j / a : Nat) : Int) = (cy : Int)) (h1 : (cx : Int) < A) (h2 : (cy : Int) < H) (hp : p = cy * A) (hi : i = p + cx) :
    (paL cs ds A H x y a j).set i ds[j] = paL cs ds A H x y a (j + 1) := by
  have e1 : paIn A H x y a j = true := by rw [paIn, hx, hy]; exact decide_eq_true ⟨⟨by omega, h1⟩, by omega, h2⟩
  have e2 : paIx A x y a j = i := by
    rw [paIx, hx, hy]
    have e : (cy : Int) * (A : Int) + (cx : Int) = (i : Int) := by rw [hi, hp]; simp
    rw [e]
    simp
  have e3 : ds.getD j cl0 = ds[j] := by simp [List.getD, hj]
  show _ = ite _ _ _
  rw [if_pos e1, e2, e3]
theorem rc_at {k r : Nat} (ha : k < a) (hj : j = r * a + k) : j / a = r ∧ j % a = k := by
  subst hj
  exact ⟨by rw [Nat.mul_comm, Nat.mul_add_div (by omega), Nat.div_eq_of_lt ha, Nat.add_zero], by rw [Nat.mul_comm, Nat.mul_add_mod, Nat.mod_eq_of_lt ha]⟩
end
theorem add_ik {x : Int} {k i : Nat} (h : x + (k : Int) = (i : Int)) (hi : i ≤ 1048576) : IntKind.i64.wrap (x + (k : Int)) = (i : Int) ∧ wrap64 (x + (k : Int)) = (i : Int) := by
  rw [h]
  exact ⟨w64k ⟨by omega, by omega⟩, w64 ⟨by omega, by omega⟩⟩
end Go.Proofs.Ytnilgcahggmncaa
