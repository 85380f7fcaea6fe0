/- A text cut at its spaces (plain). -/
import Derived.Test.YtdfcnghgolncaaaDoorP2
import Derived.Lib.SplitLaws
namespace Go.Proofs.YtdfcnghgolncaaaDoor
open Go.RowKit Go.Lib
set_option linter.unusedVariables false

/-- The parts between the spaces. -/
def spL : List UInt8 → List (List UInt8)
  | [] => [[]]
  | b :: r => if b = 32 then [] :: spL r else match spL r with
    | [] => [[b]]
    | h :: t => (b :: h) :: t
theorem spL_ne : ∀ xs, spL xs ≠ []
  | [] => by simp [spL]
  | b :: r => by
    unfold spL
    split
    · simp
    · split <;> simp
theorem spL_sp (r : List UInt8) : spL (32 :: r) = [] :: spL r := by simp [spL]
theorem spL_no {b : UInt8} {r h : List UInt8} {t : List (List UInt8)} (hb : b ≠ 32) (hr : spL r = h :: t) : spL (b :: r) = (b :: h) :: t := by simp [spL, hb, hr]
theorem split_sp : ∀ xs : List UInt8, splitK [32] 0 (count xs [32]) xs = spL xs
  | [] => by rw [count_miss (by simp [index])]; rfl
  | b :: r => by
    have ih := split_sp r
    by_cases hb : b = 32
    · subst hb
      have hix : index ((32 : UInt8) :: r) [32] = ((0 : Nat) : Int) := by rw [index]; simp [List.isPrefixOf]
      rw [count_cons_eq, spL_sp, Nat.add_comm, splitK, if_neg (by rw [hix]; decide), hix]
      show List.take 0 _ :: splitK [32] 0 (count r [32]) (List.drop 1 (32 :: r)) = _
      rw [List.drop_one, List.tail_cons, ih]
      rfl
    · have hp : ([32] : List UInt8).isPrefixOf (b :: r) = false := by simp [List.isPrefixOf, Ne.symm hb]
      have hix : index (b :: r) [32] = if index r [32] == -1 then -1 else index r [32] + 1 := by rw [index, hp]; simp
      rw [count_cons_ne b 32 r hb]
      cases hk : count r [32] with
      | zero =>
        rw [hk] at ih
        have ih' : [r] = spL r := ih
        rw [spL_no hb ih'.symm]
        rfl
      | succ k =>
        rw [hk] at ih
        have hm : index r [32] ≠ -1 := fun e => by rw [count_miss e] at hk; cases hk
        have hge := index_ge r [32]
        obtain ⟨j, hj⟩ : ∃ j : Nat, index r [32] = j := ⟨(index r [32]).toNat, by omega⟩
        have h1 : index (b :: r) [32] = ((j + 1 : Nat) : Int) := by rw [hix, if_neg (fun e => hm (beq_iff_eq.1 e)), hj]; omega
        rw [splitK, if_neg (fun e => hm (beq_iff_eq.1 e)), hj] at ih
        rw [splitK, if_neg (by rw [h1]; intro e; have := beq_iff_eq.1 e; omega), h1]
        simp only [Int.toNat_natCast, List.length_singleton, Nat.add_zero] at ih ⊢
        rw [spL_no hb ih.symm]
        simp
/-- What stands ahead of the first part. -/
def glue (p : List UInt8) : List (List UInt8) → List (List UInt8)
  | [] => [p]
  | h :: t => (p ++ h) :: t
theorem glue_nil {xs : List UInt8} : glue [] (spL xs) = spL xs := by
  cases h : spL xs with
  | nil => exact absurd h (spL_ne xs)
  | cons a t => rfl
theorem glue_sp {p r : List UInt8} : glue p (spL (32 :: r)) = p :: glue [] (spL r) := by
  rw [spL_sp, glue_nil]
  simp [glue]
theorem glue_no {p r : List UInt8} {b : UInt8} (hb : b ≠ 32) : glue p (spL (b :: r)) = glue (p ++ [b]) (spL r) := by
  cases h : spL r with
  | nil => exact absurd h (spL_ne r)
  | cons a t =>
    rw [spL_no hb h]
    simp [glue]
theorem spL_len : ∀ xs : List UInt8, (spL xs).length ≤ xs.length + 1
  | [] => by simp [spL]
  | b :: r => by
    have := spL_len r
    unfold spL
    split
    · simp; omega
    · split <;> rename_i h <;> rw [h] at this <;> simp at this ⊢ <;> omega
theorem spL_sum : ∀ xs : List UInt8, ((spL xs).map List.length).sum ≤ xs.length
  | [] => by simp [spL]
  | b :: r => by
    have := spL_sum r
    unfold spL
    split
    · simp; omega
    · split <;> rename_i h <;> rw [h] at this <;> simp at this ⊢ <;> omega
end Go.Proofs.YtdfcnghgolncaaaDoor
