/- The text of a grid (plain law). -/
import Derived.Test.YtnilgcahggmncaaG19
import Derived.Test.YtnilgcahggmncaaG1
namespace Go.Proofs.Ytnilgcahggmncaa
open Go.RowKit
set_option linter.unusedVariables false

/-- The rune of the i-th cell. -/
def runeAt (cs : List Cl) (i : Nat) : Int := (cs.getD i cl0).1
/-- How many of the n cells from p on are left when the spaces at the end are taken off. -/
def trimN (cs : List Cl) (p : Nat) : Nat → Nat
  | 0 => 0
  | k + 1 => if runeAt cs (p + k) = 32 then trimN cs p k else k + 1
theorem trimN_le (cs : List Cl) (p : Nat) : ∀ n, trimN cs p n ≤ n
  | 0 => Nat.le_refl _
  | k + 1 => by
    have := trimN_le cs p k
    unfold trimN
    split <;> omega
/-- The bytes of n cells from p on. -/
def rowB (cs : List Cl) (p : Nat) : Nat → List UInt8
  | 0 => []
  | k + 1 => rowB cs p k ++ rb (runeAt cs (p + k))
theorem rowB_len (cs : List Cl) (p : Nat) : ∀ n, (rowB cs p n).length ≤ 3 * n
  | 0 => by simp [rowB]
  | k + 1 => by
    have := rowB_len cs p k
    have h := rb_len (runeAt cs (p + k))
    rw [rowB, List.length_append]
    omega
/-- The bytes of n rows, a cells a row. -/
def textB (cs : List Cl) (a : Nat) : Nat → List UInt8
  | 0 => []
  | k + 1 => textB cs a k ++ (rowB cs (k * a) (trimN cs (k * a) a) ++ [10])
theorem textB_len (cs : List Cl) {a : Nat} (ha : a ≤ 120) : ∀ n, (textB cs a n).length ≤ 361 * n
  | 0 => by simp [textB]
  | k + 1 => by
    have := textB_len cs ha k
    have h := rowB_len cs (k * a) (trimN cs (k * a) a)
    have h2 := trimN_le cs (k * a) a
    rw [textB, List.length_append, List.length_append]
    simp
    omega
/-- What GridText answers. -/
def textR (W H : Int) (cs : List Cl) : List UInt8 := if gridB W H cs = true then textB cs W.toNat H.toNat else []
theorem runeAt_get {cs : List Cl} {i : Nat} (h : i < cs.length) : cs[i].1 = runeAt cs i := by
  rw [runeAt, List.getD_eq_getElem?_getD, List.getElem?_eq_getElem h]
  rfl
theorem Ob.emptyG {w : World} : Ob (w.alloc (.cells #[] 5)) w.heap.size (some ⟨w.heap.size, 0, none⟩) 0 [] := Ob.lit (C := #[]) (bs := []) rfl (by simp)
end Go.Proofs.Ytnilgcahggmncaa
