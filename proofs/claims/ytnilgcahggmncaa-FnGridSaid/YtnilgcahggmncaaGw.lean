/- An element written through a row of a slice of one's own. -/
import Derived.Test.YtnilgcahggmncaaGk
import Derived.Test.YtnilgcahggmncaaGv
import Derived.Test.YtnilgcahggmncaaG18
namespace Go.Proofs.Ytnilgcahggmncaa
open Go.RowKit
set_option linter.unusedVariables false
set_option maxRecDepth 100000

theorem w64k {n : Int} (h : -9223372036854775808 ≤ n ∧ n ≤ 9223372036854775807) : IntKind.i64.wrap n = n := by rw [IntKind.wrap_i64]; omega
theorem add_natk {p k i : Nat} (h : i = p + k) (hi : i ≤ 1048576) : IntKind.i64.wrap ((p : Int) + (k : Int)) = (i : Int) ∧ wrap64 ((p : Int) + (k : Int)) = (i : Int) ∧ (p : Int) + (k : Int) = (i : Int) := by
  have e : (p : Int) + (k : Int) = (i : Int) := by rw [h]; exact (Int.natCast_add p k).symm
  rw [e]
  exact ⟨w64k ⟨by omega, by omega⟩, w64 ⟨by omega, by omega⟩, rfl⟩
theorem small_k {n : Int} (h : -1048576 ≤ n) (h2 : n ≤ 1048576) : IntKind.i64.wrap n = n ∧ wrap64 n = n := ⟨w64k ⟨by omega, by omega⟩, w64 ⟨by omega, by omega⟩⟩
theorem mul_natk {a k p : Nat} (hp : p = k * a) (h : p ≤ 1048576) : IntKind.i64.wrap ((k : Int) * (a : Int)) = (p : Int) := by
  have h2 : ((k * a : Nat) : Int) = (k : Int) * (a : Int) := by simp
  rw [← h2, ← hp]
  exact w64k ⟨by omega, by omega⟩
section
variable {w : World} {lo g c : Nat} {cs : List Cl}
/-- What a walk wants to know to write element p + k by way of a row that begins at p. -/
theorem Og.getA (h : Og w lo (some ⟨g, 0, none⟩) c cs) {p k : Nat} (hk : p + k < cs.length) :
    (∃ u, w.cell? ⟨g, p * 6 + k * 6, none⟩ = some u) ∧ (∃ u, w.cell? ⟨g, p * 6 + k * 6 + 1, none⟩ = some u) ∧ (∃ u, w.cell? ⟨g, p * 6 + k * 6 + 2, none⟩ = some u) ∧ (∃ u, w.cell? ⟨g, p * 6 + k * 6 + 3, none⟩ = some u) ∧ (∃ u, w.cell? ⟨g, p * 6 + k * 6 + 4, none⟩ = some u) ∧ (∃ u, w.cell? ⟨g, p * 6 + k * 6 + 5, none⟩ = some u) ∧
    w.frozen? ⟨g, p * 6 + k * 6, none⟩ = false ∧ w.frozen? ⟨g, p * 6 + k * 6 + 1, none⟩ = false ∧ w.frozen? ⟨g, p * 6 + k * 6 + 2, none⟩ = false ∧ w.frozen? ⟨g, p * 6 + k * 6 + 3, none⟩ = false ∧ w.frozen? ⟨g, p * 6 + k * 6 + 4, none⟩ = false ∧ w.frozen? ⟨g, p * 6 + k * 6 + 5, none⟩ = false := by
  obtain ⟨x0, x1, x2, x3, x4, x5⟩ := h.get hk
  obtain ⟨f0, f1, f2, f3, f4, f5⟩ := h.put_ hk
  rw [show (p + k) * 6 = p * 6 + k * 6 by omega] at x0 x1 x2 x3 x4 x5 f0 f1 f2 f3 f4 f5
  exact ⟨⟨_, x0⟩, ⟨_, x1⟩, ⟨_, x2⟩, ⟨_, x3⟩, ⟨_, x4⟩, ⟨_, x5⟩, f0, f1, f2, f3, f4, f5⟩
theorem Og.setA (h : Og w lo (some ⟨g, 0, none⟩) c cs) {p k : Nat} (hk : p + k < cs.length) (x : Cl) :
    Og ((((((w.setCell ⟨g, p * 6 + k * 6, none⟩ (.int .i64 x.1)).setCell ⟨g, p * 6 + k * 6 + 1, none⟩ (.int .i64 x.2.1)).setCell ⟨g, p * 6 + k * 6 + 2, none⟩ (.int .i64 x.2.2.1)).setCell ⟨g, p * 6 + k * 6 + 3, none⟩ (.bool x.2.2.2.1)).setCell ⟨g, p * 6 + k * 6 + 4, none⟩ (.bool x.2.2.2.2.1)).setCell ⟨g, p * 6 + k * 6 + 5, none⟩ (.bool x.2.2.2.2.2)) lo (some ⟨g, 0, none⟩) c (cs.set (p + k) x) := by
  have := h.set hk x
  rw [show (p + k) * 6 = p * 6 + k * 6 by omega] at this
  exact this
/-- The same for a slice that is read and written by its own index. -/
theorem Og.getB (h : Og w lo (some ⟨g, 0, none⟩) c cs) {k : Nat} (hk : k < cs.length) :
    (∃ u, w.cell? ⟨g, k * 6, none⟩ = some u) ∧ (∃ u, w.cell? ⟨g, k * 6 + 1, none⟩ = some u) ∧ (∃ u, w.cell? ⟨g, k * 6 + 2, none⟩ = some u) ∧ (∃ u, w.cell? ⟨g, k * 6 + 3, none⟩ = some u) ∧ (∃ u, w.cell? ⟨g, k * 6 + 4, none⟩ = some u) ∧ (∃ u, w.cell? ⟨g, k * 6 + 5, none⟩ = some u) ∧
    w.frozen? ⟨g, k * 6, none⟩ = false ∧ w.frozen? ⟨g, k * 6 + 1, none⟩ = false ∧ w.frozen? ⟨g, k * 6 + 2, none⟩ = false ∧ w.frozen? ⟨g, k * 6 + 3, none⟩ = false ∧ w.frozen? ⟨g, k * 6 + 4, none⟩ = false ∧ w.frozen? ⟨g, k * 6 + 5, none⟩ = false := by
  obtain ⟨x0, x1, x2, x3, x4, x5⟩ := h.get hk
  obtain ⟨f0, f1, f2, f3, f4, f5⟩ := h.put_ hk
  exact ⟨⟨_, x0⟩, ⟨_, x1⟩, ⟨_, x2⟩, ⟨_, x3⟩, ⟨_, x4⟩, ⟨_, x5⟩, f0, f1, f2, f3, f4, f5⟩
theorem below_six {B : Nat} {a w : World} (h : Below B a w) {g : Nat} (hg : B ≤ g) {o0 o1 o2 o3 o4 o5 : Nat} (v0 v1 v2 v3 v4 v5 : Value) :
    Below B a ((((((w.setCell ⟨g, o0, none⟩ v0).setCell ⟨g, o1, none⟩ v1).setCell ⟨g, o2, none⟩ v2).setCell ⟨g, o3, none⟩ v3).setCell ⟨g, o4, none⟩ v4).setCell ⟨g, o5, none⟩ v5) :=
  (((((h.setCell hg _).setCell hg _).setCell hg _).setCell hg _).setCell hg _).setCell hg _
theorem heap_six {w : World} {g b : Nat} {o : Obj} (h : w.heap[b]? = some o) (hg : b ≠ g) {o0 o1 o2 o3 o4 o5 : Nat} (v0 v1 v2 v3 v4 v5 : Value) :
    ((((((w.setCell ⟨g, o0, none⟩ v0).setCell ⟨g, o1, none⟩ v1).setCell ⟨g, o2, none⟩ v2).setCell ⟨g, o3, none⟩ v3).setCell ⟨g, o4, none⟩ v4).setCell ⟨g, o5, none⟩ v5).heap[b]? = some o :=
  heap_setCell_of _ hg (heap_setCell_of _ hg (heap_setCell_of _ hg (heap_setCell_of _ hg (heap_setCell_of _ hg (heap_setCell_of _ hg h)))))
end
theorem cell_set {w : World} {g b i o : Nat} {v u : Value} (h : w.cell? ⟨b, i, none⟩ = some v) (hg : ¬ b = g) : (w.setCell ⟨g, o, none⟩ u).cell? ⟨b, i, none⟩ = some v :=
  (World.cell?_of_block (a := ⟨b, i, none⟩) (Below.heap_setCell w ⟨g, o, none⟩ u b hg)).trans h
theorem cell_six {w : World} {g b i : Nat} {v : Value} (h : w.cell? ⟨b, i, none⟩ = some v) (hg : ¬ b = g) {o0 o1 o2 o3 o4 o5 : Nat} (v0 v1 v2 v3 v4 v5 : Value) :
    ((((((w.setCell ⟨g, o0, none⟩ v0).setCell ⟨g, o1, none⟩ v1).setCell ⟨g, o2, none⟩ v2).setCell ⟨g, o3, none⟩ v3).setCell ⟨g, o4, none⟩ v4).setCell ⟨g, o5, none⟩ v5).cell? ⟨b, i, none⟩ = some v :=
  cell_set (cell_set (cell_set (cell_set (cell_set (cell_set h hg) hg) hg) hg) hg) hg
theorem cell_drew {w : World} {a : Addr} {v : Value} (h : w.cell? a = some v) : w.drew.cell? a = some v := h
theorem cell_sixd {w : World} {g b i : Nat} {v : Value} (h : w.cell? ⟨b, i, none⟩ = some v) (hg : ¬ b = g) {o0 o1 o2 o3 o4 o5 : Nat} (v0 v1 v2 v3 v4 v5 : Value) :
    ((((((w.setCell ⟨g, o0, none⟩ v0).setCell ⟨g, o1, none⟩ v1).setCell ⟨g, o2, none⟩ v2).setCell ⟨g, o3, none⟩ v3).setCell ⟨g, o4, none⟩ v4).setCell ⟨g, o5, none⟩ v5).drew.cell? ⟨b, i, none⟩ = some v :=
  cell_drew (cell_six h hg v0 v1 v2 v3 v4 v5)
theorem Og.drew {w : World} {lo c : Nat} {A : Option Addr} {cs : List Cl} (h : Og w lo A c cs) : Og w.drew lo A c cs := h
theorem heap_drew {w : World} {b : Nat} {o : Obj} (h : w.heap[b]? = some o) : w.drew.heap[b]? = some o := h
abbrev gz : Value := .slice none 0 0
theorem gp_nil {w w' : World} (hb : Below w.heap.size w w') (R : Gr) (hR : R = gr0) : GridPost w R.1 R.2.1 R.2.2 (.returned (.agg #[.int .i64 0, .int .i64 0, .slice none 0 0])) w' := by
  subst hR
  exact ⟨none, 0, rfl, ownsG_nil _ _ _ _, .inl rfl, (fun ad h => by cases h), hb⟩
end Go.Proofs.Ytnilgcahggmncaa
