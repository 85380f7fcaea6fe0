/- What a region that makes a grid variable leaves, whatever its order. -/
import Derived.Test.YtdmhmelmoobekaaGm
import Derived.Test.YtdmhmelmoobekaaGw
namespace Go.Proofs.Ytdmhmelmoobekaa
open Go.RowKit
set_option linter.unusedVariables false
set_option maxRecDepth 100000

theorem cell_alloc {w : World} {a : Addr} {v : Value} (h : w.cell? a = some v) (o : Obj) : (w.alloc o).cell? a = some v := by
  rw [World.cell?_alloc_lt _ _ _ (World.block_lt_of_cell? w _ h)]
  exact h
theorem cell_three {w : World} {g b i o0 o1 o2 : Nat} {v u0 u1 u2 : Value} (h : w.cell? ⟨b, i, none⟩ = some v) (hg : ¬ b = g) :
    (((w.setCell ⟨g, o0, none⟩ u0).setCell ⟨g, o1, none⟩ u1).setCell ⟨g, o2, none⟩ u2).cell? ⟨b, i, none⟩ = some v := cell_set (cell_set (cell_set h hg) hg) hg
theorem below_three {B : Nat} {a w : World} (h : Below B a w) {g o0 o1 o2 : Nat} {u0 u1 u2 : Value} (hg : B ≤ g) : Below B a (((w.setCell ⟨g, o0, none⟩ u0).setCell ⟨g, o1, none⟩ u1).setCell ⟨g, o2, none⟩ u2) :=
  ((h.setCell hg _).setCell hg _).setCell hg _
def CutG (w0 : World) (RW RH : Int) (rs : List Cl) (w' : World) (p : Value) : Prop :=
  ∃ g A c lo hi, p = .pointer (some ⟨g, 0, none⟩) ∧ w'.heap[g]? = some (.cells #[.int .i64 RW, .int .i64 RH, .slice A rs.length c] 33 (0, 0)) ∧ Og w' lo A c rs ∧ InB lo hi A ∧ w0.heap.size ≤ lo ∧ lo ≤ hi ∧ hi ≤ w'.heap.size ∧ (g < lo ∨ hi ≤ g) ∧ w0.heap.size ≤ g ∧ g < w'.heap.size ∧ Below w0.heap.size w0 w'
theorem cutA {w0 w : World} {RW RH : Int} {rs : List Cl} {lo c : Nat} {A : Option Addr} (ho : Og w lo A c rs) (hi : InB lo w.heap.size A) (h0 : w0.heap.size ≤ lo) (hl : lo ≤ w.heap.size) (hb : Below w0.heap.size w0 w) :
    CutG w0 RW RH rs (w.alloc (.cells #[.int .i64 RW, .int .i64 RH, .slice A rs.length c] 33)) (.pointer (some ⟨w.heap.size, 0, none⟩)) :=
  ⟨_, A, c, lo, w.heap.size, rfl, heap_alloc_new _ _, ho.alloc _, hi, h0, hl, by simp, .inr (Nat.le_refl _), hb.size, by simp, hb.alloc hb.size _⟩
theorem cutB {w0 w : World} {RW RH : Int} {rs : List Cl} {lo c g : Nat} {A : Option Addr} {x y z : Value} (hB : w.heap[g]? = some (.cells #[x, y, z] 33 (0, 0))) (hg : w0.heap.size ≤ g) (hgl : g < lo)
    (ho : Og w lo A c rs) (hi : InB lo w.heap.size A) (h0 : w0.heap.size ≤ lo) (hl : lo ≤ w.heap.size) (hb : Below w0.heap.size w0 w) :
    CutG w0 RW RH rs (((w.setCell ⟨g, 0, none⟩ (.int .i64 RW)).setCell ⟨g, 1, none⟩ (.int .i64 RH)).setCell ⟨g, 2, none⟩ (.slice A rs.length c)) (.pointer (some ⟨g, 0, none⟩)) := by
  have hz := (Array.getElem?_eq_some_iff.1 hB).1
  refine ⟨g, A, c, lo, w.heap.size, rfl, heap_setCell_same _ (heap_setCell_same _ (heap_setCell_same _ hB)), ((ho.setCell hgl _).setCell hgl _).setCell hgl _, hi, h0, hl, by simp, .inl hgl, hg, by simpa using hz, ((hb.setCell hg _).setCell hg _).setCell hg _⟩
end Go.Proofs.Ytdmhmelmoobekaa
