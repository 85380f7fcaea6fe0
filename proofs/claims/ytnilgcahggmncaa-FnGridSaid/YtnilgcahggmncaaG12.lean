/- Grids: copying, comparing. -/
import Derived.Test.YtnilgcahggmncaaG10
namespace Go.Proofs.Ytnilgcahggmncaa
open Go.RowKit
set_option linter.unusedVariables false
set_option maxRecDepth 100000

def GridPost (w : World) (W H : Int) (cs : List Cl) (e : Ending) (w' : World) : Prop :=
  ∃ A' c', e = .returned (gV W H A' cs.length c') ∧ Og w' w.heap.size A' c' cs ∧ Gs w' A' cs ∧ InB w.heap.size w'.heap.size A' ∧ Below w.heap.size w w'
set_option maxHeartbeats 1000000 in
theorem toGrid_any (W H : Int) (A : Option Addr) (c : Nat) (cs : List Cl) (w : World) (ha : Gs w A cs) (hl : cs.length ≤ 1048576) :
    Calls Try.prog 15 #[gV W H A cs.length c] w (GridPost w W H cs) := by
  go_enter Try.func15, Try.ntmps15
  go_wp2_with fail
  have hb0 : Below w.heap.size w (((w.alloc (.cells #[.int .i64 W, .int .i64 H, .slice A cs.length c] 24)).alloc (.cells #[.int .i64 0, .int .i64 0, .slice none 0 0] 29)).alloc (.cells #[.int .i64 W, .int .i64 H, .slice none 0 0] 29)) := by (repeat (first | exact Below.refl _ _ | (refine Below.alloc ?_ (by first | omega | (simp; done) | (simp; omega)) _) | (refine Below.drew ?_) | (refine below_drewN ?_ _) | (refine below_at1 ?_ (by first | omega | (simp; done) | (simp; omega))) | (refine Below.setCell ?_ (by first | omega | (simp; done) | (simp; omega)) _) | (refine Below.trans ?_ (Below.mono (by assumption) (by first | omega | (simp; done) | (simp; omega))))))
  refine (toCellS_any _ _ _ _ (ha.below hb0) hl).mono ?_
  rintro e w1 ⟨A1, c1, rfl, hc1, hs1, hi1, hb⟩
  have zh := hb.size
  have g0 : w1.heap[w.heap.size]? = some (.cells #[.int .i64 W, .int .i64 H, .slice A cs.length c] 24 (0, 0)) := (hb.block _ (by simp; omega)).trans (by repeat (first | assumption | exact heap_alloc_at _ (by first | rfl | (simp; done) | omega) | refine heap_alloc_of _ ?_ | refine heap_setCell_of _ (by first | omega | (simp; done) | (simp; omega)) ?_ | refine heap_setCell_same _ ?_ | exact heap_at1_same (by first | omega | (simp; done) | (simp; omega)) | refine heap_at1_of (by first | omega | (simp; done) | (simp; omega)) ?_))
  have g1 : w1.heap[w.heap.size + 1]? = some (.cells #[.int .i64 0, .int .i64 0, .slice none 0 0] 29 (0, 0)) := (hb.block _ (by simp)).trans (by repeat (first | assumption | exact heap_alloc_at _ (by first | rfl | (simp; done) | omega) | refine heap_alloc_of _ ?_ | refine heap_setCell_of _ (by first | omega | (simp; done) | (simp; omega)) ?_ | refine heap_setCell_same _ ?_ | exact heap_at1_same (by first | omega | (simp; done) | (simp; omega)) | refine heap_at1_of (by first | omega | (simp; done) | (simp; omega)) ?_))
  have g2 : w1.heap[w.heap.size + 1 + 1]? = some (.cells #[.int .i64 W, .int .i64 H, .slice none 0 0] 29 (0, 0)) := (hb.block _ (by simp)).trans (by repeat (first | assumption | exact heap_alloc_at _ (by first | rfl | (simp; done) | omega) | refine heap_alloc_of _ ?_ | refine heap_setCell_of _ (by first | omega | (simp; done) | (simp; omega)) ?_ | refine heap_setCell_same _ ?_ | exact heap_at1_same (by first | omega | (simp; done) | (simp; omega)) | refine heap_at1_of (by first | omega | (simp; done) | (simp; omega)) ?_))
  have g0c0 : w1.cell? ⟨w.heap.size, 0, none⟩ = some (.int .i64 W) := by simp [World.cell?, g0]
  have g0c1 : w1.cell? ⟨w.heap.size, 1, none⟩ = some (.int .i64 H) := by simp [World.cell?, g0]
  have g0c2 : w1.cell? ⟨w.heap.size, 2, none⟩ = some (.slice A cs.length c) := by simp [World.cell?, g0]
  have g1c0 : w1.cell? ⟨w.heap.size + 1, 0, none⟩ = some (.int .i64 0) := by simp [World.cell?, g1]
  have g1f0 : w1.frozen? ⟨w.heap.size + 1, 0, none⟩ = false := by simp [World.frozen?, g1]
  have g1c1 : w1.cell? ⟨w.heap.size + 1, 1, none⟩ = some (.int .i64 0) := by simp [World.cell?, g1]
  have g1f1 : w1.frozen? ⟨w.heap.size + 1, 1, none⟩ = false := by simp [World.frozen?, g1]
  have g1c2 : w1.cell? ⟨w.heap.size + 1, 2, none⟩ = some (.slice none 0 0) := by simp [World.cell?, g1]
  have g1f2 : w1.frozen? ⟨w.heap.size + 1, 2, none⟩ = false := by simp [World.frozen?, g1]
  have g2c0 : w1.cell? ⟨w.heap.size + 1 + 1, 0, none⟩ = some (.int .i64 W) := by simp [World.cell?, g2]
  have g2f0 : w1.frozen? ⟨w.heap.size + 1 + 1, 0, none⟩ = false := by simp [World.frozen?, g2]
  have g2c1 : w1.cell? ⟨w.heap.size + 1 + 1, 1, none⟩ = some (.int .i64 H) := by simp [World.cell?, g2]
  have g2f1 : w1.frozen? ⟨w.heap.size + 1 + 1, 1, none⟩ = false := by simp [World.frozen?, g2]
  have g2c2 : w1.cell? ⟨w.heap.size + 1 + 1, 2, none⟩ = some (.slice none 0 0) := by simp [World.cell?, g2]
  have g2f2 : w1.frozen? ⟨w.heap.size + 1 + 1, 2, none⟩ = false := by simp [World.frozen?, g2]
  clear g0 g1 g2
  go_wp2_with fail
  refine bodyPost_ret (v := gV W H A1 cs.length c1) (by simp [results, Try.results15, go_sem, *]) rfl ?_
  have hi2 : ∀ ad, A1 = some ad → w.heap.size + 3 ≤ ad.block ∧ ad.block < w1.heap.size := fun ad h => by have := hi1 ad h; simp at this; omega
  have hk : ∀ (p : Addr) (v : Value), p.block < w.heap.size + 3 → ∀ W2 : World, Gs W2 A1 cs → Gs (W2.setCell p v) A1 cs := by
    intro p v hp W2 h
    rcases h with h | ⟨b, o, rfl, h⟩
    · exact .inl h
    · refine .inr ⟨b, o, rfl, fun i x hx j u hu => ?_⟩
      have := (hi2 _ rfl).1
      have h3 := h i x hx j u hu
      have h4 := Below.heap_setCell W2 p v b (by simp at this; omega)
      unfold World.cell? at h3 ⊢
      simp only [h4]
      exact h3
  refine ⟨A1, c1, rfl, (((((hc1.setCell (by first | omega | (simp; done) | (simp; omega)) _).setCell (by first | omega | (simp; done) | (simp; omega)) _).setCell (by first | omega | (simp; done) | (simp; omega)) _).setCell (by first | omega | (simp; done) | (simp; omega)) _).mono (by first | omega | (simp; done) | (simp; omega))), ?_, fun ad h => ?_, ?_⟩
  · exact hk _ _ (by first | omega | (simp; done) | (simp; omega)) _ (hk _ _ (by first | omega | (simp; done) | (simp; omega)) _ (hk _ _ (by first | omega | (simp; done) | (simp; omega)) _ (hk _ _ (by first | omega | (simp; done) | (simp; omega)) _ hs1)))
  · have := hi2 ad h
    simp
    omega
  · exact ((((hb0.trans (hb.mono (by first | omega | (simp; done) | (simp; omega)))).setCell (by first | omega | (simp; done) | (simp; omega)) _).setCell (by first | omega | (simp; done) | (simp; omega)) _).setCell (by first | omega | (simp; done) | (simp; omega)) _).setCell (by first | omega | (simp; done) | (simp; omega)) _
theorem eqGrid_same (W H : Int) (A A' : Option Addr) (c c' : Nat) (cs : List Cl) (w : World) (ha : Gs w A cs) (hb : Gs w A' cs) (hl : cs.length ≤ 1099511627776) :
    Calls Try.prog 17 #[gV W H A cs.length c, gV W H A' cs.length c'] w fun e w' => e = .returned (.bool true) ∧ Below w.heap.size w w' := by
  go_enter Try.func17, Try.ntmps17
  go_wp2_with fail
  have hb0 : Below w.heap.size w ((w.alloc (.cells #[.int .i64 W, .int .i64 H, .slice A cs.length c] 29)).alloc (.cells #[.int .i64 W, .int .i64 H, .slice A' cs.length c'] 29)) := by (repeat (first | exact Below.refl _ _ | (refine Below.alloc ?_ (by first | omega | (simp; done) | (simp; omega)) _) | (refine Below.drew ?_) | (refine below_drewN ?_ _) | (refine below_at1 ?_ (by first | omega | (simp; done) | (simp; omega))) | (refine Below.setCell ?_ (by first | omega | (simp; done) | (simp; omega)) _) | (refine Below.trans ?_ (Below.mono (by assumption) (by first | omega | (simp; done) | (simp; omega))))))
  refine (eqCellS_same _ _ _ _ cs _ (ha.below hb0) (hb.below hb0) hl).mono ?_
  rintro e w1 ⟨rfl, hb1⟩
  go_wp2_with fail
  go_ret
  exact ⟨rfl, hb0.trans (hb1.mono (by first | omega | (simp; done) | (simp; omega)))⟩
end Go.Proofs.Ytnilgcahggmncaa
