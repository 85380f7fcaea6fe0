/- MakeGrid, MakeNum. -/
import Derived.Test.YtnilgcahggmncaaC4
namespace Go.Proofs.Ytnilgcahggmncaa
open Go.RowKit
set_option linter.unusedVariables false
set_option maxRecDepth 100000

/-- A grid of the call's own, right and small. -/
def MgPost (w : World) (e : Ending) (w' : World) : Prop :=
  ∃ (W H : Int) (A' : Option Addr) (c' : Nat) (cs : List Cl), (1 ≤ W ∧ W ≤ 7) ∧ (1 ≤ H ∧ H ≤ 4) ∧ gridB W H cs = true ∧ e = .returned (gV W H A' cs.length c') ∧ Og w' w.heap.size A' c' cs ∧ Below w.heap.size w w'
theorem below_gr {w w1 w2 : World} {g : Nat} (h : Below w.heap.size w w1) (hg : w1.grownBy w2 (some g)) (hl : w.heap.size ≤ g) : Below w.heap.size w w2 :=
  h.grown hg h.size (fun k hk => by injection hk with hk; omega)
set_option maxHeartbeats 2000000 in
theorem makeGrid_any (A : Option Addr) (c : Nat) (xs : List UInt8) (w : World) (ha : By w A xs) (h1 : xs.length ≤ 1048576) :
    Calls Try.prog 18 #[.slice A xs.length c] w (MgPost w) := by
  have hb0 : Below w.heap.size w (w.alloc (.cells gZ 29)) := (Below.refl _ _).alloc (Nat.le_refl _) _
  go_enter Try.func18, Try.ntmps18
  go_wp2_with fail
  refine (l01New_any A c xs _ (by_gr ha (by_blk ha) (gr_below hb0)) h1).mono ?_
  rintro e w1 ⟨g, rfl, hgw, hC1, hb1⟩
  rw [World.size_alloc] at hgw
  have t1 : Below w.heap.size w w1 := hb0.trans (hb1.mono hb0.size)
  have hne : ∀ ad, A = some ad → xs ≠ [] → ad.block < g := fun ad h h' => by have := by_blk ha ad h h'; omega
  have hB1 : By w1 A xs := by_gr ha (by_blk ha) (gr_below t1)
  have R1 := (hb1.block w.heap.size (by simp)).trans (heap_alloc_new w (.cells gZ 29))
  have z1 := (Array.getElem?_eq_some_iff.1 R1).1
  go_wp2_with fail
  refine (l07Draw_any g A c xs w1 hB1 h1 hne hC1).mono ?_
  rintro e w2 ⟨W, H, A2, c2, cs, hW, hH, hok, rfl, hO2, hg2⟩
  have R2 := (hg2.block w.heap.size z1 (by intro e; injection e with e; omega)).trans R1
  have t2 := below_gr t1 hg2 (by omega)
  have q2 : ∀ i, w2.cell? ⟨w.heap.size, i, none⟩ = _ := fun i => cell_of_row w2 _ i _ _ (0, 0) R2
  have r2 : ∀ i, w2.frozen? ⟨w.heap.size, i, none⟩ = false := fun i => by simp [World.frozen?, R2]
  have z2 := (Array.getElem?_eq_some_iff.1 R2).1
  have HOK := Lib.hid hok
  have HO2 := Lib.hid hO2
  have T2 := Lib.hid t2
  clear hok hO2 t2 R1 R2
  go_wp2_with fail
  refine bodyPost_ret (v := gV W H A2 cs.length c2) (by simp [results, Try.results18, go_sem, *]) rfl ?_
  refine ⟨W, H, A2, c2, cs, hW, hH, HOK.out, rfl, ?_, ?_⟩
  · exact ((((HO2.out.setCell (by show w.heap.size < _; omega) _).setCell (by show w.heap.size < _; omega) _).setCell (by show w.heap.size < _; omega) _).alloc _).mono (by omega)
  · exact (((T2.out.setCell (Nat.le_refl _) _).setCell (Nat.le_refl _) _).setCell (Nat.le_refl _) _).alloc (by simp; omega) _
set_option maxHeartbeats 2000000 in
theorem makeNum_any (A : Option Addr) (c : Nat) (xs : List UInt8) (n : Nat) (w : World) (ha : By w A xs) (h1 : xs.length ≤ 1048576) (hn0 : 1 ≤ n) (hn : n ≤ 1000000) :
    Calls Try.prog 19 #[.slice A xs.length c, .int .i64 n] w fun e w' => ∃ x : Nat, x < n ∧ e = .returned (.int .i64 x) ∧ Below w.heap.size w w' := by
  go_enter Try.func19, Try.ntmps19
  go_wp2_with fail
  refine (l01New_any A c xs _ ha h1).mono ?_
  rintro e w1 ⟨g, rfl, hgw, ⟨k, h, hk, hh, hG⟩, hb1⟩
  have qg : ∀ i, w1.cell? ⟨g, i, none⟩ = _ := fun i => cell_of_row w1 _ i _ _ (0, 0) hG
  have rg : ∀ i, w1.frozen? ⟨g, i, none⟩ = false := fun i => by simp [World.frozen?, hG]
  have hne : ∀ ad, A = some ad → xs ≠ [] → ad.block < g := fun ad h h' => by have := by_blk ha ad h h'; omega
  have hB1 : By w1 A xs := by_gr ha (by_blk ha) (gr_below hb1)
  go_wp2_with fail
  refine (l01BelowN_any g A c xs n _ (by_gr hB1 hne (grown_set (World.grownBy.refl w1 _) _)) h1 hne ⟨k, _, hk, wrap64_bd _, heap_setCell_same _ hG⟩ hn0 hn).mono ?_
  rintro e w2 ⟨x, hx, rfl, hC2, hg2⟩
  go_wp2_with fail
  go_ret
  exact ⟨x, hx, rfl, below_gr (hb1.setCell hgw _) hg2 hgw⟩
end Go.Proofs.Ytnilgcahggmncaa
