/- The law of SameGrid. -/
import Derived.Test.YtgodpbiojekicaaG13
import Derived.Deep.RegionHeld3
import Derived.Deep.RegionWith
import Derived.Deep.DeepCutAuto
namespace Go.Proofs.Ytgodpbiojekicaa
open Go.RowKit
set_option linter.unusedVariables false
set_option maxRecDepth 100000

set_option maxHeartbeats 4000000 in
theorem walk_FnExactSameGrid (vs0 vs1 : List Value) (w : World) (h0 : Rd Try.prog w 44 vs0) (h1 : Rd Try.prog w 44 vs1) :
    Calls Try.prog 7 #[.agg vs0.toArray, .agg vs1.toArray] w fun e w' => e = .returned (.bool true) ∧ Below w.heap.size w w' := by
  obtain ⟨W, H, A, cs, c, rfl, ha, hm, _, _⟩ := rd_grid h0
  obtain ⟨W', H', A', ds, c', rfl, hb', hm', _, _⟩ := rd_grid h1
  clear h0 h1
  by_cases hbig : (1048576 : Int) < cs.length
  · have HS1 : Hid (szR 1048576 cs.length = -1) := szR_no hbig
    go_enter Try.func7, Try.ntmps7
    go_wp2_with fail
    have t0 : Below w.heap.size w ((w.alloc (.cells #[.int .i64 W, .int .i64 H, .slice A cs.length c] 44)).alloc (.cells #[.int .i64 W', .int .i64 H', .slice A' ds.length c'] 44)) := by (repeat (first | exact Below.refl _ _ | (refine Below.alloc ?_ (by first | omega | (simp; done) | (simp; omega)) _) | (refine Below.drew ?_) | (refine below_drewN ?_ _) | (refine below_at1 ?_ (by first | omega | (simp; done) | (simp; omega))) | (refine Below.setCell ?_ (by first | omega | (simp; done) | (simp; omega)) _) | (refine Below.trans ?_ (Below.mono (by assumption) (by first | omega | (simp; done) | (simp; omega))))))
    refine (szGrid_any W H A cs.length c 1048576 _ hm (by omega) (by omega)).mono ?_
    rintro e w1 ⟨he, hb1⟩
    rw [HS1.out] at he
    subst he
    obtain ⟨Ba1, qa1, ra1, za1⟩ := keep_blk hb1 (g := w.heap.size) (by repeat (first | assumption | exact heap_alloc_at _ (by first | rfl | (simp; done) | omega) | refine heap_alloc_of _ ?_ | refine heap_setCell_of _ (by first | omega | (simp; done) | (simp; omega)) ?_ | refine heap_setCell_same _ ?_ | exact heap_at1_same (by first | omega | (simp; done) | (simp; omega)) | refine heap_at1_of (by first | omega | (simp; done) | (simp; omega)) ?_))
    obtain ⟨Bb1, qb1, rb1, zb1⟩ := keep_blk hb1 (g := w.heap.size + 1) (by repeat (first | assumption | exact heap_alloc_at _ (by first | rfl | (simp; done) | omega) | refine heap_alloc_of _ ?_ | refine heap_setCell_of _ (by first | omega | (simp; done) | (simp; omega)) ?_ | refine heap_setCell_same _ ?_ | exact heap_at1_same (by first | omega | (simp; done) | (simp; omega)) | refine heap_at1_of (by first | omega | (simp; done) | (simp; omega)) ?_))
    have t1 := t0.trans (hb1.mono t0.size)
    go_wp2_with fail
    go_ret
    exact ⟨rfl, t1⟩
  have HS1 : Hid (szR 1048576 cs.length = 1048576 - cs.length) := szR_yes hbig
  have hp1 : ¬ (1048576 : Int) - cs.length < 0 := by omega
  by_cases hbig2 : (1048576 : Int) - cs.length < ds.length
  · have HS2 : Hid (szR (1048576 - cs.length) ds.length = -1) := szR_no hbig2
    go_enter Try.func7, Try.ntmps7
    go_wp2_with fail
    have t0 : Below w.heap.size w ((w.alloc (.cells #[.int .i64 W, .int .i64 H, .slice A cs.length c] 44)).alloc (.cells #[.int .i64 W', .int .i64 H', .slice A' ds.length c'] 44)) := by (repeat (first | exact Below.refl _ _ | (refine Below.alloc ?_ (by first | omega | (simp; done) | (simp; omega)) _) | (refine Below.drew ?_) | (refine below_drewN ?_ _) | (refine below_at1 ?_ (by first | omega | (simp; done) | (simp; omega))) | (refine Below.setCell ?_ (by first | omega | (simp; done) | (simp; omega)) _) | (refine Below.trans ?_ (Below.mono (by assumption) (by first | omega | (simp; done) | (simp; omega))))))
    refine (szGrid_any W H A cs.length c 1048576 _ hm (by omega) (by omega)).mono ?_
    rintro e w1 ⟨he, hb1⟩
    rw [HS1.out] at he
    subst he
    obtain ⟨Ba1, qa1, ra1, za1⟩ := keep_blk hb1 (g := w.heap.size) (by repeat (first | assumption | exact heap_alloc_at _ (by first | rfl | (simp; done) | omega) | refine heap_alloc_of _ ?_ | refine heap_setCell_of _ (by first | omega | (simp; done) | (simp; omega)) ?_ | refine heap_setCell_same _ ?_ | exact heap_at1_same (by first | omega | (simp; done) | (simp; omega)) | refine heap_at1_of (by first | omega | (simp; done) | (simp; omega)) ?_))
    obtain ⟨Bb1, qb1, rb1, zb1⟩ := keep_blk hb1 (g := w.heap.size + 1) (by repeat (first | assumption | exact heap_alloc_at _ (by first | rfl | (simp; done) | omega) | refine heap_alloc_of _ ?_ | refine heap_setCell_of _ (by first | omega | (simp; done) | (simp; omega)) ?_ | refine heap_setCell_same _ ?_ | exact heap_at1_same (by first | omega | (simp; done) | (simp; omega)) | refine heap_at1_of (by first | omega | (simp; done) | (simp; omega)) ?_))
    have t1 := t0.trans (hb1.mono t0.size)
    go_wp2_with fail
    refine (szGrid_any W' H' A' ds.length c' _ _ hm' (by omega) (by omega)).mono ?_
    rintro e w2 ⟨he, hb2⟩
    rw [HS2.out] at he
    subst he
    obtain ⟨Ba2, qa2, ra2, za2⟩ := keep_blk hb2 (g := w.heap.size) (by repeat (first | assumption | exact heap_alloc_at _ (by first | rfl | (simp; done) | omega) | refine heap_alloc_of _ ?_ | refine heap_setCell_of _ (by first | omega | (simp; done) | (simp; omega)) ?_ | refine heap_setCell_same _ ?_ | exact heap_at1_same (by first | omega | (simp; done) | (simp; omega)) | refine heap_at1_of (by first | omega | (simp; done) | (simp; omega)) ?_))
    obtain ⟨Bb2, qb2, rb2, zb2⟩ := keep_blk hb2 (g := w.heap.size + 1) (by repeat (first | assumption | exact heap_alloc_at _ (by first | rfl | (simp; done) | omega) | refine heap_alloc_of _ ?_ | refine heap_setCell_of _ (by first | omega | (simp; done) | (simp; omega)) ?_ | refine heap_setCell_same _ ?_ | exact heap_at1_same (by first | omega | (simp; done) | (simp; omega)) | refine heap_at1_of (by first | omega | (simp; done) | (simp; omega)) ?_))
    clear Ba1 qa1 ra1 Bb1 qb1 rb1
    have t2 := t1.trans (hb2.mono t1.size)
    go_wp2_with fail
    go_ret
    exact ⟨rfl, t2⟩
  have HS2 : Hid (szR (1048576 - cs.length) ds.length = 1048576 - cs.length - ds.length) := szR_yes hbig2
  have hp2 : ¬ (1048576 : Int) - cs.length - ds.length < 0 := by omega
  have hlc : cs.length ≤ 1048576 := by omega
  have hld : ds.length ≤ 1048576 := by omega
  go_enter Try.func7, Try.ntmps7
  go_wp2_with fail
  have t0 : Below w.heap.size w ((w.alloc (.cells #[.int .i64 W, .int .i64 H, .slice A cs.length c] 44)).alloc (.cells #[.int .i64 W', .int .i64 H', .slice A' ds.length c'] 44)) := by (repeat (first | exact Below.refl _ _ | (refine Below.alloc ?_ (by first | omega | (simp; done) | (simp; omega)) _) | (refine Below.drew ?_) | (refine below_drewN ?_ _) | (refine below_at1 ?_ (by first | omega | (simp; done) | (simp; omega))) | (refine Below.setCell ?_ (by first | omega | (simp; done) | (simp; omega)) _) | (refine Below.trans ?_ (Below.mono (by assumption) (by first | omega | (simp; done) | (simp; omega))))))
  refine (szGrid_any W H A cs.length c 1048576 _ hm (by omega) (by omega)).mono ?_
  rintro e w1 ⟨he, hb1⟩
  rw [HS1.out] at he
  subst he
  obtain ⟨Ba1, qa1, ra1, za1⟩ := keep_blk hb1 (g := w.heap.size) (by repeat (first | assumption | exact heap_alloc_at _ (by first | rfl | (simp; done) | omega) | refine heap_alloc_of _ ?_ | refine heap_setCell_of _ (by first | omega | (simp; done) | (simp; omega)) ?_ | refine heap_setCell_same _ ?_ | exact heap_at1_same (by first | omega | (simp; done) | (simp; omega)) | refine heap_at1_of (by first | omega | (simp; done) | (simp; omega)) ?_))
  obtain ⟨Bb1, qb1, rb1, zb1⟩ := keep_blk hb1 (g := w.heap.size + 1) (by repeat (first | assumption | exact heap_alloc_at _ (by first | rfl | (simp; done) | omega) | refine heap_alloc_of _ ?_ | refine heap_setCell_of _ (by first | omega | (simp; done) | (simp; omega)) ?_ | refine heap_setCell_same _ ?_ | exact heap_at1_same (by first | omega | (simp; done) | (simp; omega)) | refine heap_at1_of (by first | omega | (simp; done) | (simp; omega)) ?_))
  have t1 := t0.trans (hb1.mono t0.size)
  go_wp2_with fail
  refine (szGrid_any W' H' A' ds.length c' _ _ hm' (by omega) (by omega)).mono ?_
  rintro e w2 ⟨he, hb2⟩
  rw [HS2.out] at he
  subst he
  obtain ⟨Ba2, qa2, ra2, za2⟩ := keep_blk hb2 (g := w.heap.size) (by repeat (first | assumption | exact heap_alloc_at _ (by first | rfl | (simp; done) | omega) | refine heap_alloc_of _ ?_ | refine heap_setCell_of _ (by first | omega | (simp; done) | (simp; omega)) ?_ | refine heap_setCell_same _ ?_ | exact heap_at1_same (by first | omega | (simp; done) | (simp; omega)) | refine heap_at1_of (by first | omega | (simp; done) | (simp; omega)) ?_))
  obtain ⟨Bb2, qb2, rb2, zb2⟩ := keep_blk hb2 (g := w.heap.size + 1) (by repeat (first | assumption | exact heap_alloc_at _ (by first | rfl | (simp; done) | omega) | refine heap_alloc_of _ ?_ | refine heap_setCell_of _ (by first | omega | (simp; done) | (simp; omega)) ?_ | refine heap_setCell_same _ ?_ | exact heap_at1_same (by first | omega | (simp; done) | (simp; omega)) | refine heap_at1_of (by first | omega | (simp; done) | (simp; omega)) ?_))
  clear Ba1 qa1 ra1 Bb1 qb1 rb1
  have t2 := t1.trans (hb2.mono t1.size)
  go_wp2_with fail
  have ca2_0 : w2.cell? ⟨w.heap.size, 0, none⟩ = some (.int .i64 W) := by rw [qa2]; rfl
  have ca2_1 : w2.cell? ⟨w.heap.size, 1, none⟩ = some (.int .i64 H) := by rw [qa2]; rfl
  have ca2_2 : w2.cell? ⟨w.heap.size, 2, none⟩ = some (.slice A cs.length c) := by rw [qa2]; rfl
  have cb2_0 : w2.cell? ⟨w.heap.size + 1, 0, none⟩ = some (.int .i64 W') := by rw [qb2]; rfl
  have cb2_1 : w2.cell? ⟨w.heap.size + 1, 1, none⟩ = some (.int .i64 H') := by rw [qb2]; rfl
  have cb2_2 : w2.cell? ⟨w.heap.size + 1, 2, none⟩ = some (.slice A' ds.length c') := by rw [qb2]; rfl
  go_region_held3 (fun w' => Below w2.heap.size w2 w' ∧ w'.cell? ⟨w.heap.size, 0, none⟩ = some (.int .i64 W) ∧ w'.cell? ⟨w.heap.size, 1, none⟩ = some (.int .i64 H) ∧ w'.cell? ⟨w.heap.size, 2, none⟩ = some (.slice A cs.length c) ∧ w'.cell? ⟨w.heap.size + 1, 0, none⟩ = some (.int .i64 W') ∧ w'.cell? ⟨w.heap.size + 1, 1, none⟩ = some (.int .i64 H') ∧ w'.cell? ⟨w.heap.size + 1, 2, none⟩ = some (.slice A' ds.length c'))
    (first | exact ⟨Below.drew (Below.refl _ _), by simpa using ca2_0, by simpa using ca2_1, by simpa using ca2_2, by simpa using cb2_0, by simpa using cb2_1, by simpa using cb2_2⟩ | assumption | (refine ⟨?_, ?_, ?_, ?_, ?_, ?_, ?_⟩ <;> assumption))
    ((first | (go_at_call_of 30 W; refine (toGrid_any W H _ _ cs _ (ha.below (Below.drew t2)) hlc).mono ?_; rintro e w3 ⟨A3, c3, rfl, _, hs3, hi3, hb3⟩; have s3 : Below w2.heap.size w2 _ := (Below.drew (Below.refl _ _)).trans hb3; have t3 := t2.trans (s3.mono t2.size); have hkeep_s3 := And.intro (s3) (And.intro ((s3.cell (World.block_lt_of_cell? w2 _ ca2_0)).trans ca2_0) (And.intro ((s3.cell (World.block_lt_of_cell? w2 _ ca2_1)).trans ca2_1) (And.intro ((s3.cell (World.block_lt_of_cell? w2 _ ca2_2)).trans ca2_2) (And.intro ((s3.cell (World.block_lt_of_cell? w2 _ cb2_0)).trans cb2_0) (And.intro ((s3.cell (World.block_lt_of_cell? w2 _ cb2_1)).trans cb2_1) ((s3.cell (World.block_lt_of_cell? w2 _ cb2_2)).trans cb2_2))))))) | (go_at_call_of 30 W'; refine (toGrid_any W' H' _ _ ds _ (hb'.below (t3)) hld).mono ?_; rintro e w4 ⟨A4, c4, rfl, _, hs4, hi4, hb4⟩; have s4 : Below w2.heap.size w2 _ := s3.trans (hb4.mono s3.size); have t4 := t2.trans (s4.mono t2.size); have hkeep_s4 := And.intro (s4) (And.intro ((s4.cell (World.block_lt_of_cell? w2 _ ca2_0)).trans ca2_0) (And.intro ((s4.cell (World.block_lt_of_cell? w2 _ ca2_1)).trans ca2_1) (And.intro ((s4.cell (World.block_lt_of_cell? w2 _ ca2_2)).trans ca2_2) (And.intro ((s4.cell (World.block_lt_of_cell? w2 _ cb2_0)).trans cb2_0) (And.intro ((s4.cell (World.block_lt_of_cell? w2 _ cb2_1)).trans cb2_1) ((s4.cell (World.block_lt_of_cell? w2 _ cb2_2)).trans cb2_2))))))) | (go_at_call 29; refine (sameGrid_spec W H W' H' _ _ _ _ cs ds _ (hs3.below hb4) hs4 hlc hld).mono ?_; rintro e w5 ⟨rfl, hb5⟩; have s5 : Below w2.heap.size w2 _ := s4.trans (hb5.mono s4.size); have hkeep_s5 := And.intro (s5) (And.intro ((s5.cell (World.block_lt_of_cell? w2 _ ca2_0)).trans ca2_0) (And.intro ((s5.cell (World.block_lt_of_cell? w2 _ ca2_1)).trans ca2_1) (And.intro ((s5.cell (World.block_lt_of_cell? w2 _ ca2_2)).trans ca2_2) (And.intro ((s5.cell (World.block_lt_of_cell? w2 _ cb2_0)).trans cb2_0) (And.intro ((s5.cell (World.block_lt_of_cell? w2 _ cb2_1)).trans cb2_1) ((s5.cell (World.block_lt_of_cell? w2 _ cb2_2)).trans cb2_2)))))))))
  clear hkeep_s3 hkeep_s4 hkeep_s5
  have t5 := t2.trans (s5.mono t2.size)
  have Ba5 := (s5.block _ za2).trans Ba2
  have qa5 : ∀ i, w5.cell? ⟨w.heap.size, i, none⟩ = _ := fun i => cell_of_row w5 _ i _ _ (0, 0) Ba5
  have ra5 : ∀ i, w5.frozen? ⟨w.heap.size, i, none⟩ = false := fun i => by simp [World.frozen?, Ba5]
  have za5 : w.heap.size < w5.heap.size := Nat.lt_of_lt_of_le za2 s5.size
  have Bb5 := (s5.block _ zb2).trans Bb2
  have qb5 : ∀ i, w5.cell? ⟨w.heap.size + 1, i, none⟩ = _ := fun i => cell_of_row w5 _ i _ _ (0, 0) Bb5
  have rb5 : ∀ i, w5.frozen? ⟨w.heap.size + 1, i, none⟩ = false := fun i => by simp [World.frozen?, Bb5]
  have zb5 : w.heap.size + 1 < w5.heap.size := Nat.lt_of_lt_of_le zb2 s5.size
  clear Ba2 qa2 ra2 ca2_0 ca2_1 ca2_2 Bb2 qb2 rb2 cb2_0 cb2_1 cb2_2
  generalize HS : sameB W H W' H' cs ds = S
  go_wp2_with fail
  refine (toGrid_any W H _ _ cs _ (ha.below t5) hlc).mono ?_
  rintro e w6 ⟨A6, c6, rfl, _, hs6, hi6, hb6⟩
  obtain ⟨Ba6, qa6, ra6, za6⟩ := keep_blk hb6 (g := w.heap.size) (by repeat (first | assumption | exact heap_alloc_at _ (by first | rfl | (simp; done) | omega) | refine heap_alloc_of _ ?_ | refine heap_setCell_of _ (by first | omega | (simp; done) | (simp; omega)) ?_ | refine heap_setCell_same _ ?_ | exact heap_at1_same (by first | omega | (simp; done) | (simp; omega)) | refine heap_at1_of (by first | omega | (simp; done) | (simp; omega)) ?_))
  obtain ⟨Bb6, qb6, rb6, zb6⟩ := keep_blk hb6 (g := w.heap.size + 1) (by repeat (first | assumption | exact heap_alloc_at _ (by first | rfl | (simp; done) | omega) | refine heap_alloc_of _ ?_ | refine heap_setCell_of _ (by first | omega | (simp; done) | (simp; omega)) ?_ | refine heap_setCell_same _ ?_ | exact heap_at1_same (by first | omega | (simp; done) | (simp; omega)) | refine heap_at1_of (by first | omega | (simp; done) | (simp; omega)) ?_))
  clear Ba5 qa5 ra5 Bb5 qb5 rb5
  have t6 := t5.trans (hb6.mono t5.size)
  go_wp2_with fail
  have u6 : Below w.heap.size w (w6.alloc (.cells #[.int .i64 W, .int .i64 H, .slice A6 cs.length c6] 49)) := t6.alloc t6.size _
  refine (toGrid_any W' H' _ _ ds _ (hb'.below u6) hld).mono ?_
  rintro e w7 ⟨A7, c7, rfl, _, hs7, hi7, hb7⟩
  obtain ⟨Ba7, qa7, ra7, za7⟩ := keep_blk hb7 (g := w.heap.size) (by repeat (first | assumption | exact heap_alloc_at _ (by first | rfl | (simp; done) | omega) | refine heap_alloc_of _ ?_ | refine heap_setCell_of _ (by first | omega | (simp; done) | (simp; omega)) ?_ | refine heap_setCell_same _ ?_ | exact heap_at1_same (by first | omega | (simp; done) | (simp; omega)) | refine heap_at1_of (by first | omega | (simp; done) | (simp; omega)) ?_))
  obtain ⟨Bb7, qb7, rb7, zb7⟩ := keep_blk hb7 (g := w.heap.size + 1) (by repeat (first | assumption | exact heap_alloc_at _ (by first | rfl | (simp; done) | omega) | refine heap_alloc_of _ ?_ | refine heap_setCell_of _ (by first | omega | (simp; done) | (simp; omega)) ?_ | refine heap_setCell_same _ ?_ | exact heap_at1_same (by first | omega | (simp; done) | (simp; omega)) | refine heap_at1_of (by first | omega | (simp; done) | (simp; omega)) ?_))
  obtain ⟨Bx7, qx7, rx7, zx7⟩ := keep_blk hb7 (g := w6.heap.size) (by repeat (first | assumption | exact heap_alloc_at _ (by first | rfl | (simp; done) | omega) | refine heap_alloc_of _ ?_ | refine heap_setCell_of _ (by first | omega | (simp; done) | (simp; omega)) ?_ | refine heap_setCell_same _ ?_ | exact heap_at1_same (by first | omega | (simp; done) | (simp; omega)) | refine heap_at1_of (by first | omega | (simp; done) | (simp; omega)) ?_))
  clear Ba6 qa6 ra6 Bb6 qb6 rb6
  have t7 := u6.trans (hb7.mono u6.size)
  have hb67 : Below w6.heap.size w6 w7 := ((Below.refl _ _).alloc (Nat.le_refl _) _).trans (hb7.mono (by simp))
  have hs67 := hs6.below hb67
  go_wp2_with fail
  have hb70 : Below w7.heap.size w7 (w7.alloc (.cells #[.int .i64 W', .int .i64 H', .slice A7 ds.length c7] 49)) := (Below.refl _ _).alloc (Nat.le_refl _) _
  refine (sameGrid_impl W H W' H' _ _ _ _ cs ds _ (hs67.below hb70) (hs7.below hb70) hlc hld).mono ?_
  rintro e w8 ⟨rfl, hb8⟩
  obtain ⟨Ba8, qa8, ra8, za8⟩ := keep_blk hb8 (g := w.heap.size) (by repeat (first | assumption | exact heap_alloc_at _ (by first | rfl | (simp; done) | omega) | refine heap_alloc_of _ ?_ | refine heap_setCell_of _ (by first | omega | (simp; done) | (simp; omega)) ?_ | refine heap_setCell_same _ ?_ | exact heap_at1_same (by first | omega | (simp; done) | (simp; omega)) | refine heap_at1_of (by first | omega | (simp; done) | (simp; omega)) ?_))
  obtain ⟨Bb8, qb8, rb8, zb8⟩ := keep_blk hb8 (g := w.heap.size + 1) (by repeat (first | assumption | exact heap_alloc_at _ (by first | rfl | (simp; done) | omega) | refine heap_alloc_of _ ?_ | refine heap_setCell_of _ (by first | omega | (simp; done) | (simp; omega)) ?_ | refine heap_setCell_same _ ?_ | exact heap_at1_same (by first | omega | (simp; done) | (simp; omega)) | refine heap_at1_of (by first | omega | (simp; done) | (simp; omega)) ?_))
  obtain ⟨Bx8, qx8, rx8, zx8⟩ := keep_blk hb8 (g := w6.heap.size) (by repeat (first | assumption | exact heap_alloc_at _ (by first | rfl | (simp; done) | omega) | refine heap_alloc_of _ ?_ | refine heap_setCell_of _ (by first | omega | (simp; done) | (simp; omega)) ?_ | refine heap_setCell_same _ ?_ | exact heap_at1_same (by first | omega | (simp; done) | (simp; omega)) | refine heap_at1_of (by first | omega | (simp; done) | (simp; omega)) ?_))
  obtain ⟨By8, qy8, ry8, zy8⟩ := keep_blk hb8 (g := w7.heap.size) (by repeat (first | assumption | exact heap_alloc_at _ (by first | rfl | (simp; done) | omega) | refine heap_alloc_of _ ?_ | refine heap_setCell_of _ (by first | omega | (simp; done) | (simp; omega)) ?_ | refine heap_setCell_same _ ?_ | exact heap_at1_same (by first | omega | (simp; done) | (simp; omega)) | refine heap_at1_of (by first | omega | (simp; done) | (simp; omega)) ?_))
  clear Ba7 qa7 ra7 Bb7 qb7 rb7 Bx7 qx7 rx7
  have hb78 := hb70.trans (hb8.mono hb70.size)
  have t8 := t7.trans (hb78.mono t7.size)
  have hx8 := hs67.below hb78
  have hy8 := hs7.below hb78
  rw [HS]
  go_wp2_with fail
  have ca8_0 : w8.cell? ⟨w.heap.size, 0, none⟩ = some (.int .i64 W) := by rw [qa8]; rfl
  have ca8_1 : w8.cell? ⟨w.heap.size, 1, none⟩ = some (.int .i64 H) := by rw [qa8]; rfl
  have ca8_2 : w8.cell? ⟨w.heap.size, 2, none⟩ = some (.slice A cs.length c) := by rw [qa8]; rfl
  have cb8_0 : w8.cell? ⟨w.heap.size + 1, 0, none⟩ = some (.int .i64 W') := by rw [qb8]; rfl
  have cb8_1 : w8.cell? ⟨w.heap.size + 1, 1, none⟩ = some (.int .i64 H') := by rw [qb8]; rfl
  have cb8_2 : w8.cell? ⟨w.heap.size + 1, 2, none⟩ = some (.slice A' ds.length c') := by rw [qb8]; rfl
  have cx8_0 : w8.cell? ⟨w6.heap.size, 0, none⟩ = some (.int .i64 W) := by rw [qx8]; rfl
  have cx8_1 : w8.cell? ⟨w6.heap.size, 1, none⟩ = some (.int .i64 H) := by rw [qx8]; rfl
  have cx8_2 : w8.cell? ⟨w6.heap.size, 2, none⟩ = some (.slice A6 cs.length c6) := by rw [qx8]; rfl
  have cy8_0 : w8.cell? ⟨w7.heap.size, 0, none⟩ = some (.int .i64 W') := by rw [qy8]; rfl
  have cy8_1 : w8.cell? ⟨w7.heap.size, 1, none⟩ = some (.int .i64 H') := by rw [qy8]; rfl
  have cy8_2 : w8.cell? ⟨w7.heap.size, 2, none⟩ = some (.slice A7 ds.length c7) := by rw [qy8]; rfl
  go_region_held3 (fun w' => Below w8.heap.size w8 w' ∧ w'.cell? ⟨w.heap.size, 0, none⟩ = some (.int .i64 W) ∧ w'.cell? ⟨w.heap.size, 1, none⟩ = some (.int .i64 H) ∧ w'.cell? ⟨w.heap.size, 2, none⟩ = some (.slice A cs.length c) ∧ w'.cell? ⟨w6.heap.size, 0, none⟩ = some (.int .i64 W) ∧ w'.cell? ⟨w6.heap.size, 1, none⟩ = some (.int .i64 H) ∧ w'.cell? ⟨w6.heap.size, 2, none⟩ = some (.slice A6 cs.length c6))
    (first | exact ⟨Below.drew (Below.refl _ _), by simpa using ca8_0, by simpa using ca8_1, by simpa using ca8_2, by simpa using cx8_0, by simpa using cx8_1, by simpa using cx8_2⟩ | assumption | (refine ⟨?_, ?_, ?_, ?_, ?_, ?_, ?_⟩ <;> assumption))
    ((first | (go_at_call 30; refine (toGrid_any W H _ _ cs _ (ha.below (Below.drew t8)) hlc).mono ?_; rintro e w9 ⟨A9, c9, rfl, _, hs9, hi9, hb9⟩; have s9 : Below w8.heap.size w8 _ := (Below.drew (Below.refl _ _)).trans hb9; have t9 := t8.trans (s9.mono t8.size); have hkeep_s9 := And.intro (s9) (And.intro ((s9.cell (World.block_lt_of_cell? w8 _ ca8_0)).trans ca8_0) (And.intro ((s9.cell (World.block_lt_of_cell? w8 _ ca8_1)).trans ca8_1) (And.intro ((s9.cell (World.block_lt_of_cell? w8 _ ca8_2)).trans ca8_2) (And.intro ((s9.cell (World.block_lt_of_cell? w8 _ cx8_0)).trans cx8_0) (And.intro ((s9.cell (World.block_lt_of_cell? w8 _ cx8_1)).trans cx8_1) ((s9.cell (World.block_lt_of_cell? w8 _ cx8_2)).trans cx8_2))))))) | (go_at_call 32; refine (eqGrid_same W H _ _ _ _ cs _ (hx8.below s9) hs9 (by omega)).mono ?_; rintro e w10 ⟨rfl, hb10⟩; have s10 : Below w8.heap.size w8 _ := s9.trans (hb10.mono s9.size); have hkeep_s10 := And.intro (s10) (And.intro ((s10.cell (World.block_lt_of_cell? w8 _ ca8_0)).trans ca8_0) (And.intro ((s10.cell (World.block_lt_of_cell? w8 _ ca8_1)).trans ca8_1) (And.intro ((s10.cell (World.block_lt_of_cell? w8 _ ca8_2)).trans ca8_2) (And.intro ((s10.cell (World.block_lt_of_cell? w8 _ cx8_0)).trans cx8_0) (And.intro ((s10.cell (World.block_lt_of_cell? w8 _ cx8_1)).trans cx8_1) ((s10.cell (World.block_lt_of_cell? w8 _ cx8_2)).trans cx8_2)))))))))
  clear hkeep_s9 hkeep_s10
  have t10 := t8.trans (s10.mono t8.size)
  have Bb10 := (s10.block _ zb8).trans Bb8
  have qb10 : ∀ i, w10.cell? ⟨w.heap.size + 1, i, none⟩ = _ := fun i => cell_of_row w10 _ i _ _ (0, 0) Bb10
  have By10 := (s10.block _ zy8).trans By8
  have qy10 : ∀ i, w10.cell? ⟨w7.heap.size, i, none⟩ = _ := fun i => cell_of_row w10 _ i _ _ (0, 0) By10
  have cb10_0 : w10.cell? ⟨w.heap.size + 1, 0, none⟩ = some (.int .i64 W') := by rw [qb10]; rfl
  have cb10_1 : w10.cell? ⟨w.heap.size + 1, 1, none⟩ = some (.int .i64 H') := by rw [qb10]; rfl
  have cb10_2 : w10.cell? ⟨w.heap.size + 1, 2, none⟩ = some (.slice A' ds.length c') := by rw [qb10]; rfl
  have cy10_0 : w10.cell? ⟨w7.heap.size, 0, none⟩ = some (.int .i64 W') := by rw [qy10]; rfl
  have cy10_1 : w10.cell? ⟨w7.heap.size, 1, none⟩ = some (.int .i64 H') := by rw [qy10]; rfl
  have cy10_2 : w10.cell? ⟨w7.heap.size, 2, none⟩ = some (.slice A7 ds.length c7) := by rw [qy10]; rfl
  clear Ba8 qa8 ra8 ca8_0 ca8_1 ca8_2 Bb8 qb8 rb8 cb8_0 cb8_1 cb8_2 Bx8 qx8 rx8 cx8_0 cx8_1 cx8_2 By8 qy8 ry8 cy8_0 cy8_1 cy8_2
  have hy10 := hy8.below s10
  go_wp2_with fail
  go_region_held3 (fun w' => Below w10.heap.size w10 w' ∧ w'.cell? ⟨w.heap.size + 1, 0, none⟩ = some (.int .i64 W') ∧ w'.cell? ⟨w.heap.size + 1, 1, none⟩ = some (.int .i64 H') ∧ w'.cell? ⟨w.heap.size + 1, 2, none⟩ = some (.slice A' ds.length c') ∧ w'.cell? ⟨w7.heap.size, 0, none⟩ = some (.int .i64 W') ∧ w'.cell? ⟨w7.heap.size, 1, none⟩ = some (.int .i64 H') ∧ w'.cell? ⟨w7.heap.size, 2, none⟩ = some (.slice A7 ds.length c7))
    (first | exact ⟨Below.drew (Below.refl _ _), by simpa using cb10_0, by simpa using cb10_1, by simpa using cb10_2, by simpa using cy10_0, by simpa using cy10_1, by simpa using cy10_2⟩ | assumption | (refine ⟨?_, ?_, ?_, ?_, ?_, ?_, ?_⟩ <;> assumption))
    ((first | (go_at_call 30; refine (toGrid_any W' H' _ _ ds _ (hb'.below (Below.drew t10)) hld).mono ?_; rintro e w11 ⟨A11, c11, rfl, _, hs11, hi11, hb11⟩; have s11 : Below w10.heap.size w10 _ := (Below.drew (Below.refl _ _)).trans hb11; have hkeep_s11 := And.intro (s11) (And.intro ((s11.cell (World.block_lt_of_cell? w10 _ cb10_0)).trans cb10_0) (And.intro ((s11.cell (World.block_lt_of_cell? w10 _ cb10_1)).trans cb10_1) (And.intro ((s11.cell (World.block_lt_of_cell? w10 _ cb10_2)).trans cb10_2) (And.intro ((s11.cell (World.block_lt_of_cell? w10 _ cy10_0)).trans cy10_0) (And.intro ((s11.cell (World.block_lt_of_cell? w10 _ cy10_1)).trans cy10_1) ((s11.cell (World.block_lt_of_cell? w10 _ cy10_2)).trans cy10_2))))))) | (go_at_call 32; refine (eqGrid_same W' H' _ _ _ _ ds _ (hy10.below s11) hs11 (by omega)).mono ?_; rintro e w12 ⟨rfl, hb12⟩; have s12 : Below w10.heap.size w10 _ := s11.trans (hb12.mono s11.size); have hkeep_s12 := And.intro (s12) (And.intro ((s12.cell (World.block_lt_of_cell? w10 _ cb10_0)).trans cb10_0) (And.intro ((s12.cell (World.block_lt_of_cell? w10 _ cb10_1)).trans cb10_1) (And.intro ((s12.cell (World.block_lt_of_cell? w10 _ cb10_2)).trans cb10_2) (And.intro ((s12.cell (World.block_lt_of_cell? w10 _ cy10_0)).trans cy10_0) (And.intro ((s12.cell (World.block_lt_of_cell? w10 _ cy10_1)).trans cy10_1) ((s12.cell (World.block_lt_of_cell? w10 _ cy10_2)).trans cy10_2)))))))))
  clear hkeep_s11 hkeep_s12
  go_wp2_with fail
  go_ret
  exact ⟨rfl, t10.trans (s12.mono t10.size)⟩
end Go.Proofs.Ytgodpbiojekicaa
