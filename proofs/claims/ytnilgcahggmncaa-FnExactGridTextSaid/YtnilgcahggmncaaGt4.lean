/- The law of GridText. -/
import Derived.Test.YtnilgcahggmncaaGt2
import Derived.Test.YtnilgcahggmncaaGt3
import Derived.Test.YtnilgcahggmncaaGm
import Derived.Deep.RegionHeld3
import Derived.Deep.DeepCutAuto
namespace Go.Proofs.Ytnilgcahggmncaa
open Go.RowKit
set_option linter.unusedVariables false
set_option maxRecDepth 100000

set_option maxHeartbeats 8000000 in
theorem walk_FnExactGridText (vs0 : List Value) (w : World) (h0 : Rd Try.prog w 24 vs0) :
    Calls Try.prog 3 #[.agg vs0.toArray] w fun e w' => e = .returned (.bool true) ∧ Below w.heap.size w w' := by
  obtain ⟨W, H, A, cs, c, rfl, ha, hm, hW, hH⟩ := rd_grid h0
  clear h0
  by_cases hbig : (1048576 : Int) < cs.length
  · have HS1 : Hid (szR 1048576 cs.length = -1) := szR_no hbig
    go_enter Try.func3, Try.ntmps3
    go_wp2_with fail
    have t0 : Below w.heap.size w (w.alloc (.cells #[.int .i64 W, .int .i64 H, .slice A cs.length c] 24)) := (Below.refl _ _).alloc (Nat.le_refl _) _
    refine (szGrid_any W H A cs.length c 1048576 _ hm (by omega) (by omega)).mono ?_
    rintro e w1 ⟨he, hb1⟩
    rw [HS1.out] at he
    subst he
    obtain ⟨Ba1, qa1, ra1, za1⟩ := keep_blk hb1 (g := w.heap.size) (by repeat (first | assumption | exact heap_alloc_at _ (by first | rfl | (simp; done) | omega) | refine heap_alloc_of _ ?_ | refine heap_setCell_of _ (by first | omega | (simp; done) | (simp; omega)) ?_ | refine heap_setCell_same _ ?_ | exact heap_at1_same (by first | omega | (simp; done) | (simp; omega)) | refine heap_at1_of (by first | omega | (simp; done) | (simp; omega)) ?_))
    have t1 := t0.trans (hb1.mono t0.size)
    go_wp2_with fail
    go_ret
    exact ⟨rfl, t1⟩
  have HS1 : Hid (szR 1048576 cs.length = 1048576 - cs.length) := szR_yes hbig
  have hp1 : ¬ (1048576 : Int) - cs.length < 0 := by omega
  have hlc : cs.length ≤ 1048576 := by omega
  go_enter Try.func3, Try.ntmps3
  go_wp2_with fail
  have t0 : Below w.heap.size w (w.alloc (.cells #[.int .i64 W, .int .i64 H, .slice A cs.length c] 24)) := (Below.refl _ _).alloc (Nat.le_refl _) _
  refine (szGrid_any W H A cs.length c 1048576 _ hm (by omega) (by omega)).mono ?_
  rintro e w1 ⟨he, hb1⟩
  rw [HS1.out] at he
  subst he
  obtain ⟨Ba1, qa1, ra1, za1⟩ := keep_blk hb1 (g := w.heap.size) (by repeat (first | assumption | exact heap_alloc_at _ (by first | rfl | (simp; done) | omega) | refine heap_alloc_of _ ?_ | refine heap_setCell_of _ (by first | omega | (simp; done) | (simp; omega)) ?_ | refine heap_setCell_same _ ?_ | exact heap_at1_same (by first | omega | (simp; done) | (simp; omega)) | refine heap_at1_of (by first | omega | (simp; done) | (simp; omega)) ?_))
  have t1 := t0.trans (hb1.mono t0.size)
  go_wp2_with fail
  refine (toGrid_any W H _ _ cs _ (ha.below t1) hlc).mono ?_
  rintro e w2 ⟨A2, c2, rfl, _, hs2, hi2, hb2⟩
  obtain ⟨Ba2, qa2, ra2, za2⟩ := keep_blk hb2 (g := w.heap.size) (by repeat (first | assumption | exact heap_alloc_at _ (by first | rfl | (simp; done) | omega) | refine heap_alloc_of _ ?_ | refine heap_setCell_of _ (by first | omega | (simp; done) | (simp; omega)) ?_ | refine heap_setCell_same _ ?_ | exact heap_at1_same (by first | omega | (simp; done) | (simp; omega)) | refine heap_at1_of (by first | omega | (simp; done) | (simp; omega)) ?_))
  clear Ba1 qa1 ra1
  have t2 := t1.trans (hb2.mono t1.size)
  go_wp2_with fail
  refine (gridText_spec W H _ _ cs _ hs2 hlc).mono ?_
  obtain ⟨us, HU⟩ : ∃ us, Hid (us = textR W H cs) := ⟨_, Lib.hid rfl⟩
  rw [← HU.out]
  rintro e w3 ⟨rfl, hb3⟩
  obtain ⟨Ba3, qa3, ra3, za3⟩ := keep_blk hb3 (g := w.heap.size) (by repeat (first | assumption | exact heap_alloc_at _ (by first | rfl | (simp; done) | omega) | refine heap_alloc_of _ ?_ | refine heap_setCell_of _ (by first | omega | (simp; done) | (simp; omega)) ?_ | refine heap_setCell_same _ ?_ | exact heap_at1_same (by first | omega | (simp; done) | (simp; omega)) | refine heap_at1_of (by first | omega | (simp; done) | (simp; omega)) ?_))
  clear Ba2 qa2 ra2
  have t3 := t2.trans (hb3.mono t2.size)
  go_wp2_with fail
  refine (toGrid_any W H _ _ cs _ (ha.below t3) hlc).mono ?_
  rintro e w4 ⟨A4, c4, rfl, ho4, hs4, hi4, hb4⟩
  obtain ⟨Ba4, qa4, ra4, za4⟩ := keep_blk hb4 (g := w.heap.size) (by repeat (first | assumption | exact heap_alloc_at _ (by first | rfl | (simp; done) | omega) | refine heap_alloc_of _ ?_ | refine heap_setCell_of _ (by first | omega | (simp; done) | (simp; omega)) ?_ | refine heap_setCell_same _ ?_ | exact heap_at1_same (by first | omega | (simp; done) | (simp; omega)) | refine heap_at1_of (by first | omega | (simp; done) | (simp; omega)) ?_))
  clear Ba3 qa3 ra3
  have t4 := t3.trans (hb4.mono t3.size)
  go_wp2_with fail
  have hb40 : Below w4.heap.size w4 (w4.alloc (.cells #[.int .i64 W, .int .i64 H, .slice A4 cs.length c4] 29)) := (Below.refl _ _).alloc (Nat.le_refl _) _
  refine (gridText_impl W H _ _ cs _ (hs4.below hb40) ho4.cap hlc).mono ?_
  rw [← HU.out]
  rintro e w5 ⟨rfl, hb5⟩
  obtain ⟨Ba5, qa5, ra5, za5⟩ := keep_blk hb5 (g := w.heap.size) (by repeat (first | assumption | exact heap_alloc_at _ (by first | rfl | (simp; done) | omega) | refine heap_alloc_of _ ?_ | refine heap_setCell_of _ (by first | omega | (simp; done) | (simp; omega)) ?_ | refine heap_setCell_same _ ?_ | exact heap_at1_same (by first | omega | (simp; done) | (simp; omega)) | refine heap_at1_of (by first | omega | (simp; done) | (simp; omega)) ?_))
  obtain ⟨Bx5, qx5, rx5, zx5⟩ := keep_blk hb5 (g := w4.heap.size) (by repeat (first | assumption | exact heap_alloc_at _ (by first | rfl | (simp; done) | omega) | refine heap_alloc_of _ ?_ | refine heap_setCell_of _ (by first | omega | (simp; done) | (simp; omega)) ?_ | refine heap_setCell_same _ ?_ | exact heap_at1_same (by first | omega | (simp; done) | (simp; omega)) | refine heap_at1_of (by first | omega | (simp; done) | (simp; omega)) ?_))
  clear Ba4 qa4 ra4
  have hb45 := hb40.trans (hb5.mono hb40.size)
  have t5 := t4.trans (hb45.mono t4.size)
  have hx5 := hs4.below hb45
  go_wp2_with fail
  have ca5_0 : w5.cell? ⟨w.heap.size, 0, none⟩ = some (.int .i64 W) := by rw [qa5]; rfl
  have ca5_1 : w5.cell? ⟨w.heap.size, 1, none⟩ = some (.int .i64 H) := by rw [qa5]; rfl
  have ca5_2 : w5.cell? ⟨w.heap.size, 2, none⟩ = some (.slice A cs.length c) := by rw [qa5]; rfl
  have cx5_0 : w5.cell? ⟨w4.heap.size, 0, none⟩ = some (.int .i64 W) := by rw [qx5]; rfl
  have cx5_1 : w5.cell? ⟨w4.heap.size, 1, none⟩ = some (.int .i64 H) := by rw [qx5]; rfl
  have cx5_2 : w5.cell? ⟨w4.heap.size, 2, none⟩ = some (.slice A4 cs.length c4) := by rw [qx5]; rfl
  go_region_held3 (fun w' => Below w5.heap.size w5 w' ∧ w'.cell? ⟨w.heap.size, 0, none⟩ = some (.int .i64 W) ∧ w'.cell? ⟨w.heap.size, 1, none⟩ = some (.int .i64 H) ∧ w'.cell? ⟨w.heap.size, 2, none⟩ = some (.slice A cs.length c) ∧ w'.cell? ⟨w4.heap.size, 0, none⟩ = some (.int .i64 W) ∧ w'.cell? ⟨w4.heap.size, 1, none⟩ = some (.int .i64 H) ∧ w'.cell? ⟨w4.heap.size, 2, none⟩ = some (.slice A4 cs.length c4))
    (first | exact ⟨Below.drew (Below.refl _ _), by simpa using ca5_0, by simpa using ca5_1, by simpa using ca5_2, by simpa using cx5_0, by simpa using cx5_1, by simpa using cx5_2⟩ | assumption | (refine ⟨?_, ?_, ?_, ?_, ?_, ?_, ?_⟩ <;> assumption))
    ((first | (go_at_call 15; refine (toGrid_any W H _ _ cs _ (ha.below (Below.drew t5)) hlc).mono ?_; rintro e w7 ⟨A7, c7, rfl, _, hs7, hi7, hb7⟩; have s7 : Below w5.heap.size w5 _ := (Below.drew (Below.refl _ _)).trans hb7; have hkeep_s7 := And.intro (s7) (And.intro ((s7.cell (World.block_lt_of_cell? w5 _ ca5_0)).trans ca5_0) (And.intro ((s7.cell (World.block_lt_of_cell? w5 _ ca5_1)).trans ca5_1) (And.intro ((s7.cell (World.block_lt_of_cell? w5 _ ca5_2)).trans ca5_2) (And.intro ((s7.cell (World.block_lt_of_cell? w5 _ cx5_0)).trans cx5_0) (And.intro ((s7.cell (World.block_lt_of_cell? w5 _ cx5_1)).trans cx5_1) ((s7.cell (World.block_lt_of_cell? w5 _ cx5_2)).trans cx5_2))))))) | (go_at_call 17; refine (eqGrid_same W H _ _ _ _ cs _ (hx5.below s7) hs7 (by omega)).mono ?_; rintro e w8 ⟨rfl, hb8⟩; have s8 : Below w5.heap.size w5 _ := s7.trans (hb8.mono s7.size); have hkeep_s8 := And.intro (s8) (And.intro ((s8.cell (World.block_lt_of_cell? w5 _ ca5_0)).trans ca5_0) (And.intro ((s8.cell (World.block_lt_of_cell? w5 _ ca5_1)).trans ca5_1) (And.intro ((s8.cell (World.block_lt_of_cell? w5 _ ca5_2)).trans ca5_2) (And.intro ((s8.cell (World.block_lt_of_cell? w5 _ cx5_0)).trans cx5_0) (And.intro ((s8.cell (World.block_lt_of_cell? w5 _ cx5_1)).trans cx5_1) ((s8.cell (World.block_lt_of_cell? w5 _ cx5_2)).trans cx5_2)))))))))
  have t8 := t5.trans (s8.mono t5.size)
  go_wp2_with fail
  go_ret
  exact ⟨rfl, t8⟩
end Go.Proofs.Ytnilgcahggmncaa
