/- The law of DiskOpOk. -/
import Derived.Test.YtncclaijjljdhaaK2
import Derived.Deep.RegionHeld3
import Derived.Deep.DeepCutAuto
namespace Go.Proofs.Ytncclaijjljdhaa
open Go.RowKit
set_option linter.unusedVariables false
set_option maxRecDepth 100000

set_option maxHeartbeats 4000000 in
theorem walk_FnExactDiskOpOk (vs0 : List Value) (w : World) (h0 : Rd Try.prog w 24 vs0) :
    Calls Try.prog 3 #[.agg vs0.toArray] w fun e w' => e = .returned (.bool true) ∧ Below w.heap.size w w' := by
  obtain ⟨k, s, t, A, xs, c, rfl, hms, hmt, ha, hm⟩ := rd_op h0
  clear h0
  by_cases hbig : szD 1048576 s.size t.size xs.length = -1
  · have HS1 := Lib.hid hbig
    go_enter Try.func3, Try.ntmps3
    go_wp2_with fail
    have t0 : Below w.heap.size w (w.alloc (.cells (dC k s t A xs.length c) 24)) := (Below.refl _ _).alloc (Nat.le_refl _) _
    refine (szOp_any k s t A xs.length c _ hms hmt hm).mono ?_
    rintro e w1 ⟨he, hb1⟩
    rw [HS1.out] at he
    subst he
    obtain ⟨Ba1, qa1, ra1, za1⟩ := keep_blk hb1 (g := w.heap.size) (by repeat (first | assumption | exact heap_alloc_at _ (by first | rfl | (simp; done) | omega) | refine heap_alloc_of _ ?_ | refine heap_setCell_of _ (by first | omega | (simp; done) | (simp; omega)) ?_ | refine heap_setCell_same _ ?_ | exact heap_at1_same (by first | omega | (simp; done) | (simp; omega)) | refine heap_at1_of (by first | omega | (simp; done) | (simp; omega)) ?_))
    have t1 := t0.trans (hb1.mono t0.size)
    go_wp2_with fail
    go_ret
    exact ⟨rfl, t1⟩
  have hsz : szD 1048576 s.size t.size xs.length = 1048576 - s.size - t.size - xs.length ∧ (0 : Int) ≤ 1048576 - s.size - t.size - xs.length := by
    unfold szD at hbig ⊢
    split at hbig
    · omega
    · split at hbig
      · omega
      · split at hbig
        · omega
        · rename_i h1 h2 h3
          rw [if_neg h1, if_neg h2, if_neg h3]
          exact ⟨rfl, by omega⟩
  have HS1 := Lib.hid hsz.1
  have hz := hsz.2
  have hp1 : ¬ (1048576 : Int) - s.size - t.size - xs.length < 0 := by omega
  have hl : xs.length ≤ 1048576 := by omega
  have hls : s.data.toList.length ≤ 549755813888 := by have e : s.data.toList.length = s.size := Array.length_toList; omega
  have hlt : t.data.toList.length ≤ 549755813888 := by have e : t.data.toList.length = t.size := Array.length_toList; omega
  clear hsz hbig
  go_enter Try.func3, Try.ntmps3
  go_wp2_with fail
  have t0 : Below w.heap.size w (w.alloc (.cells (dC k s t A xs.length c) 24)) := (Below.refl _ _).alloc (Nat.le_refl _) _
  refine (szOp_any k s t A xs.length c _ hms hmt hm).mono ?_
  rintro e w1 ⟨he, hb1⟩
  rw [HS1.out] at he
  subst he
  obtain ⟨Ba1, qa1, ra1, za1⟩ := keep_blk hb1 (g := w.heap.size) (by repeat (first | assumption | exact heap_alloc_at _ (by first | rfl | (simp; done) | omega) | refine heap_alloc_of _ ?_ | refine heap_setCell_of _ (by first | omega | (simp; done) | (simp; omega)) ?_ | refine heap_setCell_same _ ?_ | exact heap_at1_same (by first | omega | (simp; done) | (simp; omega)) | refine heap_at1_of (by first | omega | (simp; done) | (simp; omega)) ?_))
  have t1 := t0.trans (hb1.mono t0.size)
  go_wp2_with fail
  refine (toOp_any k s t _ _ xs _ (ha.below t1) hl).mono ?_
  rintro e w2 ⟨A2, c2, rfl, hp2, hb2⟩
  obtain ⟨Ba2, qa2, ra2, za2⟩ := keep_blk hb2 (g := w.heap.size) (by repeat (first | assumption | exact heap_alloc_at _ (by first | rfl | (simp; done) | omega) | refine heap_alloc_of _ ?_ | refine heap_setCell_of _ (by first | omega | (simp; done) | (simp; omega)) ?_ | refine heap_setCell_same _ ?_ | exact heap_at1_same (by first | omega | (simp; done) | (simp; omega)) | refine heap_at1_of (by first | omega | (simp; done) | (simp; omega)) ?_))
  clear Ba1 qa1 ra1
  have t2 := t1.trans (hb2.mono t1.size)
  go_wp2_with fail
  refine (diskOpOk_spec k s t _ xs.length _ _ hls hlt hl).mono ?_
  rintro e w3 ⟨rfl, hb3⟩
  obtain ⟨Ba3, qa3, ra3, za3⟩ := keep_blk hb3 (g := w.heap.size) (by repeat (first | assumption | exact heap_alloc_at _ (by first | rfl | (simp; done) | omega) | refine heap_alloc_of _ ?_ | refine heap_setCell_of _ (by first | omega | (simp; done) | (simp; omega)) ?_ | refine heap_setCell_same _ ?_ | exact heap_at1_same (by first | omega | (simp; done) | (simp; omega)) | refine heap_at1_of (by first | omega | (simp; done) | (simp; omega)) ?_))
  clear Ba2 qa2 ra2
  have t3 := t2.trans (hb3.mono t2.size)
  generalize HS : opB k s t xs.length = R
  go_wp2_with fail
  refine (toOp_any k s t _ _ xs _ (ha.below t3) hl).mono ?_
  rintro e w4 ⟨A4, c4, rfl, hp4, hb4⟩
  obtain ⟨Ba4, qa4, ra4, za4⟩ := keep_blk hb4 (g := w.heap.size) (by repeat (first | assumption | exact heap_alloc_at _ (by first | rfl | (simp; done) | omega) | refine heap_alloc_of _ ?_ | refine heap_setCell_of _ (by first | omega | (simp; done) | (simp; omega)) ?_ | refine heap_setCell_same _ ?_ | exact heap_at1_same (by first | omega | (simp; done) | (simp; omega)) | refine heap_at1_of (by first | omega | (simp; done) | (simp; omega)) ?_))
  clear Ba3 qa3 ra3
  have t4 := t3.trans (hb4.mono t3.size)
  go_wp2_with fail
  have hb40 : Below w4.heap.size w4 (w4.alloc (.cells (dC k s t A4 xs.length c4) 27)) := (Below.refl _ _).alloc (Nat.le_refl _) _
  refine (diskOpOk_impl k s t _ xs.length _ _ hls hlt hl).mono ?_
  rintro e w5 ⟨rfl, hb5⟩
  obtain ⟨Ba5, qa5, ra5, za5⟩ := keep_blk hb5 (g := w.heap.size) (by repeat (first | assumption | exact heap_alloc_at _ (by first | rfl | (simp; done) | omega) | refine heap_alloc_of _ ?_ | refine heap_setCell_of _ (by first | omega | (simp; done) | (simp; omega)) ?_ | refine heap_setCell_same _ ?_ | exact heap_at1_same (by first | omega | (simp; done) | (simp; omega)) | refine heap_at1_of (by first | omega | (simp; done) | (simp; omega)) ?_))
  obtain ⟨Bx5, qx5, rx5, zx5⟩ := keep_blk hb5 (g := w4.heap.size) (by repeat (first | assumption | exact heap_alloc_at _ (by first | rfl | (simp; done) | omega) | refine heap_alloc_of _ ?_ | refine heap_setCell_of _ (by first | omega | (simp; done) | (simp; omega)) ?_ | refine heap_setCell_same _ ?_ | exact heap_at1_same (by first | omega | (simp; done) | (simp; omega)) | refine heap_at1_of (by first | omega | (simp; done) | (simp; omega)) ?_))
  clear Ba4 qa4 ra4
  have hb45 := hb40.trans (hb5.mono hb40.size)
  have t5 := t4.trans (hb45.mono t4.size)
  have hy5 := hp4.below hb45
  rw [HS]
  go_wp2_with fail
  have ca5_0 : w5.cell? ⟨w.heap.size, 0, none⟩ = some (.int .i64 k) := by rw [qa5]; rfl
  have ca5_1 : w5.cell? ⟨w.heap.size, 1, none⟩ = some (.string s) := by rw [qa5]; rfl
  have ca5_2 : w5.cell? ⟨w.heap.size, 2, none⟩ = some (.string t) := by rw [qa5]; rfl
  have ca5_3 : w5.cell? ⟨w.heap.size, 3, none⟩ = some (.slice A xs.length c) := by rw [qa5]; rfl
  have cx5_0 : w5.cell? ⟨w4.heap.size, 0, none⟩ = some (.int .i64 k) := by rw [qx5]; rfl
  have cx5_1 : w5.cell? ⟨w4.heap.size, 1, none⟩ = some (.string s) := by rw [qx5]; rfl
  have cx5_2 : w5.cell? ⟨w4.heap.size, 2, none⟩ = some (.string t) := by rw [qx5]; rfl
  have cx5_3 : w5.cell? ⟨w4.heap.size, 3, none⟩ = some (.slice A4 xs.length c4) := by rw [qx5]; rfl
  go_region_held3 (fun w' => Below w5.heap.size w5 w' ∧ w'.cell? ⟨w.heap.size, 0, none⟩ = some (.int .i64 k) ∧ w'.cell? ⟨w.heap.size, 1, none⟩ = some (.string s) ∧ w'.cell? ⟨w.heap.size, 2, none⟩ = some (.string t) ∧ w'.cell? ⟨w.heap.size, 3, none⟩ = some (.slice A xs.length c) ∧ w'.cell? ⟨w4.heap.size, 0, none⟩ = some (.int .i64 k) ∧ w'.cell? ⟨w4.heap.size, 1, none⟩ = some (.string s) ∧ w'.cell? ⟨w4.heap.size, 2, none⟩ = some (.string t) ∧ w'.cell? ⟨w4.heap.size, 3, none⟩ = some (.slice A4 xs.length c4))
    (first | exact ⟨Below.drew (Below.refl _ _), by simpa using ca5_0, by simpa using ca5_1, by simpa using ca5_2, by simpa using ca5_3, by simpa using cx5_0, by simpa using cx5_1, by simpa using cx5_2, by simpa using cx5_3⟩ | assumption)
    ((first | (go_at_call 7; refine (toOp_any k s t _ _ xs _ (ha.below (Below.drew t5)) hl).mono ?_; rintro e w6 ⟨A6, c6, rfl, hp6, hb6⟩; have s6 : Below w5.heap.size w5 _ := (Below.drew (Below.refl _ _)).trans hb6; have hkeep_s6 := And.intro (s6) (And.intro ((s6.cell (World.block_lt_of_cell? w5 _ ca5_0)).trans ca5_0) (And.intro ((s6.cell (World.block_lt_of_cell? w5 _ ca5_1)).trans ca5_1) (And.intro ((s6.cell (World.block_lt_of_cell? w5 _ ca5_2)).trans ca5_2) (And.intro ((s6.cell (World.block_lt_of_cell? w5 _ ca5_3)).trans ca5_3) (And.intro ((s6.cell (World.block_lt_of_cell? w5 _ cx5_0)).trans cx5_0) (And.intro ((s6.cell (World.block_lt_of_cell? w5 _ cx5_1)).trans cx5_1) (And.intro ((s6.cell (World.block_lt_of_cell? w5 _ cx5_2)).trans cx5_2) ((s6.cell (World.block_lt_of_cell? w5 _ cx5_3)).trans cx5_3))))))))) | (go_at_call 9; refine (eqOp_same k s t _ _ _ _ xs _ (hy5.below s6) hp6 hl).mono ?_; rintro e w7 ⟨rfl, hb7⟩; have s7 : Below w5.heap.size w5 _ := s6.trans (hb7.mono s6.size); have hkeep_s7 := And.intro (s7) (And.intro ((s7.cell (World.block_lt_of_cell? w5 _ ca5_0)).trans ca5_0) (And.intro ((s7.cell (World.block_lt_of_cell? w5 _ ca5_1)).trans ca5_1) (And.intro ((s7.cell (World.block_lt_of_cell? w5 _ ca5_2)).trans ca5_2) (And.intro ((s7.cell (World.block_lt_of_cell? w5 _ ca5_3)).trans ca5_3) (And.intro ((s7.cell (World.block_lt_of_cell? w5 _ cx5_0)).trans cx5_0) (And.intro ((s7.cell (World.block_lt_of_cell? w5 _ cx5_1)).trans cx5_1) (And.intro ((s7.cell (World.block_lt_of_cell? w5 _ cx5_2)).trans cx5_2) ((s7.cell (World.block_lt_of_cell? w5 _ cx5_3)).trans cx5_3)))))))))))
  clear hkeep_s6 hkeep_s7
  go_wp2_with fail
  go_ret
  exact ⟨rfl, t5.trans (s7.mono t5.size)⟩
end Go.Proofs.Ytncclaijjljdhaa
