/- The law of VpOk. -/
import Derived.Test.YtdmhmelmoobekaaV4
import Derived.Deep.RegionHeld3
import Derived.Deep.DeepCutAuto
namespace Go.Proofs.Ytdmhmelmoobekaa
open Go.RowKit
set_option linter.unusedVariables false
set_option maxRecDepth 100000

set_option maxHeartbeats 4000000 in
theorem walk_FnExactVpOk (vs0 : List Value) (w : World) (h0 : Rd Try.prog w 47 vs0) :
    Calls Try.prog 6 #[.agg vs0.toArray] w fun e w' => e = .returned (.bool true) ∧ Below w.heap.size w w' := by
  obtain ⟨S, M, A, ns, c, A', xs, c', rfl, ha, hm, hb, hm'⟩ := rd_vp h0
  clear h0
  by_cases hbig : (1048576 : Int) < ns.length
  · have HS1 : Hid (szV 1048576 ns.length xs.length = -1) := if_pos hbig
    go_enter Try.func6, Try.ntmps6
    go_wp2_with fail
    have t0 : Below w.heap.size w (w.alloc (.cells (pC S M A ns.length c A' xs.length c') 47)) := (Below.refl _ _).alloc (Nat.le_refl _) _
    refine (szVp_any S M A ns.length c A' xs.length c' 1048576 _ hm hm' (by omega) (by omega)).mono ?_
    rintro e w1 ⟨he, hb1⟩
    rw [HS1.out] at he
    subst he
    obtain ⟨Ba1, qa1, ra1, za1⟩ := keep_blk hb1 (g := w.heap.size) (by repeat (first | assumption | exact heap_alloc_at _ (by first | rfl | (simp; done) | omega) | refine heap_alloc_of _ ?_ | refine heap_setCell_of _ (by first | omega | (simp; done) | (simp; omega)) ?_ | refine heap_setCell_same _ ?_ | exact heap_at1_same (by first | omega | (simp; done) | (simp; omega)) | refine heap_at1_of (by first | omega | (simp; done) | (simp; omega)) ?_))
    have t1 := t0.trans (hb1.mono t0.size)
    go_wp2_with fail
    go_ret
    exact ⟨rfl, t1⟩
  by_cases hbig2 : (1048576 : Int) - ns.length < xs.length
  · have HS1 : Hid (szV 1048576 ns.length xs.length = -1) := by show _ = _; rw [szV, if_neg hbig, if_pos hbig2]
    go_enter Try.func6, Try.ntmps6
    go_wp2_with fail
    have t0 : Below w.heap.size w (w.alloc (.cells (pC S M A ns.length c A' xs.length c') 47)) := (Below.refl _ _).alloc (Nat.le_refl _) _
    refine (szVp_any S M A ns.length c A' xs.length c' 1048576 _ hm hm' (by omega) (by omega)).mono ?_
    rintro e w1 ⟨he, hb1⟩
    rw [HS1.out] at he
    subst he
    obtain ⟨Ba1, qa1, ra1, za1⟩ := keep_blk hb1 (g := w.heap.size) (by repeat (first | assumption | exact heap_alloc_at _ (by first | rfl | (simp; done) | omega) | refine heap_alloc_of _ ?_ | refine heap_setCell_of _ (by first | omega | (simp; done) | (simp; omega)) ?_ | refine heap_setCell_same _ ?_ | exact heap_at1_same (by first | omega | (simp; done) | (simp; omega)) | refine heap_at1_of (by first | omega | (simp; done) | (simp; omega)) ?_))
    have t1 := t0.trans (hb1.mono t0.size)
    go_wp2_with fail
    go_ret
    exact ⟨rfl, t1⟩
  have HS1 : Hid (szV 1048576 ns.length xs.length = 1048576 - ns.length - xs.length) := by show _ = _; rw [szV, if_neg hbig, if_neg hbig2]
  have hp1 : ¬ (1048576 : Int) - ns.length - xs.length < 0 := by omega
  have hl : ns.length ≤ 1048576 := by omega
  have hl' : xs.length ≤ 1048576 := by omega
  go_enter Try.func6, Try.ntmps6
  go_wp2_with fail
  have t0 : Below w.heap.size w (w.alloc (.cells (pC S M A ns.length c A' xs.length c') 47)) := (Below.refl _ _).alloc (Nat.le_refl _) _
  refine (szVp_any S M A ns.length c A' xs.length c' 1048576 _ hm hm' (by omega) (by omega)).mono ?_
  rintro e w1 ⟨he, hb1⟩
  rw [HS1.out] at he
  subst he
  obtain ⟨Ba1, qa1, ra1, za1⟩ := keep_blk hb1 (g := w.heap.size) (by repeat (first | assumption | exact heap_alloc_at _ (by first | rfl | (simp; done) | omega) | refine heap_alloc_of _ ?_ | refine heap_setCell_of _ (by first | omega | (simp; done) | (simp; omega)) ?_ | refine heap_setCell_same _ ?_ | exact heap_at1_same (by first | omega | (simp; done) | (simp; omega)) | refine heap_at1_of (by first | omega | (simp; done) | (simp; omega)) ?_))
  have t1 := t0.trans (hb1.mono t0.size)
  go_wp2_with fail
  refine (toVp_any S M _ _ _ _ ns xs _ (ha.below t1) (hb.below t1) hl hl').mono ?_
  rintro e w2 ⟨A2, c2, A2', c2', rfl, hc2, hc2', hs2, hp2, hb2⟩
  obtain ⟨Ba2, qa2, ra2, za2⟩ := keep_blk hb2 (g := w.heap.size) (by repeat (first | assumption | exact heap_alloc_at _ (by first | rfl | (simp; done) | omega) | refine heap_alloc_of _ ?_ | refine heap_setCell_of _ (by first | omega | (simp; done) | (simp; omega)) ?_ | refine heap_setCell_same _ ?_ | exact heap_at1_same (by first | omega | (simp; done) | (simp; omega)) | refine heap_at1_of (by first | omega | (simp; done) | (simp; omega)) ?_))
  clear Ba1 qa1 ra1
  have t2 := t1.trans (hb2.mono t1.size)
  go_wp2_with fail
  refine (vpOk_spec S M _ _ _ _ ns xs _ hs2 hp2 hc2' hl hl').mono ?_
  rintro e w3 ⟨rfl, hb3⟩
  obtain ⟨Ba3, qa3, ra3, za3⟩ := keep_blk hb3 (g := w.heap.size) (by repeat (first | assumption | exact heap_alloc_at _ (by first | rfl | (simp; done) | omega) | refine heap_alloc_of _ ?_ | refine heap_setCell_of _ (by first | omega | (simp; done) | (simp; omega)) ?_ | refine heap_setCell_same _ ?_ | exact heap_at1_same (by first | omega | (simp; done) | (simp; omega)) | refine heap_at1_of (by first | omega | (simp; done) | (simp; omega)) ?_))
  clear Ba2 qa2 ra2
  have t3 := t2.trans (hb3.mono t2.size)
  generalize HS : vpB S M ns xs = R
  go_wp2_with fail
  refine (toVp_any S M _ _ _ _ ns xs _ (ha.below t3) (hb.below t3) hl hl').mono ?_
  rintro e w4 ⟨A4, c4, A4', c4', rfl, hc4, hc4', hs4, hp4, hb4⟩
  obtain ⟨Ba4, qa4, ra4, za4⟩ := keep_blk hb4 (g := w.heap.size) (by repeat (first | assumption | exact heap_alloc_at _ (by first | rfl | (simp; done) | omega) | refine heap_alloc_of _ ?_ | refine heap_setCell_of _ (by first | omega | (simp; done) | (simp; omega)) ?_ | refine heap_setCell_same _ ?_ | exact heap_at1_same (by first | omega | (simp; done) | (simp; omega)) | refine heap_at1_of (by first | omega | (simp; done) | (simp; omega)) ?_))
  clear Ba3 qa3 ra3
  have t4 := t3.trans (hb4.mono t3.size)
  go_wp2_with fail
  have hb40 : Below w4.heap.size w4 (w4.alloc (.cells (pC S M A4 ns.length c4 A4' xs.length c4') 50)) := (Below.refl _ _).alloc (Nat.le_refl _) _
  refine (vpOk_impl S M _ _ _ _ ns xs _ (hs4.below hb40) (hp4.below hb40) hc4' hl hl').mono ?_
  rintro e w5 ⟨rfl, hb5⟩
  obtain ⟨Ba5, qa5, ra5, za5⟩ := keep_blk hb5 (g := w.heap.size) (by repeat (first | assumption | exact heap_alloc_at _ (by first | rfl | (simp; done) | omega) | refine heap_alloc_of _ ?_ | refine heap_setCell_of _ (by first | omega | (simp; done) | (simp; omega)) ?_ | refine heap_setCell_same _ ?_ | exact heap_at1_same (by first | omega | (simp; done) | (simp; omega)) | refine heap_at1_of (by first | omega | (simp; done) | (simp; omega)) ?_))
  obtain ⟨Bx5, qx5, rx5, zx5⟩ := keep_blk hb5 (g := w4.heap.size) (by repeat (first | assumption | exact heap_alloc_at _ (by first | rfl | (simp; done) | omega) | refine heap_alloc_of _ ?_ | refine heap_setCell_of _ (by first | omega | (simp; done) | (simp; omega)) ?_ | refine heap_setCell_same _ ?_ | exact heap_at1_same (by first | omega | (simp; done) | (simp; omega)) | refine heap_at1_of (by first | omega | (simp; done) | (simp; omega)) ?_))
  clear Ba4 qa4 ra4
  have hb45 := hb40.trans (hb5.mono hb40.size)
  have t5 := t4.trans (hb45.mono t4.size)
  have hx5 := hs4.below hb45
  have hy5 := hp4.below hb45
  rw [HS]
  go_wp2_with fail
  have ca5_0 : w5.cell? ⟨w.heap.size, 0, none⟩ = some (.int .i64 S) := by rw [qa5]; rfl
  have ca5_1 : w5.cell? ⟨w.heap.size, 1, none⟩ = some (.bool M) := by rw [qa5]; rfl
  have ca5_2 : w5.cell? ⟨w.heap.size, 2, none⟩ = some (.slice A ns.length c) := by rw [qa5]; rfl
  have ca5_3 : w5.cell? ⟨w.heap.size, 3, none⟩ = some (.slice A' xs.length c') := by rw [qa5]; rfl
  have cx5_0 : w5.cell? ⟨w4.heap.size, 0, none⟩ = some (.int .i64 S) := by rw [qx5]; rfl
  have cx5_1 : w5.cell? ⟨w4.heap.size, 1, none⟩ = some (.bool M) := by rw [qx5]; rfl
  have cx5_2 : w5.cell? ⟨w4.heap.size, 2, none⟩ = some (.slice A4 ns.length c4) := by rw [qx5]; rfl
  have cx5_3 : w5.cell? ⟨w4.heap.size, 3, none⟩ = some (.slice A4' xs.length c4') := by rw [qx5]; rfl
  go_region_held3 (fun w' => Below w5.heap.size w5 w' ∧ w'.cell? ⟨w.heap.size, 0, none⟩ = some (.int .i64 S) ∧ w'.cell? ⟨w.heap.size, 1, none⟩ = some (.bool M) ∧ w'.cell? ⟨w.heap.size, 2, none⟩ = some (.slice A ns.length c) ∧ w'.cell? ⟨w.heap.size, 3, none⟩ = some (.slice A' xs.length c') ∧ w'.cell? ⟨w4.heap.size, 0, none⟩ = some (.int .i64 S) ∧ w'.cell? ⟨w4.heap.size, 1, none⟩ = some (.bool M) ∧ w'.cell? ⟨w4.heap.size, 2, none⟩ = some (.slice A4 ns.length c4) ∧ w'.cell? ⟨w4.heap.size, 3, none⟩ = some (.slice A4' xs.length c4'))
    (first | exact ⟨Below.drew (Below.refl _ _), by simpa using ca5_0, by simpa using ca5_1, by simpa using ca5_2, by simpa using ca5_3, by simpa using cx5_0, by simpa using cx5_1, by simpa using cx5_2, by simpa using cx5_3⟩ | assumption)
    ((first | (go_at_call 29; refine (toVp_any S M _ _ _ _ ns xs _ (ha.below (Below.drew t5)) (hb.below (Below.drew t5)) hl hl').mono ?_; rintro e w6 ⟨A6, c6, A6', c6', rfl, _, _, hs6, hp6, hb6⟩; have s6 : Below w5.heap.size w5 _ := (Below.drew (Below.refl _ _)).trans hb6; have hkeep_s6 := And.intro (s6) (And.intro ((s6.cell (World.block_lt_of_cell? w5 _ ca5_0)).trans ca5_0) (And.intro ((s6.cell (World.block_lt_of_cell? w5 _ ca5_1)).trans ca5_1) (And.intro ((s6.cell (World.block_lt_of_cell? w5 _ ca5_2)).trans ca5_2) (And.intro ((s6.cell (World.block_lt_of_cell? w5 _ ca5_3)).trans ca5_3) (And.intro ((s6.cell (World.block_lt_of_cell? w5 _ cx5_0)).trans cx5_0) (And.intro ((s6.cell (World.block_lt_of_cell? w5 _ cx5_1)).trans cx5_1) (And.intro ((s6.cell (World.block_lt_of_cell? w5 _ cx5_2)).trans cx5_2) ((s6.cell (World.block_lt_of_cell? w5 _ cx5_3)).trans cx5_3))))))))) | (go_at_call 31; refine (eqVp_same S M _ _ _ _ _ _ _ _ ns xs _ (hx5.below s6) hs6 (hy5.below s6) hp6 hl hl').mono ?_; rintro e w7 ⟨rfl, hb7⟩; have s7 : Below w5.heap.size w5 _ := s6.trans (hb7.mono s6.size); have hkeep_s7 := And.intro (s7) (And.intro ((s7.cell (World.block_lt_of_cell? w5 _ ca5_0)).trans ca5_0) (And.intro ((s7.cell (World.block_lt_of_cell? w5 _ ca5_1)).trans ca5_1) (And.intro ((s7.cell (World.block_lt_of_cell? w5 _ ca5_2)).trans ca5_2) (And.intro ((s7.cell (World.block_lt_of_cell? w5 _ ca5_3)).trans ca5_3) (And.intro ((s7.cell (World.block_lt_of_cell? w5 _ cx5_0)).trans cx5_0) (And.intro ((s7.cell (World.block_lt_of_cell? w5 _ cx5_1)).trans cx5_1) (And.intro ((s7.cell (World.block_lt_of_cell? w5 _ cx5_2)).trans cx5_2) ((s7.cell (World.block_lt_of_cell? w5 _ cx5_3)).trans cx5_3)))))))))))
  clear hkeep_s6 hkeep_s7
  go_wp2_with fail
  go_ret
  exact ⟨rfl, t5.trans (s7.mono t5.size)⟩
end Go.Proofs.Ytdmhmelmoobekaa
