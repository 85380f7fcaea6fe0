/- The law of GridRoll. -/
import Derived.Test.YtdmhmelmoobekaaRo5
import Derived.Test.YtdmhmelmoobekaaRo2
import Derived.Test.YtdmhmelmoobekaaGm
import Derived.Deep.RegionHeld3
import Derived.Deep.DeepCutAuto
namespace Go.Proofs.Ytdmhmelmoobekaa
open Go.RowKit
set_option linter.unusedVariables false
set_option maxRecDepth 100000

set_option maxHeartbeats 8000000 in
theorem walk_FnExactGridRoll (vs0 : List Value) (x y n : Int) (w : World) (h0 : Rd Try.prog w 24 vs0) (hx : (Lit.int .i64 x).wf = true) (hy : (Lit.int .i64 y).wf = true) (hn : (Lit.int .i64 n).wf = true) :
    Calls Try.prog 11 #[.agg vs0.toArray, .int .i64 x, .int .i64 y, .int .i64 n] w fun e w' => e = .returned (.bool true) ∧ Below w.heap.size w w' := by
  clear hx hy hn
  obtain ⟨W, H, A, cs, c, rfl, ha, hm, hW, hH⟩ := rd_grid h0
  clear h0
  by_cases hbig : (1048576 : Int) < cs.length
  · have HS1 : Hid (szR 1048576 cs.length = -1) := szR_no hbig
    go_enter Try.func11, Try.ntmps11
    go_wp2_with fail
    have t0 : Below w.heap.size w (w.alloc (.cells #[.int .i64 W, .int .i64 H, .slice A cs.length c] 24)) := (Below.refl _ _).alloc (Nat.le_refl _) _
    refine (szGrid_any W H A cs.length c 1048576 _ hm (by omega) (by omega)).mono ?_
    rintro e w1 ⟨he, hb1⟩
    rw [HS1.out] at he
    subst he
    obtain ⟨Ba1, qa1, ra1, za1⟩ := keep_blk hb1 (g := w.heap.size) (by repeat (first | assumption | exact heap_alloc_at _ (by first | rfl | (simp; done) | omega) | refine heap_alloc_of _ ?_ | refine heap_setCell_of _ (by first | omega | (simp; done) | (simp; omega)) ?_ | refine heap_setCell_same _ ?_ | exact heap_at1_same (by first | omega | (simp; done) | (simp; omega)) | refine heap_at1_of (by first | omega | (simp; done) | (simp; omega)) ?_))
    have t1 := t0.trans (hb1.mono t0.size)
    go_wp2_with fail
    go_ret
    exact ⟨rfl, t1⟩
  have HS1 : Hid (szR 1048576 cs.length = 1048576 - cs.length) := szR_yes hbig
  have hp1 : ¬ (1048576 : Int) - cs.length < 0 := by omega
  have hlc : cs.length ≤ 1048576 := by omega
  have hrl : (roR W H cs x y n).2.2.length ≤ 1048576 := Nat.le_trans ro_len hlc
  go_enter Try.func11, Try.ntmps11
  go_wp2_with fail
  have t0 : Below w.heap.size w (w.alloc (.cells #[.int .i64 W, .int .i64 H, .slice A cs.length c] 24)) := (Below.refl _ _).alloc (Nat.le_refl _) _
  refine (szGrid_any W H A cs.length c 1048576 _ hm (by omega) (by omega)).mono ?_
  rintro e w1 ⟨he, hb1⟩
  rw [HS1.out] at he
  subst he
  obtain ⟨Ba1, qa1, ra1, za1⟩ := keep_blk hb1 (g := w.heap.size) (by repeat (first | assumption | exact heap_alloc_at _ (by first | rfl | (simp; done) | omega) | refine heap_alloc_of _ ?_ | refine heap_setCell_of _ (by first | omega | (simp; done) | (simp; omega)) ?_ | refine heap_setCell_same _ ?_ | exact heap_at1_same (by first | omega | (simp; done) | (simp; omega)) | refine heap_at1_of (by first | omega | (simp; done) | (simp; omega)) ?_))
  have t1 := t0.trans (hb1.mono t0.size)
  go_wp2_with fail
  refine (toGrid_any W H _ _ cs _ (ha.below t1) hlc).mono ?_
  rintro e w2 ⟨A2, c2, rfl, _, hs2, hi2, hb2⟩
  obtain ⟨Ba2, qa2, ra2, za2⟩ := keep_blk hb2 (g := w.heap.size) (by repeat (first | assumption | exact heap_alloc_at _ (by first | rfl | (simp; done) | omega) | refine heap_alloc_of _ ?_ | refine heap_setCell_of _ (by first | omega | (simp; done) | (simp; omega)) ?_ | refine heap_setCell_same _ ?_ | exact heap_at1_same (by first | omega | (simp; done) | (simp; omega)) | refine heap_at1_of (by first | omega | (simp; done) | (simp; omega)) ?_))
  clear Ba1 qa1 ra1
  have t2 := t1.trans (hb2.mono t1.size)
  go_wp2_with fail
  refine (gridRoll_spec W H _ _ cs x y n _ hs2 hlc).mono ?_
  generalize HS : roR W H cs x y n = S at hrl
  obtain ⟨RW, RH, rs⟩ := S
  have hrl' : rs.length ≤ 1048576 := hrl
  rintro e w3 ⟨A3, c3, rfl, ho3, hs3, hi3, hb3⟩
  replace ho3 : Og w3 w2.heap.size A3 c3 rs := ho3
  replace hs3 : Gs w3 A3 rs := hs3
  obtain ⟨Ba3, qa3, ra3, za3⟩ := keep_blk hb3 (g := w.heap.size) (by repeat (first | assumption | exact heap_alloc_at _ (by first | rfl | (simp; done) | omega) | refine heap_alloc_of _ ?_ | refine heap_setCell_of _ (by first | omega | (simp; done) | (simp; omega)) ?_ | refine heap_setCell_same _ ?_ | exact heap_at1_same (by first | omega | (simp; done) | (simp; omega)) | refine heap_at1_of (by first | omega | (simp; done) | (simp; omega)) ?_))
  clear Ba2 qa2 ra2
  have t3 := t2.trans (hb3.mono t2.size)
  go_wp2_with fail
  have v3 : Below w3.heap.size w3 (w3.alloc (.cells #[.int .i64 RW, .int .i64 RH, .slice A3 rs.length c3] 33)) := (Below.refl _ _).alloc (Nat.le_refl _) _
  have u3 : Below w.heap.size w (w3.alloc (.cells #[.int .i64 RW, .int .i64 RH, .slice A3 rs.length c3] 33)) := t3.alloc t3.size _
  refine (toGrid_any W H _ _ cs _ (ha.below u3) hlc).mono ?_
  rintro e w4 ⟨A4, c4, rfl, ho4, hs4, hi4, hb4⟩
  obtain ⟨Ba4, qa4, ra4, za4⟩ := keep_blk hb4 (g := w.heap.size) (by repeat (first | assumption | exact heap_alloc_at _ (by first | rfl | (simp; done) | omega) | refine heap_alloc_of _ ?_ | refine heap_setCell_of _ (by first | omega | (simp; done) | (simp; omega)) ?_ | refine heap_setCell_same _ ?_ | exact heap_at1_same (by first | omega | (simp; done) | (simp; omega)) | refine heap_at1_of (by first | omega | (simp; done) | (simp; omega)) ?_))
  obtain ⟨Bs4, qs4, rs4, zs4⟩ := keep_blk hb4 (g := w3.heap.size) (by repeat (first | assumption | exact heap_alloc_at _ (by first | rfl | (simp; done) | omega) | refine heap_alloc_of _ ?_ | refine heap_setCell_of _ (by first | omega | (simp; done) | (simp; omega)) ?_ | refine heap_setCell_same _ ?_ | exact heap_at1_same (by first | omega | (simp; done) | (simp; omega)) | refine heap_at1_of (by first | omega | (simp; done) | (simp; omega)) ?_))
  clear Ba3 qa3 ra3
  have t4 := u3.trans (hb4.mono u3.size)
  have v4 := v3.trans (hb4.mono v3.size)
  go_wp2_with fail
  have hb40 : Below w4.heap.size w4 (w4.alloc (.cells #[.int .i64 W, .int .i64 H, .slice A4 cs.length c4] 33)) := (Below.refl _ _).alloc (Nat.le_refl _) _
  refine (gridRoll_impl W H _ _ cs x y n _ (hs4.below hb40) ho4.cap hlc).mono ?_
  rw [HS]
  rintro e w5 ⟨A5, c5, rfl, ho5, hs5, hi5, hb5⟩
  replace ho5 : Og w5 (w4.heap.size + 1) A5 c5 rs := by simpa using ho5
  replace hs5 : Gs w5 A5 rs := hs5
  obtain ⟨Ba5, qa5, ra5, za5⟩ := keep_blk hb5 (g := w.heap.size) (by repeat (first | assumption | exact heap_alloc_at _ (by first | rfl | (simp; done) | omega) | refine heap_alloc_of _ ?_ | refine heap_setCell_of _ (by first | omega | (simp; done) | (simp; omega)) ?_ | refine heap_setCell_same _ ?_ | exact heap_at1_same (by first | omega | (simp; done) | (simp; omega)) | refine heap_at1_of (by first | omega | (simp; done) | (simp; omega)) ?_))
  obtain ⟨Bs5, qs5, rs5, zs5⟩ := keep_blk hb5 (g := w3.heap.size) (by repeat (first | assumption | exact heap_alloc_at _ (by first | rfl | (simp; done) | omega) | refine heap_alloc_of _ ?_ | refine heap_setCell_of _ (by first | omega | (simp; done) | (simp; omega)) ?_ | refine heap_setCell_same _ ?_ | exact heap_at1_same (by first | omega | (simp; done) | (simp; omega)) | refine heap_at1_of (by first | omega | (simp; done) | (simp; omega)) ?_))
  obtain ⟨Bx5, qx5, rx5, zx5⟩ := keep_blk hb5 (g := w4.heap.size) (by repeat (first | assumption | exact heap_alloc_at _ (by first | rfl | (simp; done) | omega) | refine heap_alloc_of _ ?_ | refine heap_setCell_of _ (by first | omega | (simp; done) | (simp; omega)) ?_ | refine heap_setCell_same _ ?_ | exact heap_at1_same (by first | omega | (simp; done) | (simp; omega)) | refine heap_at1_of (by first | omega | (simp; done) | (simp; omega)) ?_))
  clear Ba4 qa4 ra4 Bs4 qs4 rs4
  have hb45 := hb40.trans (hb5.mono hb40.size)
  have t5 := t4.trans (hb45.mono t4.size)
  have v5 := v4.trans (hb45.mono v4.size)
  have hx5 := hs4.below hb45
  have ox5 := ho4.below hb45 (Nat.le_refl _)
  have hw5 := hs3.below v5
  go_wp2_with fail
  have hb50 : Below w5.heap.size w5 (w5.alloc (.cells #[.int .i64 RW, .int .i64 RH, .slice A5 rs.length c5] 33)) := (Below.refl _ _).alloc (Nat.le_refl _) _
  refine (eqGrid_same RW RH _ _ _ _ rs _ (hs5.below hb50) (hw5.below hb50) (by omega)).mono ?_
  rintro e w6 ⟨rfl, hb6⟩
  obtain ⟨Ba6, qa6, ra6, za6⟩ := keep_blk hb6 (g := w.heap.size) (by repeat (first | assumption | exact heap_alloc_at _ (by first | rfl | (simp; done) | omega) | refine heap_alloc_of _ ?_ | refine heap_setCell_of _ (by first | omega | (simp; done) | (simp; omega)) ?_ | refine heap_setCell_same _ ?_ | exact heap_at1_same (by first | omega | (simp; done) | (simp; omega)) | refine heap_at1_of (by first | omega | (simp; done) | (simp; omega)) ?_))
  obtain ⟨Bs6, qs6, rs6, zs6⟩ := keep_blk hb6 (g := w3.heap.size) (by repeat (first | assumption | exact heap_alloc_at _ (by first | rfl | (simp; done) | omega) | refine heap_alloc_of _ ?_ | refine heap_setCell_of _ (by first | omega | (simp; done) | (simp; omega)) ?_ | refine heap_setCell_same _ ?_ | exact heap_at1_same (by first | omega | (simp; done) | (simp; omega)) | refine heap_at1_of (by first | omega | (simp; done) | (simp; omega)) ?_))
  obtain ⟨Bx6, qx6, rx6, zx6⟩ := keep_blk hb6 (g := w4.heap.size) (by repeat (first | assumption | exact heap_alloc_at _ (by first | rfl | (simp; done) | omega) | refine heap_alloc_of _ ?_ | refine heap_setCell_of _ (by first | omega | (simp; done) | (simp; omega)) ?_ | refine heap_setCell_same _ ?_ | exact heap_at1_same (by first | omega | (simp; done) | (simp; omega)) | refine heap_at1_of (by first | omega | (simp; done) | (simp; omega)) ?_))
  obtain ⟨Bg6, qg6, rg6, zg6⟩ := keep_blk hb6 (g := w5.heap.size) (by repeat (first | assumption | exact heap_alloc_at _ (by first | rfl | (simp; done) | omega) | refine heap_alloc_of _ ?_ | refine heap_setCell_of _ (by first | omega | (simp; done) | (simp; omega)) ?_ | refine heap_setCell_same _ ?_ | exact heap_at1_same (by first | omega | (simp; done) | (simp; omega)) | refine heap_at1_of (by first | omega | (simp; done) | (simp; omega)) ?_))
  clear Ba5 qa5 ra5 Bs5 qs5 rs5 Bx5 qx5 rx5
  have hb56 := hb50.trans (hb6.mono hb50.size)
  have t6 := t5.trans (hb56.mono t5.size)
  have hx6 := hx5.below hb56
  have ox6 := ox5.below hb56 (Nat.le_refl _)
  have og6 := ho5.below hb56 (Nat.le_refl _)
  have hw6 := hw5.below hb56
  go_wp2_with fail
  have ca6_0 : w6.cell? ⟨w.heap.size, 0, none⟩ = some (.int .i64 W) := by rw [qa6]; rfl
  have ca6_1 : w6.cell? ⟨w.heap.size, 1, none⟩ = some (.int .i64 H) := by rw [qa6]; rfl
  have ca6_2 : w6.cell? ⟨w.heap.size, 2, none⟩ = some (.slice A cs.length c) := by rw [qa6]; rfl
  have cx6_0 : w6.cell? ⟨w4.heap.size, 0, none⟩ = some (.int .i64 W) := by rw [qx6]; rfl
  have cx6_1 : w6.cell? ⟨w4.heap.size, 1, none⟩ = some (.int .i64 H) := by rw [qx6]; rfl
  have cx6_2 : w6.cell? ⟨w4.heap.size, 2, none⟩ = some (.slice A4 cs.length c4) := by rw [qx6]; rfl
  go_region_held3 (fun w' => Below w6.heap.size w6 w' ∧ w'.cell? ⟨w.heap.size, 0, none⟩ = some (.int .i64 W) ∧ w'.cell? ⟨w.heap.size, 1, none⟩ = some (.int .i64 H) ∧ w'.cell? ⟨w.heap.size, 2, none⟩ = some (.slice A cs.length c) ∧ w'.cell? ⟨w4.heap.size, 0, none⟩ = some (.int .i64 W) ∧ w'.cell? ⟨w4.heap.size, 1, none⟩ = some (.int .i64 H) ∧ w'.cell? ⟨w4.heap.size, 2, none⟩ = some (.slice A4 cs.length c4))
    (first | exact ⟨Below.drew (Below.refl _ _), by simpa using ca6_0, by simpa using ca6_1, by simpa using ca6_2, by simpa using cx6_0, by simpa using cx6_1, by simpa using cx6_2⟩ | assumption | (refine ⟨?_, ?_, ?_, ?_, ?_, ?_, ?_⟩ <;> assumption))
    ((first | (go_at_call 17; refine (toGrid_any W H _ _ cs _ (ha.below (Below.drew t6)) hlc).mono ?_; rintro e w7 ⟨A7, c7, rfl, _, hs7, hi7, hb7⟩; have s7 : Below w6.heap.size w6 _ := (Below.drew (Below.refl _ _)).trans hb7; have hkeep_s7 := And.intro (s7) (And.intro ((s7.cell (World.block_lt_of_cell? w6 _ ca6_0)).trans ca6_0) (And.intro ((s7.cell (World.block_lt_of_cell? w6 _ ca6_1)).trans ca6_1) (And.intro ((s7.cell (World.block_lt_of_cell? w6 _ ca6_2)).trans ca6_2) (And.intro ((s7.cell (World.block_lt_of_cell? w6 _ cx6_0)).trans cx6_0) (And.intro ((s7.cell (World.block_lt_of_cell? w6 _ cx6_1)).trans cx6_1) ((s7.cell (World.block_lt_of_cell? w6 _ cx6_2)).trans cx6_2))))))) | (go_at_call 20; refine (eqGrid_same W H _ _ _ _ cs _ (hx6.below s7) hs7 (by omega)).mono ?_; rintro e w8 ⟨rfl, hb8⟩; have s8 : Below w6.heap.size w6 _ := s7.trans (hb8.mono s7.size); have hkeep_s8 := And.intro (s8) (And.intro ((s8.cell (World.block_lt_of_cell? w6 _ ca6_0)).trans ca6_0) (And.intro ((s8.cell (World.block_lt_of_cell? w6 _ ca6_1)).trans ca6_1) (And.intro ((s8.cell (World.block_lt_of_cell? w6 _ ca6_2)).trans ca6_2) (And.intro ((s8.cell (World.block_lt_of_cell? w6 _ cx6_0)).trans cx6_0) (And.intro ((s8.cell (World.block_lt_of_cell? w6 _ cx6_1)).trans cx6_1) ((s8.cell (World.block_lt_of_cell? w6 _ cx6_2)).trans cx6_2)))))))))
  clear hkeep_s7 hkeep_s8
  obtain ⟨Ba8, qa8, ra8, za8⟩ := keep_blk s8 Ba6
  obtain ⟨Bs8, qs8, rs8, zs8⟩ := keep_blk s8 Bs6
  obtain ⟨Bx8, qx8, rx8, zx8⟩ := keep_blk s8 Bx6
  obtain ⟨Bg8, qg8, rg8, zg8⟩ := keep_blk s8 Bg6
  clear Ba6 qa6 ra6 Bs6 qs6 rs6 Bx6 qx6 rx6 Bg6 qg6 rg6 ca6_0 ca6_1 ca6_2 cx6_0 cx6_1 cx6_2
  have t8 := t6.trans (s8.mono t6.size)
  have ox8 := ox6.below s8 (Nat.le_refl _)
  have og8 := og6.below s8 (Nat.le_refl _)
  have hw8 := hw6.below s8
  go_wp2_with fail
  have i3 := ho3.inB
  have i4 := ho4.inB
  have i5 := ho5.inB
  have y4 : w3.heap.size < w4.heap.size := by have := hb4.size; simp at this; omega
  have y5 : w4.heap.size < w5.heap.size := by have := hb5.size; simp at this; omega
  have y6 : w5.heap.size < w6.heap.size := by have := hb6.size; simp at this; omega
  have y8 : w6.heap.size ≤ w8.heap.size := s8.size
  have y3 : w.heap.size < w3.heap.size := za3
  have y3' : w2.heap.size ≤ w3.heap.size := hb3.size
  have y2 : w.heap.size ≤ w2.heap.size := t2.size
  simp at i4 i5
  replace i4 : InB (w3.heap.size + 1) w4.heap.size A4 := i4
  replace i5 : InB (w4.heap.size + 1) w5.heap.size A5 := i5
  refine (markGrid_any W H _ _ _ cs 1 _ ox8 hlc (by omega) (by omega)).mono ?_
  rintro e w9 ⟨rfl, ox9, hg9⟩
  have m9 := hg9.size
  obtain ⟨Ba9, qa9, ra9, za9⟩ := keep_gr hg9 i4 Ba8 (by omega)
  obtain ⟨Bs9, qs9, rs9, zs9⟩ := keep_gr hg9 i4 Bs8 (by omega)
  obtain ⟨Bx9, qx9, rx9, zx9⟩ := keep_gr hg9 i4 Bx8 (by omega)
  obtain ⟨Bg9, qg9, rg9, zg9⟩ := keep_gr hg9 i4 Bg8 (by omega)
  clear Ba8 qa8 ra8 Bs8 qs8 rs8 Bx8 qx8 rx8 Bg8 qg8 rg8
  have t9 : Below w.heap.size w w9 := below_grown t8 hg9 i4 (by omega) (by omega)
  have og9 := og8.grown hg9 i4 i5 (.inr (by omega))
  have hw9 := hw8.grown hg9 i4 (fun ad h _ => .inl (by have := i3 ad h; omega))
  have hk9 : ¬ (1 : Int) + 6 * (cs.length : Int) < 0 := by omega
  go_wp2_with fail
  refine (eqGrid_same RW RH _ _ _ _ rs _ og9.gs hw9 (by omega)).mono ?_
  rintro e w10 ⟨rfl, hb10⟩
  obtain ⟨Ba10, qa10, ra10, za10⟩ := keep_blk hb10 (g := w.heap.size) (by repeat (first | assumption | exact heap_alloc_at _ (by first | rfl | (simp; done) | omega) | refine heap_alloc_of _ ?_ | refine heap_setCell_of _ (by first | omega | (simp; done) | (simp; omega)) ?_ | refine heap_setCell_same _ ?_ | exact heap_at1_same (by first | omega | (simp; done) | (simp; omega)) | refine heap_at1_of (by first | omega | (simp; done) | (simp; omega)) ?_))
  obtain ⟨Bs10, qs10, rs10, zs10⟩ := keep_blk hb10 (g := w3.heap.size) (by repeat (first | assumption | exact heap_alloc_at _ (by first | rfl | (simp; done) | omega) | refine heap_alloc_of _ ?_ | refine heap_setCell_of _ (by first | omega | (simp; done) | (simp; omega)) ?_ | refine heap_setCell_same _ ?_ | exact heap_at1_same (by first | omega | (simp; done) | (simp; omega)) | refine heap_at1_of (by first | omega | (simp; done) | (simp; omega)) ?_))
  obtain ⟨Bg10, qg10, rg10, zg10⟩ := keep_blk hb10 (g := w5.heap.size) (by repeat (first | assumption | exact heap_alloc_at _ (by first | rfl | (simp; done) | omega) | refine heap_alloc_of _ ?_ | refine heap_setCell_of _ (by first | omega | (simp; done) | (simp; omega)) ?_ | refine heap_setCell_same _ ?_ | exact heap_at1_same (by first | omega | (simp; done) | (simp; omega)) | refine heap_at1_of (by first | omega | (simp; done) | (simp; omega)) ?_))
  clear Ba9 qa9 ra9 Bs9 qs9 rs9 Bg9 qg9 rg9
  have t10 := t9.trans (hb10.mono t9.size)
  have y10 := hb10.size
  have og10 := og9.below hb10 (Nat.le_refl _)
  have hw10 := hw9.below hb10
  go_wp2_with fail
  refine (markGrid_any RW RH _ _ _ rs 1 _ og10 hrl' (by omega) (by omega)).mono ?_
  rintro e w11 ⟨rfl, og11, hg11⟩
  have m11 := hg11.size
  obtain ⟨Ba11, qa11, ra11, za11⟩ := keep_gr hg11 i5 Ba10 (by omega)
  obtain ⟨Bs11, qs11, rs11, zs11⟩ := keep_gr hg11 i5 Bs10 (by omega)
  obtain ⟨Bg11, qg11, rg11, zg11⟩ := keep_gr hg11 i5 Bg10 (by omega)
  clear Ba10 qa10 ra10 Bs10 qs10 rs10 Bg10 qg10 rg10
  have t11 : Below w.heap.size w w11 := below_grown t10 hg11 i5 (by omega) (by omega)
  have hw11 := hw10.grown hg11 i5 (fun ad h _ => .inl (by have := i3 ad h; omega))
  have hm11 : Gs w11 A5 (markC 1 rs.length) := og11.gs
  have hk11 : ¬ (1 : Int) + 6 * (rs.length : Int) < 0 := by omega
  go_wp2_with fail
  refine (heldGrid_any RW RH _ _ rs.length 1 _ hm11 hrl' (by omega) (by omega)).mono ?_
  rintro e w12 ⟨rfl, hb12⟩
  obtain ⟨Ba12, qa12, ra12, za12⟩ := keep_blk hb12 (g := w.heap.size) (by repeat (first | assumption | exact heap_alloc_at _ (by first | rfl | (simp; done) | omega) | refine heap_alloc_of _ ?_ | refine heap_setCell_of _ (by first | omega | (simp; done) | (simp; omega)) ?_ | refine heap_setCell_same _ ?_ | exact heap_at1_same (by first | omega | (simp; done) | (simp; omega)) | refine heap_at1_of (by first | omega | (simp; done) | (simp; omega)) ?_))
  obtain ⟨Bs12, qs12, rs12, zs12⟩ := keep_blk hb12 (g := w3.heap.size) (by repeat (first | assumption | exact heap_alloc_at _ (by first | rfl | (simp; done) | omega) | refine heap_alloc_of _ ?_ | refine heap_setCell_of _ (by first | omega | (simp; done) | (simp; omega)) ?_ | refine heap_setCell_same _ ?_ | exact heap_at1_same (by first | omega | (simp; done) | (simp; omega)) | refine heap_at1_of (by first | omega | (simp; done) | (simp; omega)) ?_))
  obtain ⟨Bg12, qg12, rg12, zg12⟩ := keep_blk hb12 (g := w5.heap.size) (by repeat (first | assumption | exact heap_alloc_at _ (by first | rfl | (simp; done) | omega) | refine heap_alloc_of _ ?_ | refine heap_setCell_of _ (by first | omega | (simp; done) | (simp; omega)) ?_ | refine heap_setCell_same _ ?_ | exact heap_at1_same (by first | omega | (simp; done) | (simp; omega)) | refine heap_at1_of (by first | omega | (simp; done) | (simp; omega)) ?_))
  clear Ba11 qa11 ra11 Bs11 qs11 rs11 Bg11 qg11 rg11
  have t12 := t11.trans (hb12.mono t11.size)
  have hw12 := hw11.below hb12
  have hm12 := hm11.below hb12
  go_wp2_with fail
  refine (toGrid_any W H _ _ cs _ (ha.below t12) hlc).mono ?_
  rintro e w13 ⟨A13, c13, rfl, ho13, hs13, hi13, hb13⟩
  obtain ⟨Bs13, qs13, rs13, zs13⟩ := keep_blk hb13 (g := w3.heap.size) (by repeat (first | assumption | exact heap_alloc_at _ (by first | rfl | (simp; done) | omega) | refine heap_alloc_of _ ?_ | refine heap_setCell_of _ (by first | omega | (simp; done) | (simp; omega)) ?_ | refine heap_setCell_same _ ?_ | exact heap_at1_same (by first | omega | (simp; done) | (simp; omega)) | refine heap_at1_of (by first | omega | (simp; done) | (simp; omega)) ?_))
  obtain ⟨Bg13, qg13, rg13, zg13⟩ := keep_blk hb13 (g := w5.heap.size) (by repeat (first | assumption | exact heap_alloc_at _ (by first | rfl | (simp; done) | omega) | refine heap_alloc_of _ ?_ | refine heap_setCell_of _ (by first | omega | (simp; done) | (simp; omega)) ?_ | refine heap_setCell_same _ ?_ | exact heap_at1_same (by first | omega | (simp; done) | (simp; omega)) | refine heap_at1_of (by first | omega | (simp; done) | (simp; omega)) ?_))
  clear Bs12 qs12 rs12 Bg12 qg12 rg12
  have t13 := t12.trans (hb13.mono t12.size)
  go_wp2_with fail
  refine (gridRoll_impl W H _ _ cs x y n _ hs13 ho13.cap hlc).mono ?_
  rw [HS]
  rintro e w14 ⟨A14, c14, rfl, ho14, hs14, hi14, hb14⟩
  replace hs14 : Gs w14 A14 rs := hs14
  obtain ⟨Bs14, qs14, rs14, zs14⟩ := keep_blk hb14 (g := w3.heap.size) (by repeat (first | assumption | exact heap_alloc_at _ (by first | rfl | (simp; done) | omega) | refine heap_alloc_of _ ?_ | refine heap_setCell_of _ (by first | omega | (simp; done) | (simp; omega)) ?_ | refine heap_setCell_same _ ?_ | exact heap_at1_same (by first | omega | (simp; done) | (simp; omega)) | refine heap_at1_of (by first | omega | (simp; done) | (simp; omega)) ?_))
  obtain ⟨Bg14, qg14, rg14, zg14⟩ := keep_blk hb14 (g := w5.heap.size) (by repeat (first | assumption | exact heap_alloc_at _ (by first | rfl | (simp; done) | omega) | refine heap_alloc_of _ ?_ | refine heap_setCell_of _ (by first | omega | (simp; done) | (simp; omega)) ?_ | refine heap_setCell_same _ ?_ | exact heap_at1_same (by first | omega | (simp; done) | (simp; omega)) | refine heap_at1_of (by first | omega | (simp; done) | (simp; omega)) ?_))
  clear Bs13 qs13 rs13 Bg13 qg13 rg13
  have t14 := t13.trans (hb14.mono t13.size)
  have hw14 := (hw12.below hb13).below hb14
  have hm14 := (hm12.below hb13).below hb14
  go_wp2_with fail
  have hb140 : Below w14.heap.size w14 (w14.alloc (.cells #[.int .i64 RW, .int .i64 RH, .slice A14 rs.length c14] 33)) := (Below.refl _ _).alloc (Nat.le_refl _) _
  refine (eqGrid_same RW RH _ _ _ _ rs _ (hs14.below hb140) (hw14.below hb140) (by omega)).mono ?_
  rintro e w15 ⟨rfl, hb15⟩
  obtain ⟨Bg15, qg15, rg15, zg15⟩ := keep_blk hb15 (g := w5.heap.size) (by repeat (first | assumption | exact heap_alloc_at _ (by first | rfl | (simp; done) | omega) | refine heap_alloc_of _ ?_ | refine heap_setCell_of _ (by first | omega | (simp; done) | (simp; omega)) ?_ | refine heap_setCell_same _ ?_ | exact heap_at1_same (by first | omega | (simp; done) | (simp; omega)) | refine heap_at1_of (by first | omega | (simp; done) | (simp; omega)) ?_))
  clear Bg14 qg14 rg14
  have hb145 := hb140.trans (hb15.mono hb140.size)
  have t15 := t14.trans (hb145.mono t14.size)
  have hm15 := hm14.below hb145
  go_wp2_with fail
  refine (heldGrid_any RW RH _ _ rs.length 1 _ hm15 hrl' (by omega) (by omega)).mono ?_
  rintro e w16 ⟨rfl, hb16⟩
  go_wp2_with fail
  go_ret
  exact ⟨rfl, t15.trans (hb16.mono t15.size)⟩
end Go.Proofs.Ytdmhmelmoobekaa
