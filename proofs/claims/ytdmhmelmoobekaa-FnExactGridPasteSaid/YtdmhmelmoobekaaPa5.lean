/- The law of GridPaste. -/
import Derived.Test.YtdmhmelmoobekaaPa2
import Derived.Test.YtdmhmelmoobekaaPa4
import Derived.Test.YtdmhmelmoobekaaCu
import Derived.Deep.RegionHeld3
import Derived.Deep.RegionWith
import Derived.Deep.DeepCutAuto
namespace Go.Proofs.Ytdmhmelmoobekaa
open Go.RowKit
set_option linter.unusedVariables false
set_option maxRecDepth 100000

set_option maxHeartbeats 16000000 in
theorem walk_FnExactGridPaste (vs0 vs1 : List Value) (x y : Int) (w : World) (h0 : Rd Try.prog w 24 vs0) (h1 : Rd Try.prog w 24 vs1) (hx : (Lit.int .i64 x).wf = true) (hy : (Lit.int .i64 y).wf = true) :
    Calls Try.prog 9 #[.agg vs0.toArray, .agg vs1.toArray, .int .i64 x, .int .i64 y] w fun e w' => e = .returned (.bool true) ∧ Below w.heap.size w w' := by
  clear hx hy
  obtain ⟨W, H, A, cs, c, rfl, ha, hm, hW, hH⟩ := rd_grid h0
  obtain ⟨W', H', A', ds, c', rfl, ha', hm', hW', hH'⟩ := rd_grid h1
  clear h0 h1
  by_cases hbig : (1048576 : Int) < cs.length
  · have HS1 : Hid (szR 1048576 cs.length = -1) := szR_no hbig
    go_enter Try.func9, Try.ntmps9
    go_wp2_with fail
    have t0 : Below w.heap.size w ((w.alloc (.cells #[.int .i64 W, .int .i64 H, .slice A cs.length c] 24)).alloc (.cells #[.int .i64 W', .int .i64 H', .slice A' ds.length c'] 24)) := by (repeat (first | exact Below.refl _ _ | (refine Below.alloc ?_ (by first | omega | (simp; done) | (simp; omega)) _) | (refine Below.drew ?_) | (refine below_drewN ?_ _) | (refine below_at1 ?_ (by first | omega | (simp; done) | (simp; omega))) | (refine Below.setCell ?_ (by first | omega | (simp; done) | (simp; omega)) _) | (refine Below.trans ?_ (Below.mono (by assumption) (by first | omega | (simp; done) | (simp; omega))))))
    refine (szGrid_any W H A cs.length c 1048576 _ hm (by omega) (by omega)).mono ?_
    rintro e w1 ⟨he, hb1⟩
    rw [HS1.out] at he
    subst he
    obtain ⟨Ba1, qa1, ra1, za1⟩ := keep_blk hb1 (g := w.heap.size) (by repeat (first | assumption | exact heap_alloc_at _ (by first | rfl | (simp; done) | omega) | refine heap_alloc_of _ ?_ | refine heap_setCell_of _ (by first | omega | (simp; done) | (simp; omega)) ?_ | refine heap_setCell_same _ ?_ | exact heap_at1_same (by first | omega | (simp; done) | (simp; omega)) | refine heap_at1_of (by first | omega | (simp; done) | (simp; omega)) ?_))
    obtain ⟨Bd1, qd1, rd1, zd1⟩ := keep_blk hb1 (g := w.heap.size + 1) (by repeat (first | assumption | exact heap_alloc_at _ (by first | rfl | (simp; done) | omega) | refine heap_alloc_of _ ?_ | refine heap_setCell_of _ (by first | omega | (simp; done) | (simp; omega)) ?_ | refine heap_setCell_same _ ?_ | exact heap_at1_same (by first | omega | (simp; done) | (simp; omega)) | refine heap_at1_of (by first | omega | (simp; done) | (simp; omega)) ?_))
    have t1 := t0.trans (hb1.mono t0.size)
    go_wp2_with fail
    go_ret
    exact ⟨rfl, t1⟩
  have HS1 : Hid (szR 1048576 cs.length = 1048576 - cs.length) := szR_yes hbig
  have hp1 : ¬ (1048576 : Int) - cs.length < 0 := by omega
  by_cases hbig2 : (1048576 : Int) - cs.length < ds.length
  · have HS2 : Hid (szR (1048576 - cs.length) ds.length = -1) := szR_no hbig2
    go_enter Try.func9, Try.ntmps9
    go_wp2_with fail
    have t0 : Below w.heap.size w ((w.alloc (.cells #[.int .i64 W, .int .i64 H, .slice A cs.length c] 24)).alloc (.cells #[.int .i64 W', .int .i64 H', .slice A' ds.length c'] 24)) := by (repeat (first | exact Below.refl _ _ | (refine Below.alloc ?_ (by first | omega | (simp; done) | (simp; omega)) _) | (refine Below.drew ?_) | (refine below_drewN ?_ _) | (refine below_at1 ?_ (by first | omega | (simp; done) | (simp; omega))) | (refine Below.setCell ?_ (by first | omega | (simp; done) | (simp; omega)) _) | (refine Below.trans ?_ (Below.mono (by assumption) (by first | omega | (simp; done) | (simp; omega))))))
    refine (szGrid_any W H A cs.length c 1048576 _ hm (by omega) (by omega)).mono ?_
    rintro e w1 ⟨he, hb1⟩
    rw [HS1.out] at he
    subst he
    obtain ⟨Ba1, qa1, ra1, za1⟩ := keep_blk hb1 (g := w.heap.size) (by repeat (first | assumption | exact heap_alloc_at _ (by first | rfl | (simp; done) | omega) | refine heap_alloc_of _ ?_ | refine heap_setCell_of _ (by first | omega | (simp; done) | (simp; omega)) ?_ | refine heap_setCell_same _ ?_ | exact heap_at1_same (by first | omega | (simp; done) | (simp; omega)) | refine heap_at1_of (by first | omega | (simp; done) | (simp; omega)) ?_))
    obtain ⟨Bd1, qd1, rd1, zd1⟩ := keep_blk hb1 (g := w.heap.size + 1) (by repeat (first | assumption | exact heap_alloc_at _ (by first | rfl | (simp; done) | omega) | refine heap_alloc_of _ ?_ | refine heap_setCell_of _ (by first | omega | (simp; done) | (simp; omega)) ?_ | refine heap_setCell_same _ ?_ | exact heap_at1_same (by first | omega | (simp; done) | (simp; omega)) | refine heap_at1_of (by first | omega | (simp; done) | (simp; omega)) ?_))
    have t1 := t0.trans (hb1.mono t0.size)
    go_wp2_with fail
    refine (szGrid_any W' H' A' ds.length c' _ _ hm' (by omega) (by omega)).mono ?_
    rintro e w2 ⟨he, hb2⟩
    rw [HS2.out] at he
    subst he
    obtain ⟨Ba2, qa2, ra2, za2⟩ := keep_blk hb2 Ba1
    obtain ⟨Bd2, qd2, rd2, zd2⟩ := keep_blk hb2 Bd1
    clear Ba1 qa1 ra1 Bd1 qd1 rd1
    have m2 := hb2.size
    have t2 := t1.trans (hb2.mono t1.size)
    go_wp2_with fail
    go_ret
    exact ⟨rfl, t2⟩
  have HS2 : Hid (szR (1048576 - cs.length) ds.length = 1048576 - cs.length - ds.length) := szR_yes hbig2
  have hp2 : ¬ (1048576 : Int) - cs.length - ds.length < 0 := by omega
  have hlc : cs.length ≤ 1048576 := by omega
  have hlc' : ds.length ≤ 1048576 := by omega
  have hrl : (paR W H cs W' H' ds x y).2.2.length ≤ 1048576 := Nat.le_trans pa_len hlc
  have ks := fun (w : World) A c A' c' (h : Gs w A cs) (h' : Gs w A' ds) => gridPaste_spec W H A c cs W' H' A' c' ds x y w h h' hlc hlc'
  have ki := fun (w : World) A c A' c' (h : Gs w A cs) (h' : Gs w A' ds) (hc : cs.length ≤ c) (hc' : ds.length ≤ c') => gridPaste_impl W H A c cs W' H' A' c' ds x y w h h' hc hc' hlc hlc'
  generalize paR W H cs W' H' ds x y = S at hrl ks ki
  obtain ⟨RW, RH, rs⟩ := S
  have hrl' : rs.length ≤ 1048576 := hrl
  have KS := Lib.hid ks
  have KI := Lib.hid ki
  clear ks ki hrl
  go_enter Try.func9, Try.ntmps9
  go_wp2_with fail
  have t0 : Below w.heap.size w ((w.alloc (.cells #[.int .i64 W, .int .i64 H, .slice A cs.length c] 24)).alloc (.cells #[.int .i64 W', .int .i64 H', .slice A' ds.length c'] 24)) := by (repeat (first | exact Below.refl _ _ | (refine Below.alloc ?_ (by first | omega | (simp; done) | (simp; omega)) _) | (refine Below.drew ?_) | (refine below_drewN ?_ _) | (refine below_at1 ?_ (by first | omega | (simp; done) | (simp; omega))) | (refine Below.setCell ?_ (by first | omega | (simp; done) | (simp; omega)) _) | (refine Below.trans ?_ (Below.mono (by assumption) (by first | omega | (simp; done) | (simp; omega))))))
  refine (szGrid_any W H A cs.length c 1048576 _ hm (by omega) (by omega)).mono ?_
  rintro e w1 ⟨he, hb1⟩
  rw [HS1.out] at he
  subst he
  obtain ⟨Ba1, qa1, ra1, za1⟩ := keep_blk hb1 (g := w.heap.size) (by repeat (first | assumption | exact heap_alloc_at _ (by first | rfl | (simp; done) | omega) | refine heap_alloc_of _ ?_ | refine heap_setCell_of _ (by first | omega | (simp; done) | (simp; omega)) ?_ | refine heap_setCell_same _ ?_ | exact heap_at1_same (by first | omega | (simp; done) | (simp; omega)) | refine heap_at1_of (by first | omega | (simp; done) | (simp; omega)) ?_))
  obtain ⟨Bd1, qd1, rd1, zd1⟩ := keep_blk hb1 (g := w.heap.size + 1) (by repeat (first | assumption | exact heap_alloc_at _ (by first | rfl | (simp; done) | omega) | refine heap_alloc_of _ ?_ | refine heap_setCell_of _ (by first | omega | (simp; done) | (simp; omega)) ?_ | refine heap_setCell_same _ ?_ | exact heap_at1_same (by first | omega | (simp; done) | (simp; omega)) | refine heap_at1_of (by first | omega | (simp; done) | (simp; omega)) ?_))
  have t1 := t0.trans (hb1.mono t0.size)
  go_wp2_with fail
  refine (szGrid_any W' H' A' ds.length c' _ _ hm' (by omega) (by omega)).mono ?_
  rintro e w2 ⟨he, hb2⟩
  rw [HS2.out] at he
  subst he
  obtain ⟨Ba2, qa2, ra2, za2⟩ := keep_blk hb2 Ba1
  obtain ⟨Bd2, qd2, rd2, zd2⟩ := keep_blk hb2 Bd1
  clear Ba1 qa1 ra1 Bd1 qd1 rd1
  have m2 := hb2.size
  have t2 := t1.trans (hb2.mono t1.size)
  go_upto_region 8 with fail
  have ca2_0 : w2.cell? ⟨w.heap.size, 0, none⟩ = some (.int .i64 W) := by rw [qa2]; rfl
  have ca2_1 : w2.cell? ⟨w.heap.size, 1, none⟩ = some (.int .i64 H) := by rw [qa2]; rfl
  have ca2_2 : w2.cell? ⟨w.heap.size, 2, none⟩ = some (.slice A cs.length c) := by rw [qa2]; rfl
  have cd2_0 : w2.cell? ⟨w.heap.size + 1, 0, none⟩ = some (.int .i64 W') := by rw [qd2]; rfl
  have cd2_1 : w2.cell? ⟨w.heap.size + 1, 1, none⟩ = some (.int .i64 H') := by rw [qd2]; rfl
  have cd2_2 : w2.cell? ⟨w.heap.size + 1, 2, none⟩ = some (.slice A' ds.length c') := by rw [qd2]; rfl
  go_cut [10] (fun s wx => CutG w2 RW RH rs wx s)
  case first =>
    first | (go_region_held3 (fun w' => Below w2.heap.size w2 w' ∧ w'.cell? ⟨w.heap.size, 0, none⟩ = some (.int .i64 W) ∧ w'.cell? ⟨w.heap.size, 1, none⟩ = some (.int .i64 H) ∧ w'.cell? ⟨w.heap.size, 2, none⟩ = some (.slice A cs.length c) ∧ w'.cell? ⟨w.heap.size + 1, 0, none⟩ = some (.int .i64 W') ∧ w'.cell? ⟨w.heap.size + 1, 1, none⟩ = some (.int .i64 H') ∧ w'.cell? ⟨w.heap.size + 1, 2, none⟩ = some (.slice A' ds.length c'))
      (first | with_reducible assumption | exact ⟨Below.drew (Below.refl _ _), ca2_0, ca2_1, ca2_2, cd2_0, cd2_1, cd2_2⟩ | exact ⟨Below.alloc (Below.drew (Below.refl _ _)) (by first | omega | (simp; done) | (simp; omega)) _, cell_alloc (cell_drew ca2_0) _, cell_alloc (cell_drew ca2_1) _, cell_alloc (cell_drew ca2_2) _, cell_alloc (cell_drew cd2_0) _, cell_alloc (cell_drew cd2_1) _, cell_alloc (cell_drew cd2_2) _⟩ | exact ⟨Below.alloc js0 (by first | omega | (simp; done) | (simp; omega)) _, cell_alloc js0ca0 _, cell_alloc js0ca1 _, cell_alloc js0ca2 _, cell_alloc js0cd0 _, cell_alloc js0cd1 _, cell_alloc js0cd2 _⟩ | exact ⟨Below.alloc js1 (by first | omega | (simp; done) | (simp; omega)) _, cell_alloc js1ca0 _, cell_alloc js1ca1 _, cell_alloc js1ca2 _, cell_alloc js1cd0 _, cell_alloc js1cd1 _, cell_alloc js1cd2 _⟩ | exact ⟨Below.alloc js2 (by first | omega | (simp; done) | (simp; omega)) _, cell_alloc js2ca0 _, cell_alloc js2ca1 _, cell_alloc js2ca2 _, cell_alloc js2cd0 _, cell_alloc js2cd1 _, cell_alloc js2cd2 _⟩ | exact ⟨below_three js2 (by first | omega | (simp; done) | (simp; omega)), cell_three js2ca0 (by omega), cell_three js2ca1 (by omega), cell_three js2ca2 (by omega), cell_three js2cd0 (by omega), cell_three js2cd1 (by omega), cell_three js2cd2 (by omega)⟩)
      ((first | (go_at_call_of 17 cs; refine (toGrid_any W H _ _ cs _ (ha.below (by repeat (first | assumption | exact Below.refl _ _ | (refine Below.alloc ?_ (by first | omega | (simp; done) | (simp; omega)) _) | (refine Below.drew ?_)))) hlc).mono ?_; rintro e jw0 ⟨j0A, j0c, rfl, j0ho, j0hs, j0hi, jhb0⟩; have ju0 : Below w2.heap.size w2 jw0 := Below.trans (by repeat (first | assumption | exact Below.refl _ _ | (refine Below.alloc ?_ (by first | omega | (simp; done) | (simp; omega)) _) | (refine Below.drew ?_))) (jhb0.mono (by first | omega | (simp; done) | (simp; omega))); have js0 : Below w2.heap.size w2 jw0 := ju0; have jz0 : w2.heap.size ≤ jw0.heap.size := ju0.size; (first | (have hxjF0 := keep_blk jhb0 (g := w2.heap.size) (heap_alloc_at _ rfl); obtain ⟨jF0, _, _, jF0z⟩ := hxjF0) | skip); have js0ca0 := (js0.cell (World.block_lt_of_cell? w2 _ ca2_0)).trans ca2_0; have js0ca1 := (js0.cell (World.block_lt_of_cell? w2 _ ca2_1)).trans ca2_1; have js0ca2 := (js0.cell (World.block_lt_of_cell? w2 _ ca2_2)).trans ca2_2; have js0cd0 := (js0.cell (World.block_lt_of_cell? w2 _ cd2_0)).trans cd2_0; have js0cd1 := (js0.cell (World.block_lt_of_cell? w2 _ cd2_1)).trans cd2_1; have js0cd2 := (js0.cell (World.block_lt_of_cell? w2 _ cd2_2)).trans cd2_2; have hkeep_js0 := And.intro (js0) (And.intro (js0ca0) (And.intro (js0ca1) (And.intro (js0ca2) (And.intro (js0cd0) (And.intro (js0cd1) (js0cd2))))))) | (go_at_call_of 17 ds; refine (toGrid_any W' H' _ _ ds _ (ha'.below (t2.trans (Below.mono (by repeat (first | assumption | exact Below.refl _ _ | (refine Below.alloc ?_ (by first | omega | (simp; done) | (simp; omega)) _) | (refine Below.drew ?_))) t2.size))) hlc').mono ?_; rintro e jw1 ⟨j1A, j1c, rfl, j1ho, j1hs, j1hi, jhb1⟩; have ju1 : Below jw0.heap.size jw0 jw1 := Below.trans (by repeat (first | assumption | exact Below.refl _ _ | (refine Below.alloc ?_ (by first | omega | (simp; done) | (simp; omega)) _) | (refine Below.drew ?_))) (jhb1.mono (by first | omega | (simp; done) | (simp; omega))); have js1 : Below w2.heap.size w2 jw1 := js0.trans (ju1.mono js0.size); have jz1 : jw0.heap.size ≤ jw1.heap.size := ju1.size; (first | (have hxjF1 := keep_blk jhb1 jF0; obtain ⟨jF1, _, _, jF1z⟩ := hxjF1) | (have hxjF1 := keep_blk jhb1 (g := jw0.heap.size) (heap_alloc_at _ rfl); obtain ⟨jF1, _, _, jF1z⟩ := hxjF1) | skip); have js1ca0 := (js1.cell (World.block_lt_of_cell? w2 _ ca2_0)).trans ca2_0; have js1ca1 := (js1.cell (World.block_lt_of_cell? w2 _ ca2_1)).trans ca2_1; have js1ca2 := (js1.cell (World.block_lt_of_cell? w2 _ ca2_2)).trans ca2_2; have js1cd0 := (js1.cell (World.block_lt_of_cell? w2 _ cd2_0)).trans cd2_0; have js1cd1 := (js1.cell (World.block_lt_of_cell? w2 _ cd2_1)).trans cd2_1; have js1cd2 := (js1.cell (World.block_lt_of_cell? w2 _ cd2_2)).trans cd2_2; have hkeep_js1 := And.intro (js1) (And.intro (js1ca0) (And.intro (js1ca1) (And.intro (js1ca2) (And.intro (js1cd0) (And.intro (js1cd1) (js1cd2))))))) | (go_at_call 42; refine (KS.out _ _ _ _ _ (j0hs.below (by repeat (first | assumption | exact Below.refl _ _ | (refine Below.alloc ?_ (by first | omega | (simp; done) | (simp; omega)) _) | (refine Below.drew ?_)))) (j1hs.below (by repeat (first | assumption | exact Below.refl _ _ | (refine Below.alloc ?_ (by first | omega | (simp; done) | (simp; omega)) _) | (refine Below.drew ?_))))).mono ?_; rintro e jw2 ⟨j2A, j2c, rfl, j2ho, j2hs, j2hi, jhb2⟩; have ju2 : Below jw1.heap.size jw1 jw2 := Below.trans (by repeat (first | assumption | exact Below.refl _ _ | (refine Below.alloc ?_ (by first | omega | (simp; done) | (simp; omega)) _) | (refine Below.drew ?_))) (jhb2.mono (by first | omega | (simp; done) | (simp; omega))); have js2 : Below w2.heap.size w2 jw2 := js1.trans (ju2.mono js1.size); have jz2 : jw1.heap.size ≤ jw2.heap.size := ju2.size; (first | (have hxjF2 := keep_blk jhb2 jF1; obtain ⟨jF2, _, _, jF2z⟩ := hxjF2) | (have hxjF2 := keep_blk jhb2 (g := jw1.heap.size) (heap_alloc_at _ rfl); obtain ⟨jF2, _, _, jF2z⟩ := hxjF2) | skip); have js2ca0 := (js2.cell (World.block_lt_of_cell? w2 _ ca2_0)).trans ca2_0; have js2ca1 := (js2.cell (World.block_lt_of_cell? w2 _ ca2_1)).trans ca2_1; have js2ca2 := (js2.cell (World.block_lt_of_cell? w2 _ ca2_2)).trans ca2_2; have js2cd0 := (js2.cell (World.block_lt_of_cell? w2 _ cd2_0)).trans cd2_0; have js2cd1 := (js2.cell (World.block_lt_of_cell? w2 _ cd2_1)).trans cd2_1; have js2cd2 := (js2.cell (World.block_lt_of_cell? w2 _ cd2_2)).trans cd2_2; have hkeep_js2 := And.intro (js2) (And.intro (js2ca0) (And.intro (js2ca1) (And.intro (js2ca2) (And.intro (js2cd0) (And.intro (js2cd1) (js2cd2)))))))))) | fail
    all_goals (go_wp2_with fail; go_meet; first | exact cutB jF2 (by first | omega | (simp; done) | (simp; omega)) (by first | omega | (simp; done) | (simp; omega)) j2ho j2hi (by first | omega | (simp; done) | (simp; omega)) (by first | omega | (simp; done) | (simp; omega)) js2 | exact cutA j2ho j2hi (by first | omega | (simp; done) | (simp; omega)) (by first | omega | (simp; done) | (simp; omega)) js2)
  case rest =>
  revert wc
  intro w3 hcut
  obtain ⟨gs, A3, c3, lo3, hi3, rfl, Bs3, ho3, i3, l3_1, l3_2, l3_3, l3_4, l3_5, l3_6, hb3⟩ := hcut
  have qs3 : ∀ i, w3.cell? ⟨gs, i, none⟩ = _ := fun i => cell_of_row w3 _ i _ _ (0, 0) Bs3
  have rs3 : ∀ i, w3.frozen? ⟨gs, i, none⟩ = false := fun i => by simp [World.frozen?, Bs3]
  obtain ⟨Ba3, qa3, ra3, za3⟩ := keep_blk hb3 Ba2
  obtain ⟨Bd3, qd3, rd3, zd3⟩ := keep_blk hb3 Bd2
  clear Ba2 qa2 ra2 Bd2 qd2 rd2
  have m3 := hb3.size
  have t3 := t2.trans (hb3.mono t2.size)
  clear ca2_0 ca2_1 ca2_2 cd2_0 cd2_1 cd2_2
  go_wp2_with fail
  refine (toGrid_any W H _ _ cs _ (ha.below t3) hlc).mono ?_
  rintro e w4 ⟨A4, c4, rfl, ho4, hs4, i4, hb4⟩
  obtain ⟨Ba4, qa4, ra4, za4⟩ := keep_blk hb4 Ba3
  obtain ⟨Bd4, qd4, rd4, zd4⟩ := keep_blk hb4 Bd3
  obtain ⟨Bs4, qs4, rs4, zs4⟩ := keep_blk hb4 Bs3
  clear Ba3 qa3 ra3 Bd3 qd3 rd3 Bs3 qs3 rs3
  have m4 := hb4.size
  have t4 := t3.trans (hb4.mono t3.size)
  have gs4 := ho3.gs.below hb4
  go_wp2_with fail
  obtain ⟨w5, hw5⟩ : ∃ w5, w5 = w4.alloc (.cells #[.int .i64 W, .int .i64 H, .slice A4 cs.length c4] 33) := ⟨_, rfl⟩
  rw [← hw5]
  have Ba5 := heap_alloc_of (w := w4) (.cells #[.int .i64 W, .int .i64 H, .slice A4 cs.length c4] 33) Ba4
  have Bd5 := heap_alloc_of (w := w4) (.cells #[.int .i64 W, .int .i64 H, .slice A4 cs.length c4] 33) Bd4
  have Bs5 := heap_alloc_of (w := w4) (.cells #[.int .i64 W, .int .i64 H, .slice A4 cs.length c4] 33) Bs4
  have Bx5 : (w4.alloc (.cells #[.int .i64 W, .int .i64 H, .slice A4 cs.length c4] 33)).heap[w4.heap.size]? = _ := heap_alloc_new _ _
  have hb5 : Below w4.heap.size w4 (w4.alloc (.cells #[.int .i64 W, .int .i64 H, .slice A4 cs.length c4] 33)) := (Below.refl _ _).alloc (Nat.le_refl _) _
  have m5 : w4.heap.size < (w4.alloc (.cells #[.int .i64 W, .int .i64 H, .slice A4 cs.length c4] 33)).heap.size := by simp
  rw [← hw5] at Ba5 Bd5 Bs5 Bx5 hb5 m5
  clear hw5
  clear Ba4 qa4 ra4 Bd4 qd4 rd4 Bs4 qs4 rs4
  have qa5 : ∀ i, w5.cell? ⟨w.heap.size, i, none⟩ = _ := fun i => cell_of_row w5 _ i _ _ (0, 0) Ba5
  have ra5 : ∀ i, w5.frozen? ⟨w.heap.size, i, none⟩ = false := fun i => by simp [World.frozen?, Ba5]
  have qd5 : ∀ i, w5.cell? ⟨w.heap.size + 1, i, none⟩ = _ := fun i => cell_of_row w5 _ i _ _ (0, 0) Bd5
  have rd5 : ∀ i, w5.frozen? ⟨w.heap.size + 1, i, none⟩ = false := fun i => by simp [World.frozen?, Bd5]
  have qs5 : ∀ i, w5.cell? ⟨gs, i, none⟩ = _ := fun i => cell_of_row w5 _ i _ _ (0, 0) Bs5
  have rs5 : ∀ i, w5.frozen? ⟨gs, i, none⟩ = false := fun i => by simp [World.frozen?, Bs5]
  have qx5 : ∀ i, w5.cell? ⟨w4.heap.size, i, none⟩ = _ := fun i => cell_of_row w5 _ i _ _ (0, 0) Bx5
  have rx5 : ∀ i, w5.frozen? ⟨w4.heap.size, i, none⟩ = false := fun i => by simp [World.frozen?, Bx5]
  have t5 := t4.trans (hb5.mono t4.size)
  have ox5 := ho4.below hb5 (Nat.le_refl _)
  have gs5 := gs4.below hb5
  refine (toGrid_any W' H' _ _ ds _ (ha'.below t5) hlc').mono ?_
  rintro e w6 ⟨A6, c6, rfl, ho6, hs6, i6, hb6⟩
  obtain ⟨Ba6, qa6, ra6, za6⟩ := keep_blk hb6 Ba5
  obtain ⟨Bd6, qd6, rd6, zd6⟩ := keep_blk hb6 Bd5
  obtain ⟨Bs6, qs6, rs6, zs6⟩ := keep_blk hb6 Bs5
  obtain ⟨Bx6, qx6, rx6, zx6⟩ := keep_blk hb6 Bx5
  clear Ba5 qa5 ra5 Bd5 qd5 rd5 Bs5 qs5 rs5 Bx5 qx5 rx5
  have m6 := hb6.size
  have t6 := t5.trans (hb6.mono t5.size)
  have ox6 := ox5.below hb6 (Nat.le_refl _)
  have gs6 := gs5.below hb6
  go_wp2_with fail
  obtain ⟨w7, hw7⟩ : ∃ w7, w7 = w6.alloc (.cells #[.int .i64 W', .int .i64 H', .slice A6 ds.length c6] 33) := ⟨_, rfl⟩
  rw [← hw7]
  have Ba7 := heap_alloc_of (w := w6) (.cells #[.int .i64 W', .int .i64 H', .slice A6 ds.length c6] 33) Ba6
  have Bd7 := heap_alloc_of (w := w6) (.cells #[.int .i64 W', .int .i64 H', .slice A6 ds.length c6] 33) Bd6
  have Bs7 := heap_alloc_of (w := w6) (.cells #[.int .i64 W', .int .i64 H', .slice A6 ds.length c6] 33) Bs6
  have Bx7 := heap_alloc_of (w := w6) (.cells #[.int .i64 W', .int .i64 H', .slice A6 ds.length c6] 33) Bx6
  have By7 : (w6.alloc (.cells #[.int .i64 W', .int .i64 H', .slice A6 ds.length c6] 33)).heap[w6.heap.size]? = _ := heap_alloc_new _ _
  have hb7 : Below w6.heap.size w6 (w6.alloc (.cells #[.int .i64 W', .int .i64 H', .slice A6 ds.length c6] 33)) := (Below.refl _ _).alloc (Nat.le_refl _) _
  have m7 : w6.heap.size < (w6.alloc (.cells #[.int .i64 W', .int .i64 H', .slice A6 ds.length c6] 33)).heap.size := by simp
  rw [← hw7] at Ba7 Bd7 Bs7 Bx7 By7 hb7 m7
  clear hw7
  clear Ba6 qa6 ra6 Bd6 qd6 rd6 Bs6 qs6 rs6 Bx6 qx6 rx6
  have qa7 : ∀ i, w7.cell? ⟨w.heap.size, i, none⟩ = _ := fun i => cell_of_row w7 _ i _ _ (0, 0) Ba7
  have ra7 : ∀ i, w7.frozen? ⟨w.heap.size, i, none⟩ = false := fun i => by simp [World.frozen?, Ba7]
  have qd7 : ∀ i, w7.cell? ⟨w.heap.size + 1, i, none⟩ = _ := fun i => cell_of_row w7 _ i _ _ (0, 0) Bd7
  have rd7 : ∀ i, w7.frozen? ⟨w.heap.size + 1, i, none⟩ = false := fun i => by simp [World.frozen?, Bd7]
  have qs7 : ∀ i, w7.cell? ⟨gs, i, none⟩ = _ := fun i => cell_of_row w7 _ i _ _ (0, 0) Bs7
  have rs7 : ∀ i, w7.frozen? ⟨gs, i, none⟩ = false := fun i => by simp [World.frozen?, Bs7]
  have qx7 : ∀ i, w7.cell? ⟨w4.heap.size, i, none⟩ = _ := fun i => cell_of_row w7 _ i _ _ (0, 0) Bx7
  have rx7 : ∀ i, w7.frozen? ⟨w4.heap.size, i, none⟩ = false := fun i => by simp [World.frozen?, Bx7]
  have qy7 : ∀ i, w7.cell? ⟨w6.heap.size, i, none⟩ = _ := fun i => cell_of_row w7 _ i _ _ (0, 0) By7
  have ry7 : ∀ i, w7.frozen? ⟨w6.heap.size, i, none⟩ = false := fun i => by simp [World.frozen?, By7]
  have t7 := t6.trans (hb7.mono t6.size)
  have ox7 := ox6.below hb7 (Nat.le_refl _)
  have oy7 := ho6.below hb7 (Nat.le_refl _)
  have gs7 := gs6.below hb7
  refine (KI.out _ _ _ _ _ ox7.gs oy7.gs ox7.cap oy7.cap).mono ?_
  rintro e w8 ⟨A8, c8, rfl, ho8, hs8, i8, hb8⟩
  replace ho8 : Og w8 w7.heap.size A8 c8 rs := ho8
  replace hs8 : Gs w8 A8 rs := hs8
  obtain ⟨Ba8, qa8, ra8, za8⟩ := keep_blk hb8 Ba7
  obtain ⟨Bd8, qd8, rd8, zd8⟩ := keep_blk hb8 Bd7
  obtain ⟨Bs8, qs8, rs8, zs8⟩ := keep_blk hb8 Bs7
  obtain ⟨Bx8, qx8, rx8, zx8⟩ := keep_blk hb8 Bx7
  obtain ⟨By8, qy8, ry8, zy8⟩ := keep_blk hb8 By7
  clear Ba7 qa7 ra7 Bd7 qd7 rd7 Bs7 qs7 rs7 Bx7 qx7 rx7 By7 qy7 ry7
  have m8 := hb8.size
  have t8 := t7.trans (hb8.mono t7.size)
  have ox8 := ox7.below hb8 (Nat.le_refl _)
  have oy8 := oy7.below hb8 (Nat.le_refl _)
  have gs8 := gs7.below hb8
  go_wp2_with fail
  obtain ⟨w9, hw9⟩ : ∃ w9, w9 = w8.alloc (.cells #[.int .i64 RW, .int .i64 RH, .slice A8 rs.length c8] 33) := ⟨_, rfl⟩
  rw [← hw9]
  have Ba9 := heap_alloc_of (w := w8) (.cells #[.int .i64 RW, .int .i64 RH, .slice A8 rs.length c8] 33) Ba8
  have Bd9 := heap_alloc_of (w := w8) (.cells #[.int .i64 RW, .int .i64 RH, .slice A8 rs.length c8] 33) Bd8
  have Bs9 := heap_alloc_of (w := w8) (.cells #[.int .i64 RW, .int .i64 RH, .slice A8 rs.length c8] 33) Bs8
  have Bx9 := heap_alloc_of (w := w8) (.cells #[.int .i64 RW, .int .i64 RH, .slice A8 rs.length c8] 33) Bx8
  have By9 := heap_alloc_of (w := w8) (.cells #[.int .i64 RW, .int .i64 RH, .slice A8 rs.length c8] 33) By8
  have Bg9 : (w8.alloc (.cells #[.int .i64 RW, .int .i64 RH, .slice A8 rs.length c8] 33)).heap[w8.heap.size]? = _ := heap_alloc_new _ _
  have hb9 : Below w8.heap.size w8 (w8.alloc (.cells #[.int .i64 RW, .int .i64 RH, .slice A8 rs.length c8] 33)) := (Below.refl _ _).alloc (Nat.le_refl _) _
  have m9 : w8.heap.size < (w8.alloc (.cells #[.int .i64 RW, .int .i64 RH, .slice A8 rs.length c8] 33)).heap.size := by simp
  rw [← hw9] at Ba9 Bd9 Bs9 Bx9 By9 Bg9 hb9 m9
  clear hw9
  clear Ba8 qa8 ra8 Bd8 qd8 rd8 Bs8 qs8 rs8 Bx8 qx8 rx8 By8 qy8 ry8
  have qa9 : ∀ i, w9.cell? ⟨w.heap.size, i, none⟩ = _ := fun i => cell_of_row w9 _ i _ _ (0, 0) Ba9
  have ra9 : ∀ i, w9.frozen? ⟨w.heap.size, i, none⟩ = false := fun i => by simp [World.frozen?, Ba9]
  have qd9 : ∀ i, w9.cell? ⟨w.heap.size + 1, i, none⟩ = _ := fun i => cell_of_row w9 _ i _ _ (0, 0) Bd9
  have rd9 : ∀ i, w9.frozen? ⟨w.heap.size + 1, i, none⟩ = false := fun i => by simp [World.frozen?, Bd9]
  have qs9 : ∀ i, w9.cell? ⟨gs, i, none⟩ = _ := fun i => cell_of_row w9 _ i _ _ (0, 0) Bs9
  have rs9 : ∀ i, w9.frozen? ⟨gs, i, none⟩ = false := fun i => by simp [World.frozen?, Bs9]
  have qx9 : ∀ i, w9.cell? ⟨w4.heap.size, i, none⟩ = _ := fun i => cell_of_row w9 _ i _ _ (0, 0) Bx9
  have rx9 : ∀ i, w9.frozen? ⟨w4.heap.size, i, none⟩ = false := fun i => by simp [World.frozen?, Bx9]
  have qy9 : ∀ i, w9.cell? ⟨w6.heap.size, i, none⟩ = _ := fun i => cell_of_row w9 _ i _ _ (0, 0) By9
  have ry9 : ∀ i, w9.frozen? ⟨w6.heap.size, i, none⟩ = false := fun i => by simp [World.frozen?, By9]
  have qg9 : ∀ i, w9.cell? ⟨w8.heap.size, i, none⟩ = _ := fun i => cell_of_row w9 _ i _ _ (0, 0) Bg9
  have rg9 : ∀ i, w9.frozen? ⟨w8.heap.size, i, none⟩ = false := fun i => by simp [World.frozen?, Bg9]
  have t9 := t8.trans (hb9.mono t8.size)
  have ox9 := ox8.below hb9 (Nat.le_refl _)
  have oy9 := oy8.below hb9 (Nat.le_refl _)
  have og9 := ho8.below hb9 (Nat.le_refl _)
  have gs9 := gs8.below hb9
  refine (eqGrid_same RW RH _ _ _ _ rs _ og9.gs gs9 (by omega)).mono ?_
  rintro e w10 ⟨rfl, hb10⟩
  obtain ⟨Ba10, qa10, ra10, za10⟩ := keep_blk hb10 Ba9
  obtain ⟨Bd10, qd10, rd10, zd10⟩ := keep_blk hb10 Bd9
  obtain ⟨Bs10, qs10, rs10, zs10⟩ := keep_blk hb10 Bs9
  obtain ⟨Bx10, qx10, rx10, zx10⟩ := keep_blk hb10 Bx9
  obtain ⟨By10, qy10, ry10, zy10⟩ := keep_blk hb10 By9
  obtain ⟨Bg10, qg10, rg10, zg10⟩ := keep_blk hb10 Bg9
  clear Ba9 qa9 ra9 Bd9 qd9 rd9 Bs9 qs9 rs9 Bx9 qx9 rx9 By9 qy9 ry9 Bg9 qg9 rg9
  have m10 := hb10.size
  have t10 := t9.trans (hb10.mono t9.size)
  have ox10 := ox9.below hb10 (Nat.le_refl _)
  have oy10 := oy9.below hb10 (Nat.le_refl _)
  have og10 := og9.below hb10 (Nat.le_refl _)
  have gs10 := gs9.below hb10
  go_wp2_with fail
  have ca10_0 : w10.cell? ⟨w.heap.size, 0, none⟩ = some (.int .i64 W) := by rw [qa10]; rfl
  have ca10_1 : w10.cell? ⟨w.heap.size, 1, none⟩ = some (.int .i64 H) := by rw [qa10]; rfl
  have ca10_2 : w10.cell? ⟨w.heap.size, 2, none⟩ = some (.slice A cs.length c) := by rw [qa10]; rfl
  have cx10_0 : w10.cell? ⟨w4.heap.size, 0, none⟩ = some (.int .i64 W) := by rw [qx10]; rfl
  have cx10_1 : w10.cell? ⟨w4.heap.size, 1, none⟩ = some (.int .i64 H) := by rw [qx10]; rfl
  have cx10_2 : w10.cell? ⟨w4.heap.size, 2, none⟩ = some (.slice A4 cs.length c4) := by rw [qx10]; rfl
  first | (go_region_held3 (fun w' => Below w10.heap.size w10 w' ∧ w'.cell? ⟨w.heap.size, 0, none⟩ = some (.int .i64 W) ∧ w'.cell? ⟨w.heap.size, 1, none⟩ = some (.int .i64 H) ∧ w'.cell? ⟨w.heap.size, 2, none⟩ = some (.slice A cs.length c) ∧ w'.cell? ⟨w4.heap.size, 0, none⟩ = some (.int .i64 W) ∧ w'.cell? ⟨w4.heap.size, 1, none⟩ = some (.int .i64 H) ∧ w'.cell? ⟨w4.heap.size, 2, none⟩ = some (.slice A4 cs.length c4))
    (first | exact ⟨Below.drew (Below.refl _ _), by simpa using ca10_0, by simpa using ca10_1, by simpa using ca10_2, by simpa using cx10_0, by simpa using cx10_1, by simpa using cx10_2⟩ | assumption | (refine ⟨?_, ?_, ?_, ?_, ?_, ?_, ?_⟩ <;> assumption))
    ((first | (go_at_call 17; refine (toGrid_any W H _ _ cs _ (ha.below (Below.drew t10)) hlc).mono ?_; rintro e w11 ⟨A11, c11, rfl, _, hs11, hi11, hb11⟩; have s11 : Below w10.heap.size w10 _ := (Below.drew (Below.refl _ _)).trans hb11; have hkeep_s11 := And.intro (s11) (And.intro ((s11.cell (World.block_lt_of_cell? w10 _ ca10_0)).trans ca10_0) (And.intro ((s11.cell (World.block_lt_of_cell? w10 _ ca10_1)).trans ca10_1) (And.intro ((s11.cell (World.block_lt_of_cell? w10 _ ca10_2)).trans ca10_2) (And.intro ((s11.cell (World.block_lt_of_cell? w10 _ cx10_0)).trans cx10_0) (And.intro ((s11.cell (World.block_lt_of_cell? w10 _ cx10_1)).trans cx10_1) ((s11.cell (World.block_lt_of_cell? w10 _ cx10_2)).trans cx10_2))))))) | (go_at_call 20; refine (eqGrid_same W H _ _ _ _ cs _ (ox10.gs.below s11) hs11 (by omega)).mono ?_; rintro e w12 ⟨rfl, hb12⟩; have s12 : Below w10.heap.size w10 _ := s11.trans (hb12.mono s11.size); have hkeep_s12 := And.intro (s12) (And.intro ((s12.cell (World.block_lt_of_cell? w10 _ ca10_0)).trans ca10_0) (And.intro ((s12.cell (World.block_lt_of_cell? w10 _ ca10_1)).trans ca10_1) (And.intro ((s12.cell (World.block_lt_of_cell? w10 _ ca10_2)).trans ca10_2) (And.intro ((s12.cell (World.block_lt_of_cell? w10 _ cx10_0)).trans cx10_0) (And.intro ((s12.cell (World.block_lt_of_cell? w10 _ cx10_1)).trans cx10_1) ((s12.cell (World.block_lt_of_cell? w10 _ cx10_2)).trans cx10_2)))))))))) | fail
  clear hkeep_s11 hkeep_s12
  obtain ⟨Ba12, qa12, ra12, za12⟩ := keep_blk s12 Ba10
  obtain ⟨Bd12, qd12, rd12, zd12⟩ := keep_blk s12 Bd10
  obtain ⟨Bs12, qs12, rs12, zs12⟩ := keep_blk s12 Bs10
  obtain ⟨Bx12, qx12, rx12, zx12⟩ := keep_blk s12 Bx10
  obtain ⟨By12, qy12, ry12, zy12⟩ := keep_blk s12 By10
  obtain ⟨Bg12, qg12, rg12, zg12⟩ := keep_blk s12 Bg10
  clear Ba10 qa10 ra10 Bd10 qd10 rd10 Bs10 qs10 rs10 Bx10 qx10 rx10 By10 qy10 ry10 Bg10 qg10 rg10
  clear ca10_0 ca10_1 ca10_2 cx10_0 cx10_1 cx10_2
  have m12 := s12.size
  have t12 := t10.trans (s12.mono t10.size)
  have ox12 := ox10.below s12 (Nat.le_refl _)
  have oy12 := oy10.below s12 (Nat.le_refl _)
  have og12 := og10.below s12 (Nat.le_refl _)
  have gs12 := gs10.below s12
  go_wp2_with fail
  have cd12_0 : w12.cell? ⟨w.heap.size + 1, 0, none⟩ = some (.int .i64 W') := by rw [qd12]; rfl
  have cd12_1 : w12.cell? ⟨w.heap.size + 1, 1, none⟩ = some (.int .i64 H') := by rw [qd12]; rfl
  have cd12_2 : w12.cell? ⟨w.heap.size + 1, 2, none⟩ = some (.slice A' ds.length c') := by rw [qd12]; rfl
  have cy12_0 : w12.cell? ⟨w6.heap.size, 0, none⟩ = some (.int .i64 W') := by rw [qy12]; rfl
  have cy12_1 : w12.cell? ⟨w6.heap.size, 1, none⟩ = some (.int .i64 H') := by rw [qy12]; rfl
  have cy12_2 : w12.cell? ⟨w6.heap.size, 2, none⟩ = some (.slice A6 ds.length c6) := by rw [qy12]; rfl
  first | (go_region_held3 (fun w' => Below w12.heap.size w12 w' ∧ w'.cell? ⟨w.heap.size + 1, 0, none⟩ = some (.int .i64 W') ∧ w'.cell? ⟨w.heap.size + 1, 1, none⟩ = some (.int .i64 H') ∧ w'.cell? ⟨w.heap.size + 1, 2, none⟩ = some (.slice A' ds.length c') ∧ w'.cell? ⟨w6.heap.size, 0, none⟩ = some (.int .i64 W') ∧ w'.cell? ⟨w6.heap.size, 1, none⟩ = some (.int .i64 H') ∧ w'.cell? ⟨w6.heap.size, 2, none⟩ = some (.slice A6 ds.length c6))
    (first | exact ⟨Below.drew (Below.refl _ _), by simpa using cd12_0, by simpa using cd12_1, by simpa using cd12_2, by simpa using cy12_0, by simpa using cy12_1, by simpa using cy12_2⟩ | assumption | (refine ⟨?_, ?_, ?_, ?_, ?_, ?_, ?_⟩ <;> assumption))
    ((first | (go_at_call 17; refine (toGrid_any W' H' _ _ ds _ (ha'.below (Below.drew t12)) hlc').mono ?_; rintro e w13 ⟨A13, c13, rfl, _, hs13, hi13, hb13⟩; have s13 : Below w12.heap.size w12 _ := (Below.drew (Below.refl _ _)).trans hb13; have hkeep_s13 := And.intro (s13) (And.intro ((s13.cell (World.block_lt_of_cell? w12 _ cd12_0)).trans cd12_0) (And.intro ((s13.cell (World.block_lt_of_cell? w12 _ cd12_1)).trans cd12_1) (And.intro ((s13.cell (World.block_lt_of_cell? w12 _ cd12_2)).trans cd12_2) (And.intro ((s13.cell (World.block_lt_of_cell? w12 _ cy12_0)).trans cy12_0) (And.intro ((s13.cell (World.block_lt_of_cell? w12 _ cy12_1)).trans cy12_1) ((s13.cell (World.block_lt_of_cell? w12 _ cy12_2)).trans cy12_2))))))) | (go_at_call 20; refine (eqGrid_same W' H' _ _ _ _ ds _ (oy12.gs.below s13) hs13 (by omega)).mono ?_; rintro e w14 ⟨rfl, hb14⟩; have s14 : Below w12.heap.size w12 _ := s13.trans (hb14.mono s13.size); have hkeep_s14 := And.intro (s14) (And.intro ((s14.cell (World.block_lt_of_cell? w12 _ cd12_0)).trans cd12_0) (And.intro ((s14.cell (World.block_lt_of_cell? w12 _ cd12_1)).trans cd12_1) (And.intro ((s14.cell (World.block_lt_of_cell? w12 _ cd12_2)).trans cd12_2) (And.intro ((s14.cell (World.block_lt_of_cell? w12 _ cy12_0)).trans cy12_0) (And.intro ((s14.cell (World.block_lt_of_cell? w12 _ cy12_1)).trans cy12_1) ((s14.cell (World.block_lt_of_cell? w12 _ cy12_2)).trans cy12_2)))))))))) | fail
  clear hkeep_s13 hkeep_s14
  obtain ⟨Ba14, qa14, ra14, za14⟩ := keep_blk s14 Ba12
  obtain ⟨Bd14, qd14, rd14, zd14⟩ := keep_blk s14 Bd12
  obtain ⟨Bs14, qs14, rs14, zs14⟩ := keep_blk s14 Bs12
  obtain ⟨Bx14, qx14, rx14, zx14⟩ := keep_blk s14 Bx12
  obtain ⟨By14, qy14, ry14, zy14⟩ := keep_blk s14 By12
  obtain ⟨Bg14, qg14, rg14, zg14⟩ := keep_blk s14 Bg12
  clear Ba12 qa12 ra12 Bd12 qd12 rd12 Bs12 qs12 rs12 Bx12 qx12 rx12 By12 qy12 ry12 Bg12 qg12 rg12
  clear cd12_0 cd12_1 cd12_2 cy12_0 cy12_1 cy12_2
  have m14 := s14.size
  have t14 := t12.trans (s14.mono t12.size)
  have ox14 := ox12.below s14 (Nat.le_refl _)
  have oy14 := oy12.below s14 (Nat.le_refl _)
  have og14 := og12.below s14 (Nat.le_refl _)
  have gs14 := gs12.below s14
  have y1 : w.heap.size < w1.heap.size := za1
  have y1' : w.heap.size + 1 < w1.heap.size := zd1
  go_wp2_with fail
  refine (markGrid_any W H _ _ _ cs 1 _ ox14 hlc (by omega) (by omega)).mono ?_
  rintro e w15 ⟨rfl, ox15, hg15⟩
  have m15 := hg15.size
  obtain ⟨Ba15, qa15, ra15, za15⟩ := keep_gr hg15 i4 Ba14 (by omega)
  obtain ⟨Bd15, qd15, rd15, zd15⟩ := keep_gr hg15 i4 Bd14 (by omega)
  obtain ⟨Bs15, qs15, rs15, zs15⟩ := keep_gr hg15 i4 Bs14 (by omega)
  obtain ⟨Bx15, qx15, rx15, zx15⟩ := keep_gr hg15 i4 Bx14 (by omega)
  obtain ⟨By15, qy15, ry15, zy15⟩ := keep_gr hg15 i4 By14 (by omega)
  obtain ⟨Bg15, qg15, rg15, zg15⟩ := keep_gr hg15 i4 Bg14 (by omega)
  clear Ba14 qa14 ra14 Bd14 qd14 rd14 Bs14 qs14 rs14 Bx14 qx14 rx14 By14 qy14 ry14 Bg14 qg14 rg14
  have t15 : Below w.heap.size w w15 := below_grown t14 hg15 i4 (by omega) (by omega)
  have oy15 := oy14.grown hg15 i4 i6 (.inr (by omega))
  have og15 := og14.grown hg15 i4 i8 (.inr (by omega))
  have gs15 := gs14.grown hg15 i4 (fun ad h _ => .inl (by have := i3 ad h; omega))
  go_wp2_with fail
  refine (markGrid_any W' H' _ _ _ ds (1 + 6 * (cs.length : Int)) _ oy15 hlc' (by omega) (by omega)).mono ?_
  rintro e w16 ⟨rfl, oy16, hg16⟩
  have m16 := hg16.size
  obtain ⟨Ba16, qa16, ra16, za16⟩ := keep_gr hg16 i6 Ba15 (by omega)
  obtain ⟨Bd16, qd16, rd16, zd16⟩ := keep_gr hg16 i6 Bd15 (by omega)
  obtain ⟨Bs16, qs16, rs16, zs16⟩ := keep_gr hg16 i6 Bs15 (by omega)
  obtain ⟨Bx16, qx16, rx16, zx16⟩ := keep_gr hg16 i6 Bx15 (by omega)
  obtain ⟨By16, qy16, ry16, zy16⟩ := keep_gr hg16 i6 By15 (by omega)
  obtain ⟨Bg16, qg16, rg16, zg16⟩ := keep_gr hg16 i6 Bg15 (by omega)
  clear Ba15 qa15 ra15 Bd15 qd15 rd15 Bs15 qs15 rs15 Bx15 qx15 rx15 By15 qy15 ry15 Bg15 qg15 rg15
  have t16 : Below w.heap.size w w16 := below_grown t15 hg16 i6 (by omega) (by omega)
  have og16 := og15.grown hg16 i6 i8 (.inr (by omega))
  have gs16 := gs15.grown hg16 i6 (fun ad h _ => .inl (by have := i3 ad h; omega))
  have hk16 : ¬ (1 : Int) + 6 * (cs.length : Int) + 6 * (ds.length : Int) < 0 := by omega
  go_wp2_with fail
  refine (eqGrid_same RW RH _ _ _ _ rs _ og16.gs gs16 (by omega)).mono ?_
  rintro e w17 ⟨rfl, hb17⟩
  obtain ⟨Ba17, qa17, ra17, za17⟩ := keep_blk hb17 Ba16
  obtain ⟨Bd17, qd17, rd17, zd17⟩ := keep_blk hb17 Bd16
  obtain ⟨Bs17, qs17, rs17, zs17⟩ := keep_blk hb17 Bs16
  obtain ⟨Bg17, qg17, rg17, zg17⟩ := keep_blk hb17 Bg16
  clear Ba16 qa16 ra16 Bd16 qd16 rd16 Bs16 qs16 rs16 Bx16 qx16 rx16 By16 qy16 ry16 Bg16 qg16 rg16
  have m17 := hb17.size
  have t17 := t16.trans (hb17.mono t16.size)
  have og17 := og16.below hb17 (Nat.le_refl _)
  have gs17 := gs16.below hb17
  go_wp2_with fail
  refine (markGrid_any RW RH _ _ _ rs 1 _ og17 hrl' (by omega) (by omega)).mono ?_
  rintro e w18 ⟨rfl, og18, hg18⟩
  have m18 := hg18.size
  obtain ⟨Ba18, qa18, ra18, za18⟩ := keep_gr hg18 i8 Ba17 (by omega)
  obtain ⟨Bd18, qd18, rd18, zd18⟩ := keep_gr hg18 i8 Bd17 (by omega)
  obtain ⟨Bs18, qs18, rs18, zs18⟩ := keep_gr hg18 i8 Bs17 (by omega)
  obtain ⟨Bg18, qg18, rg18, zg18⟩ := keep_gr hg18 i8 Bg17 (by omega)
  clear Ba17 qa17 ra17 Bd17 qd17 rd17 Bs17 qs17 rs17 Bg17 qg17 rg17
  have t18 : Below w.heap.size w w18 := below_grown t17 hg18 i8 (by omega) (by omega)
  have gs18 := gs17.grown hg18 i8 (fun ad h _ => .inl (by have := i3 ad h; omega))
  have gm18 : Gs w18 A8 (markC 1 rs.length) := og18.gs
  have hk18 : ¬ (1 : Int) + 6 * (rs.length : Int) < 0 := by omega
  go_wp2_with fail
  refine (heldGrid_any RW RH _ _ rs.length 1 _ gm18 hrl' (by omega) (by omega)).mono ?_
  rintro e w19 ⟨rfl, hb19⟩
  obtain ⟨Ba19, qa19, ra19, za19⟩ := keep_blk hb19 Ba18
  obtain ⟨Bd19, qd19, rd19, zd19⟩ := keep_blk hb19 Bd18
  obtain ⟨Bs19, qs19, rs19, zs19⟩ := keep_blk hb19 Bs18
  obtain ⟨Bg19, qg19, rg19, zg19⟩ := keep_blk hb19 Bg18
  clear Ba18 qa18 ra18 Bd18 qd18 rd18 Bs18 qs18 rs18 Bg18 qg18 rg18
  have m19 := hb19.size
  have t19 := t18.trans (hb19.mono t18.size)
  have gs19 := gs18.below hb19
  have gm19 := gm18.below hb19
  go_upto_region 31 with fail
  have ca19_0 : w19.cell? ⟨w.heap.size, 0, none⟩ = some (.int .i64 W) := by rw [qa19]; rfl
  have ca19_1 : w19.cell? ⟨w.heap.size, 1, none⟩ = some (.int .i64 H) := by rw [qa19]; rfl
  have ca19_2 : w19.cell? ⟨w.heap.size, 2, none⟩ = some (.slice A cs.length c) := by rw [qa19]; rfl
  have cd19_0 : w19.cell? ⟨w.heap.size + 1, 0, none⟩ = some (.int .i64 W') := by rw [qd19]; rfl
  have cd19_1 : w19.cell? ⟨w.heap.size + 1, 1, none⟩ = some (.int .i64 H') := by rw [qd19]; rfl
  have cd19_2 : w19.cell? ⟨w.heap.size + 1, 2, none⟩ = some (.slice A' ds.length c') := by rw [qd19]; rfl
  go_cut [17] (fun s wx => CutG w19 RW RH rs wx s)
  case first =>
    first | (go_region_held3 (fun w' => Below w19.heap.size w19 w' ∧ w'.cell? ⟨w.heap.size, 0, none⟩ = some (.int .i64 W) ∧ w'.cell? ⟨w.heap.size, 1, none⟩ = some (.int .i64 H) ∧ w'.cell? ⟨w.heap.size, 2, none⟩ = some (.slice A cs.length c) ∧ w'.cell? ⟨w.heap.size + 1, 0, none⟩ = some (.int .i64 W') ∧ w'.cell? ⟨w.heap.size + 1, 1, none⟩ = some (.int .i64 H') ∧ w'.cell? ⟨w.heap.size + 1, 2, none⟩ = some (.slice A' ds.length c'))
      (first | with_reducible assumption | exact ⟨Below.drew (Below.refl _ _), ca19_0, ca19_1, ca19_2, cd19_0, cd19_1, cd19_2⟩ | exact ⟨Below.alloc (Below.drew (Below.refl _ _)) (by first | omega | (simp; done) | (simp; omega)) _, cell_alloc (cell_drew ca19_0) _, cell_alloc (cell_drew ca19_1) _, cell_alloc (cell_drew ca19_2) _, cell_alloc (cell_drew cd19_0) _, cell_alloc (cell_drew cd19_1) _, cell_alloc (cell_drew cd19_2) _⟩ | exact ⟨Below.alloc ns0 (by first | omega | (simp; done) | (simp; omega)) _, cell_alloc ns0ca0 _, cell_alloc ns0ca1 _, cell_alloc ns0ca2 _, cell_alloc ns0cd0 _, cell_alloc ns0cd1 _, cell_alloc ns0cd2 _⟩ | exact ⟨Below.alloc ns1 (by first | omega | (simp; done) | (simp; omega)) _, cell_alloc ns1ca0 _, cell_alloc ns1ca1 _, cell_alloc ns1ca2 _, cell_alloc ns1cd0 _, cell_alloc ns1cd1 _, cell_alloc ns1cd2 _⟩ | exact ⟨Below.alloc ns2 (by first | omega | (simp; done) | (simp; omega)) _, cell_alloc ns2ca0 _, cell_alloc ns2ca1 _, cell_alloc ns2ca2 _, cell_alloc ns2cd0 _, cell_alloc ns2cd1 _, cell_alloc ns2cd2 _⟩ | exact ⟨below_three ns2 (by first | omega | (simp; done) | (simp; omega)), cell_three ns2ca0 (by omega), cell_three ns2ca1 (by omega), cell_three ns2ca2 (by omega), cell_three ns2cd0 (by omega), cell_three ns2cd1 (by omega), cell_three ns2cd2 (by omega)⟩)
      ((first | (go_at_call_of 17 cs; refine (toGrid_any W H _ _ cs _ (ha.below (by repeat (first | assumption | exact Below.refl _ _ | (refine Below.alloc ?_ (by first | omega | (simp; done) | (simp; omega)) _) | (refine Below.drew ?_)))) hlc).mono ?_; rintro e nw0 ⟨n0A, n0c, rfl, n0ho, n0hs, n0hi, nhb0⟩; have nu0 : Below w19.heap.size w19 nw0 := Below.trans (by repeat (first | assumption | exact Below.refl _ _ | (refine Below.alloc ?_ (by first | omega | (simp; done) | (simp; omega)) _) | (refine Below.drew ?_))) (nhb0.mono (by first | omega | (simp; done) | (simp; omega))); have ns0 : Below w19.heap.size w19 nw0 := nu0; have nz0 : w19.heap.size ≤ nw0.heap.size := nu0.size; (first | (have hxnF0 := keep_blk nhb0 (g := w19.heap.size) (heap_alloc_at _ rfl); obtain ⟨nF0, _, _, nF0z⟩ := hxnF0) | skip); have ns0ca0 := (ns0.cell (World.block_lt_of_cell? w19 _ ca19_0)).trans ca19_0; have ns0ca1 := (ns0.cell (World.block_lt_of_cell? w19 _ ca19_1)).trans ca19_1; have ns0ca2 := (ns0.cell (World.block_lt_of_cell? w19 _ ca19_2)).trans ca19_2; have ns0cd0 := (ns0.cell (World.block_lt_of_cell? w19 _ cd19_0)).trans cd19_0; have ns0cd1 := (ns0.cell (World.block_lt_of_cell? w19 _ cd19_1)).trans cd19_1; have ns0cd2 := (ns0.cell (World.block_lt_of_cell? w19 _ cd19_2)).trans cd19_2; have hkeep_ns0 := And.intro (ns0) (And.intro (ns0ca0) (And.intro (ns0ca1) (And.intro (ns0ca2) (And.intro (ns0cd0) (And.intro (ns0cd1) (ns0cd2))))))) | (go_at_call_of 17 ds; refine (toGrid_any W' H' _ _ ds _ (ha'.below (t19.trans (Below.mono (by repeat (first | assumption | exact Below.refl _ _ | (refine Below.alloc ?_ (by first | omega | (simp; done) | (simp; omega)) _) | (refine Below.drew ?_))) t19.size))) hlc').mono ?_; rintro e nw1 ⟨n1A, n1c, rfl, n1ho, n1hs, n1hi, nhb1⟩; have nu1 : Below nw0.heap.size nw0 nw1 := Below.trans (by repeat (first | assumption | exact Below.refl _ _ | (refine Below.alloc ?_ (by first | omega | (simp; done) | (simp; omega)) _) | (refine Below.drew ?_))) (nhb1.mono (by first | omega | (simp; done) | (simp; omega))); have ns1 : Below w19.heap.size w19 nw1 := ns0.trans (nu1.mono ns0.size); have nz1 : nw0.heap.size ≤ nw1.heap.size := nu1.size; (first | (have hxnF1 := keep_blk nhb1 nF0; obtain ⟨nF1, _, _, nF1z⟩ := hxnF1) | (have hxnF1 := keep_blk nhb1 (g := nw0.heap.size) (heap_alloc_at _ rfl); obtain ⟨nF1, _, _, nF1z⟩ := hxnF1) | skip); have ns1ca0 := (ns1.cell (World.block_lt_of_cell? w19 _ ca19_0)).trans ca19_0; have ns1ca1 := (ns1.cell (World.block_lt_of_cell? w19 _ ca19_1)).trans ca19_1; have ns1ca2 := (ns1.cell (World.block_lt_of_cell? w19 _ ca19_2)).trans ca19_2; have ns1cd0 := (ns1.cell (World.block_lt_of_cell? w19 _ cd19_0)).trans cd19_0; have ns1cd1 := (ns1.cell (World.block_lt_of_cell? w19 _ cd19_1)).trans cd19_1; have ns1cd2 := (ns1.cell (World.block_lt_of_cell? w19 _ cd19_2)).trans cd19_2; have hkeep_ns1 := And.intro (ns1) (And.intro (ns1ca0) (And.intro (ns1ca1) (And.intro (ns1ca2) (And.intro (ns1cd0) (And.intro (ns1cd1) (ns1cd2))))))) | (go_at_call 38; refine (KI.out _ _ _ _ _ (n0hs.below (by repeat (first | assumption | exact Below.refl _ _ | (refine Below.alloc ?_ (by first | omega | (simp; done) | (simp; omega)) _) | (refine Below.drew ?_)))) (n1hs.below (by repeat (first | assumption | exact Below.refl _ _ | (refine Below.alloc ?_ (by first | omega | (simp; done) | (simp; omega)) _) | (refine Below.drew ?_)))) n0ho.cap n1ho.cap).mono ?_; rintro e nw2 ⟨n2A, n2c, rfl, n2ho, n2hs, n2hi, nhb2⟩; have nu2 : Below nw1.heap.size nw1 nw2 := Below.trans (by repeat (first | assumption | exact Below.refl _ _ | (refine Below.alloc ?_ (by first | omega | (simp; done) | (simp; omega)) _) | (refine Below.drew ?_))) (nhb2.mono (by first | omega | (simp; done) | (simp; omega))); have ns2 : Below w19.heap.size w19 nw2 := ns1.trans (nu2.mono ns1.size); have nz2 : nw1.heap.size ≤ nw2.heap.size := nu2.size; (first | (have hxnF2 := keep_blk nhb2 nF1; obtain ⟨nF2, _, _, nF2z⟩ := hxnF2) | (have hxnF2 := keep_blk nhb2 (g := nw1.heap.size) (heap_alloc_at _ rfl); obtain ⟨nF2, _, _, nF2z⟩ := hxnF2) | skip); have ns2ca0 := (ns2.cell (World.block_lt_of_cell? w19 _ ca19_0)).trans ca19_0; have ns2ca1 := (ns2.cell (World.block_lt_of_cell? w19 _ ca19_1)).trans ca19_1; have ns2ca2 := (ns2.cell (World.block_lt_of_cell? w19 _ ca19_2)).trans ca19_2; have ns2cd0 := (ns2.cell (World.block_lt_of_cell? w19 _ cd19_0)).trans cd19_0; have ns2cd1 := (ns2.cell (World.block_lt_of_cell? w19 _ cd19_1)).trans cd19_1; have ns2cd2 := (ns2.cell (World.block_lt_of_cell? w19 _ cd19_2)).trans cd19_2; have hkeep_ns2 := And.intro (ns2) (And.intro (ns2ca0) (And.intro (ns2ca1) (And.intro (ns2ca2) (And.intro (ns2cd0) (And.intro (ns2cd1) (ns2cd2)))))))))) | fail
    all_goals (go_wp2_with fail; go_meet; first | exact cutB nF2 (by first | omega | (simp; done) | (simp; omega)) (by first | omega | (simp; done) | (simp; omega)) n2ho n2hi (by first | omega | (simp; done) | (simp; omega)) (by first | omega | (simp; done) | (simp; omega)) ns2 | exact cutA n2ho n2hi (by first | omega | (simp; done) | (simp; omega)) (by first | omega | (simp; done) | (simp; omega)) ns2)
  case rest =>
  revert wc
  intro w20 hcut
  obtain ⟨gh, A20, c20, lo20, hi20, rfl, Bh20, ho20, i20, l20_1, l20_2, l20_3, l20_4, l20_5, l20_6, hb20⟩ := hcut
  have qh20 : ∀ i, w20.cell? ⟨gh, i, none⟩ = _ := fun i => cell_of_row w20 _ i _ _ (0, 0) Bh20
  have rh20 : ∀ i, w20.frozen? ⟨gh, i, none⟩ = false := fun i => by simp [World.frozen?, Bh20]
  obtain ⟨Bs20, qs20, rs20, zs20⟩ := keep_blk hb20 Bs19
  obtain ⟨Bg20, qg20, rg20, zg20⟩ := keep_blk hb20 Bg19
  have t20 := t19.trans (hb20.mono t19.size)
  have gs20 := gs19.below hb20
  have gm20 := gm19.below hb20
  go_wp2_with fail
  refine (eqGrid_same RW RH _ _ _ _ rs _ ho20.gs gs20 (by omega)).mono ?_
  rintro e w21 ⟨rfl, hb21⟩
  obtain ⟨Bg21, qg21, rg21, zg21⟩ := keep_blk hb21 Bg20
  clear Bg20 qg20 rg20
  have t21 := t20.trans (hb21.mono t20.size)
  have gm21 := gm20.below hb21
  go_wp2_with fail
  refine (heldGrid_any RW RH _ _ rs.length 1 _ gm21 hrl' (by omega) (by omega)).mono ?_
  rintro e w22 ⟨rfl, hb22⟩
  go_wp2_with fail
  go_ret
  exact ⟨rfl, t21.trans (hb22.mono t21.size)⟩
end Go.Proofs.Ytdmhmelmoobekaa
