/- The law of GridFill. -/
import Derived.Test.YtdmhmelmoobekaaFi2
import Derived.Test.YtdmhmelmoobekaaFi3
import Derived.Test.YtdmhmelmoobekaaCu
import Derived.Deep.RegionHeld3
import Derived.Deep.DeepCutAuto
namespace Go.Proofs.Ytdmhmelmoobekaa
open Go.RowKit
set_option linter.unusedVariables false
set_option maxRecDepth 100000

set_option maxHeartbeats 8000000 in
theorem walk_FnExactGridFill (vs0 : List Value) (x y fw fh : Int) (vs5 : List Value) (w : World) (h0 : Rd Try.prog w 24 vs0) (hx : (Lit.int .i64 x).wf = true) (hy : (Lit.int .i64 y).wf = true) (hw : (Lit.int .i64 fw).wf = true) (hh : (Lit.int .i64 fh).wf = true) (h5 : Rd Try.prog w 62 vs5) :
    Calls Try.prog 8 #[.agg vs0.toArray, .int .i64 x, .int .i64 y, .int .i64 fw, .int .i64 fh, .agg vs5.toArray] w fun e w' => e = .returned (.bool true) ∧ Below w.heap.size w w' := by
  clear hx hy hw hh
  obtain ⟨W, H, A, cs, c, rfl, ha, hm, hW, hH⟩ := rd_grid h0
  obtain ⟨r, f, b, q1, q2, q3, rfl⟩ := rd_CellL h5
  clear h0 h5
  by_cases hbig : (1048576 : Int) < cs.length
  · have HS1 : Hid (szR 1048576 cs.length = -1) := szR_no hbig
    go_enter Try.func8, Try.ntmps8
    go_wp2_with fail
    have t0 : Below w.heap.size w ((w.alloc (.cells #[.int .i64 W, .int .i64 H, .slice A cs.length c] 24)).alloc (.cells #[.int .i64 r, .int .i64 f, .int .i64 b, .bool q1, .bool q2, .bool q3] 62)) := by (repeat (first | exact Below.refl _ _ | (refine Below.alloc ?_ (by first | omega | (simp; done) | (simp; omega)) _) | (refine Below.drew ?_) | (refine below_drewN ?_ _) | (refine below_at1 ?_ (by first | omega | (simp; done) | (simp; omega))) | (refine Below.setCell ?_ (by first | omega | (simp; done) | (simp; omega)) _) | (refine Below.trans ?_ (Below.mono (by assumption) (by first | omega | (simp; done) | (simp; omega))))))
    refine (szGrid_any W H A cs.length c 1048576 _ hm (by omega) (by omega)).mono ?_
    rintro e w1 ⟨he, hb1⟩
    rw [HS1.out] at he
    subst he
    obtain ⟨Ba1, qa1, ra1, za1⟩ := keep_blk hb1 (g := w.heap.size) (by repeat (first | assumption | exact heap_alloc_at _ (by first | rfl | (simp; done) | omega) | refine heap_alloc_of _ ?_ | refine heap_setCell_of _ (by first | omega | (simp; done) | (simp; omega)) ?_ | refine heap_setCell_same _ ?_ | exact heap_at1_same (by first | omega | (simp; done) | (simp; omega)) | refine heap_at1_of (by first | omega | (simp; done) | (simp; omega)) ?_))
    obtain ⟨Bd1, qd1, rd1, zd1⟩ := keep_blk hb1 (g := w.heap.size + 1) (by repeat (first | assumption | exact heap_alloc_at _ (by first | rfl | (simp; done) | omega) | refine heap_alloc_of _ ?_ | refine heap_setCell_of _ (by first | omega | (simp; done) | (simp; omega)) ?_ | refine heap_setCell_same _ ?_ | exact heap_at1_same (by first | omega | (simp; done) | (simp; omega)) | refine heap_at1_of (by first | omega | (simp; done) | (simp; omega)) ?_))
    have t1 := t0.trans (hb1.mono t0.size)
    go_wp2_with fail
    go_ret
    exact ⟨rfl, t1⟩
  have HS1 : Hid (szR 1048576 cs.length = 1048576 - cs.length) := szR_yes hbig
  have hp1 : ¬ (1048576 : Int) - cs.length < 0 := by omega
  have hlc : cs.length ≤ 1048576 := by omega
  have hrl : (fiR W H cs x y fw fh (r, f, b, q1, q2, q3)).2.2.length ≤ 1048576 := Nat.le_trans fi_len hlc
  have ks := fun (w : World) A c (h : Gs w A cs) (h1 : cs.length ≤ 1048576) => gridFill_spec W H A c cs x y fw fh (r, f, b, q1, q2, q3) w h h1
  have ki := fun (w : World) A c (h : Gs w A cs) (hc : cs.length ≤ c) (h1 : cs.length ≤ 1048576) => gridFill_impl W H A c cs x y fw fh (r, f, b, q1, q2, q3) w h hc h1
  generalize fiR W H cs x y fw fh (r, f, b, q1, q2, q3) = S at hrl ks ki
  obtain ⟨RW, RH, rs⟩ := S
  have hrl' : rs.length ≤ 1048576 := hrl
  have KS := Lib.hid ks
  have KI := Lib.hid ki
  clear ks ki hrl
  go_enter Try.func8, Try.ntmps8
  go_wp2_with fail
  have t0 : Below w.heap.size w ((w.alloc (.cells #[.int .i64 W, .int .i64 H, .slice A cs.length c] 24)).alloc (.cells #[.int .i64 r, .int .i64 f, .int .i64 b, .bool q1, .bool q2, .bool q3] 62)) := by (repeat (first | exact Below.refl _ _ | (refine Below.alloc ?_ (by first | omega | (simp; done) | (simp; omega)) _) | (refine Below.drew ?_) | (refine below_drewN ?_ _) | (refine below_at1 ?_ (by first | omega | (simp; done) | (simp; omega))) | (refine Below.setCell ?_ (by first | omega | (simp; done) | (simp; omega)) _) | (refine Below.trans ?_ (Below.mono (by assumption) (by first | omega | (simp; done) | (simp; omega))))))
  refine (szGrid_any W H A cs.length c 1048576 _ hm (by omega) (by omega)).mono ?_
  rintro e w1 ⟨he, hb1⟩
  rw [HS1.out] at he
  subst he
  obtain ⟨Ba1, qa1, ra1, za1⟩ := keep_blk hb1 (g := w.heap.size) (by repeat (first | assumption | exact heap_alloc_at _ (by first | rfl | (simp; done) | omega) | refine heap_alloc_of _ ?_ | refine heap_setCell_of _ (by first | omega | (simp; done) | (simp; omega)) ?_ | refine heap_setCell_same _ ?_ | exact heap_at1_same (by first | omega | (simp; done) | (simp; omega)) | refine heap_at1_of (by first | omega | (simp; done) | (simp; omega)) ?_))
  obtain ⟨Bd1, qd1, rd1, zd1⟩ := keep_blk hb1 (g := w.heap.size + 1) (by repeat (first | assumption | exact heap_alloc_at _ (by first | rfl | (simp; done) | omega) | refine heap_alloc_of _ ?_ | refine heap_setCell_of _ (by first | omega | (simp; done) | (simp; omega)) ?_ | refine heap_setCell_same _ ?_ | exact heap_at1_same (by first | omega | (simp; done) | (simp; omega)) | refine heap_at1_of (by first | omega | (simp; done) | (simp; omega)) ?_))
  have t1 := t0.trans (hb1.mono t0.size)
  go_upto_region 5 with fail
  have ca1_0 : w1.cell? ⟨w.heap.size, 0, none⟩ = some (.int .i64 W) := by rw [qa1]; rfl
  have ca1_1 : w1.cell? ⟨w.heap.size, 1, none⟩ = some (.int .i64 H) := by rw [qa1]; rfl
  have ca1_2 : w1.cell? ⟨w.heap.size, 2, none⟩ = some (.slice A cs.length c) := by rw [qa1]; rfl
  have cd1_0 : w1.cell? ⟨w.heap.size + 1, 0, none⟩ = some (.int .i64 r) := by rw [qd1]; rfl
  have cd1_1 : w1.cell? ⟨w.heap.size + 1, 1, none⟩ = some (.int .i64 f) := by rw [qd1]; rfl
  have cd1_2 : w1.cell? ⟨w.heap.size + 1, 2, none⟩ = some (.int .i64 b) := by rw [qd1]; rfl
  have cd1_3 : w1.cell? ⟨w.heap.size + 1, 3, none⟩ = some (.bool q1) := by rw [qd1]; rfl
  have cd1_4 : w1.cell? ⟨w.heap.size + 1, 4, none⟩ = some (.bool q2) := by rw [qd1]; rfl
  have cd1_5 : w1.cell? ⟨w.heap.size + 1, 5, none⟩ = some (.bool q3) := by rw [qd1]; rfl
  go_cut [14] (fun s wx => CutG w1 RW RH rs wx s)
  case first =>
    first | (go_region_held3 (fun w' => Below w1.heap.size w1 w' ∧ w'.cell? ⟨w.heap.size, 0, none⟩ = some (.int .i64 W) ∧ w'.cell? ⟨w.heap.size, 1, none⟩ = some (.int .i64 H) ∧ w'.cell? ⟨w.heap.size, 2, none⟩ = some (.slice A cs.length c) ∧ w'.cell? ⟨w.heap.size + 1, 0, none⟩ = some (.int .i64 r) ∧ w'.cell? ⟨w.heap.size + 1, 1, none⟩ = some (.int .i64 f) ∧ w'.cell? ⟨w.heap.size + 1, 2, none⟩ = some (.int .i64 b) ∧ w'.cell? ⟨w.heap.size + 1, 3, none⟩ = some (.bool q1) ∧ w'.cell? ⟨w.heap.size + 1, 4, none⟩ = some (.bool q2) ∧ w'.cell? ⟨w.heap.size + 1, 5, none⟩ = some (.bool q3))
      (first | with_reducible assumption | exact ⟨Below.drew (Below.refl _ _), ca1_0, ca1_1, ca1_2, cd1_0, cd1_1, cd1_2, cd1_3, cd1_4, cd1_5⟩ | exact ⟨Below.alloc (Below.drew (Below.refl _ _)) (by first | omega | (simp; done) | (simp; omega)) _, cell_alloc (cell_drew ca1_0) _, cell_alloc (cell_drew ca1_1) _, cell_alloc (cell_drew ca1_2) _, cell_alloc (cell_drew cd1_0) _, cell_alloc (cell_drew cd1_1) _, cell_alloc (cell_drew cd1_2) _, cell_alloc (cell_drew cd1_3) _, cell_alloc (cell_drew cd1_4) _, cell_alloc (cell_drew cd1_5) _⟩ | exact ⟨Below.alloc js0 (by first | omega | (simp; done) | (simp; omega)) _, cell_alloc js0ca0 _, cell_alloc js0ca1 _, cell_alloc js0ca2 _, cell_alloc js0cd0 _, cell_alloc js0cd1 _, cell_alloc js0cd2 _, cell_alloc js0cd3 _, cell_alloc js0cd4 _, cell_alloc js0cd5 _⟩ | exact ⟨Below.alloc js1 (by first | omega | (simp; done) | (simp; omega)) _, cell_alloc js1ca0 _, cell_alloc js1ca1 _, cell_alloc js1ca2 _, cell_alloc js1cd0 _, cell_alloc js1cd1 _, cell_alloc js1cd2 _, cell_alloc js1cd3 _, cell_alloc js1cd4 _, cell_alloc js1cd5 _⟩ | exact ⟨Below.alloc js2 (by first | omega | (simp; done) | (simp; omega)) _, cell_alloc js2ca0 _, cell_alloc js2ca1 _, cell_alloc js2ca2 _, cell_alloc js2cd0 _, cell_alloc js2cd1 _, cell_alloc js2cd2 _, cell_alloc js2cd3 _, cell_alloc js2cd4 _, cell_alloc js2cd5 _⟩ | exact ⟨below_three js2 (by first | omega | (simp; done) | (simp; omega)), cell_three js2ca0 (by omega), cell_three js2ca1 (by omega), cell_three js2ca2 (by omega), cell_three js2cd0 (by omega), cell_three js2cd1 (by omega), cell_three js2cd2 (by omega), cell_three js2cd3 (by omega), cell_three js2cd4 (by omega), cell_three js2cd5 (by omega)⟩)
      ((first | (go_at_call 17; refine (toGrid_any W H _ _ cs _ (ha.below (by repeat (first | assumption | exact Below.refl _ _ | (refine Below.alloc ?_ (by first | omega | (simp; done) | (simp; omega)) _) | (refine Below.drew ?_)))) hlc).mono ?_; rintro e jw0 ⟨j0A, j0c, rfl, j0ho, j0hs, j0hi, jhb0⟩; have ju0 : Below w1.heap.size w1 jw0 := Below.trans (by repeat (first | assumption | exact Below.refl _ _ | (refine Below.alloc ?_ (by first | omega | (simp; done) | (simp; omega)) _) | (refine Below.drew ?_))) (jhb0.mono (by first | omega | (simp; done) | (simp; omega))); have js0 : Below w1.heap.size w1 jw0 := ju0; have jz0 : w1.heap.size ≤ jw0.heap.size := ju0.size; (first | (have hxjF0 := keep_blk jhb0 (g := w1.heap.size) (heap_alloc_at _ rfl); obtain ⟨jF0, _, _, jF0z⟩ := hxjF0) | skip); have js0ca0 := (js0.cell (World.block_lt_of_cell? w1 _ ca1_0)).trans ca1_0; have js0ca1 := (js0.cell (World.block_lt_of_cell? w1 _ ca1_1)).trans ca1_1; have js0ca2 := (js0.cell (World.block_lt_of_cell? w1 _ ca1_2)).trans ca1_2; have js0cd0 := (js0.cell (World.block_lt_of_cell? w1 _ cd1_0)).trans cd1_0; have js0cd1 := (js0.cell (World.block_lt_of_cell? w1 _ cd1_1)).trans cd1_1; have js0cd2 := (js0.cell (World.block_lt_of_cell? w1 _ cd1_2)).trans cd1_2; have js0cd3 := (js0.cell (World.block_lt_of_cell? w1 _ cd1_3)).trans cd1_3; have js0cd4 := (js0.cell (World.block_lt_of_cell? w1 _ cd1_4)).trans cd1_4; have js0cd5 := (js0.cell (World.block_lt_of_cell? w1 _ cd1_5)).trans cd1_5; have hkeep_js0 := And.intro (js0) (And.intro (js0ca0) (And.intro (js0ca1) (And.intro (js0ca2) (And.intro (js0cd0) (And.intro (js0cd1) (And.intro (js0cd2) (And.intro (js0cd3) (And.intro (js0cd4) (js0cd5)))))))))) | (go_at_call 40; refine (toCell_any r f b q1 q2 q3 _).mono ?_; rintro e jw1 ⟨rfl, jhb1⟩; have ju1 : Below jw0.heap.size jw0 jw1 := Below.trans (by repeat (first | assumption | exact Below.refl _ _ | (refine Below.alloc ?_ (by first | omega | (simp; done) | (simp; omega)) _) | (refine Below.drew ?_))) (jhb1.mono (by first | omega | (simp; done) | (simp; omega))); have js1 : Below w1.heap.size w1 jw1 := js0.trans (ju1.mono js0.size); have jz1 : jw0.heap.size ≤ jw1.heap.size := ju1.size; (first | (have hxjF1 := keep_blk jhb1 jF0; obtain ⟨jF1, _, _, jF1z⟩ := hxjF1) | (have hxjF1 := keep_blk jhb1 (g := jw0.heap.size) (heap_alloc_at _ rfl); obtain ⟨jF1, _, _, jF1z⟩ := hxjF1) | skip); have js1ca0 := (js1.cell (World.block_lt_of_cell? w1 _ ca1_0)).trans ca1_0; have js1ca1 := (js1.cell (World.block_lt_of_cell? w1 _ ca1_1)).trans ca1_1; have js1ca2 := (js1.cell (World.block_lt_of_cell? w1 _ ca1_2)).trans ca1_2; have js1cd0 := (js1.cell (World.block_lt_of_cell? w1 _ cd1_0)).trans cd1_0; have js1cd1 := (js1.cell (World.block_lt_of_cell? w1 _ cd1_1)).trans cd1_1; have js1cd2 := (js1.cell (World.block_lt_of_cell? w1 _ cd1_2)).trans cd1_2; have js1cd3 := (js1.cell (World.block_lt_of_cell? w1 _ cd1_3)).trans cd1_3; have js1cd4 := (js1.cell (World.block_lt_of_cell? w1 _ cd1_4)).trans cd1_4; have js1cd5 := (js1.cell (World.block_lt_of_cell? w1 _ cd1_5)).trans cd1_5; have hkeep_js1 := And.intro (js1) (And.intro (js1ca0) (And.intro (js1ca1) (And.intro (js1ca2) (And.intro (js1cd0) (And.intro (js1cd1) (And.intro (js1cd2) (And.intro (js1cd3) (And.intro (js1cd4) (js1cd5)))))))))) | (go_at_call 39; refine (KS.out _ _ _ (j0hs.below (by repeat (first | assumption | exact Below.refl _ _ | (refine Below.alloc ?_ (by first | omega | (simp; done) | (simp; omega)) _) | (refine Below.drew ?_)))) hlc).mono ?_; rintro e jw2 ⟨j2A, j2c, rfl, j2ho, j2hs, j2hi, jhb2⟩; have ju2 : Below jw1.heap.size jw1 jw2 := Below.trans (by repeat (first | assumption | exact Below.refl _ _ | (refine Below.alloc ?_ (by first | omega | (simp; done) | (simp; omega)) _) | (refine Below.drew ?_))) (jhb2.mono (by first | omega | (simp; done) | (simp; omega))); have js2 : Below w1.heap.size w1 jw2 := js1.trans (ju2.mono js1.size); have jz2 : jw1.heap.size ≤ jw2.heap.size := ju2.size; (first | (have hxjF2 := keep_blk jhb2 jF1; obtain ⟨jF2, _, _, jF2z⟩ := hxjF2) | (have hxjF2 := keep_blk jhb2 (g := jw1.heap.size) (heap_alloc_at _ rfl); obtain ⟨jF2, _, _, jF2z⟩ := hxjF2) | skip); have js2ca0 := (js2.cell (World.block_lt_of_cell? w1 _ ca1_0)).trans ca1_0; have js2ca1 := (js2.cell (World.block_lt_of_cell? w1 _ ca1_1)).trans ca1_1; have js2ca2 := (js2.cell (World.block_lt_of_cell? w1 _ ca1_2)).trans ca1_2; have js2cd0 := (js2.cell (World.block_lt_of_cell? w1 _ cd1_0)).trans cd1_0; have js2cd1 := (js2.cell (World.block_lt_of_cell? w1 _ cd1_1)).trans cd1_1; have js2cd2 := (js2.cell (World.block_lt_of_cell? w1 _ cd1_2)).trans cd1_2; have js2cd3 := (js2.cell (World.block_lt_of_cell? w1 _ cd1_3)).trans cd1_3; have js2cd4 := (js2.cell (World.block_lt_of_cell? w1 _ cd1_4)).trans cd1_4; have js2cd5 := (js2.cell (World.block_lt_of_cell? w1 _ cd1_5)).trans cd1_5; have hkeep_js2 := And.intro (js2) (And.intro (js2ca0) (And.intro (js2ca1) (And.intro (js2ca2) (And.intro (js2cd0) (And.intro (js2cd1) (And.intro (js2cd2) (And.intro (js2cd3) (And.intro (js2cd4) (js2cd5))))))))))))) | fail
    all_goals (go_wp2_with fail; go_meet; first | exact cutB jF2 (by first | omega | (simp; done) | (simp; omega)) (by first | omega | (simp; done) | (simp; omega)) j2ho j2hi (by first | omega | (simp; done) | (simp; omega)) (by first | omega | (simp; done) | (simp; omega)) js2 | exact cutA j2ho j2hi (by first | omega | (simp; done) | (simp; omega)) (by first | omega | (simp; done) | (simp; omega)) js2)
  case rest =>
  revert wc
  intro w3 hcut
  obtain ⟨gs, A3, c3, lo3, hi3, rfl, Bs3, ho3, i3, l3_1, l3_2, l3_3, l3_4, l3_5, l3_6, hb3⟩ := hcut
  have qs3 : ∀ i, w3.cell? ⟨gs, i, none⟩ = _ := fun i => cell_of_row w3 _ i _ _ (0, 0) Bs3
  have rs3 : ∀ i, w3.frozen? ⟨gs, i, none⟩ = false := fun i => by simp [World.frozen?, Bs3]
  obtain ⟨Ba3, qa3, ra3, za3⟩ := keep_blk hb3 Ba1
  obtain ⟨Bd3, qd3, rd3, zd3⟩ := keep_blk hb3 Bd1
  clear Ba1 qa1 ra1 Bd1 qd1 rd1
  have t3 := t1.trans (hb3.mono t1.size)
  clear ca1_0 ca1_1 ca1_2 cd1_0 cd1_1 cd1_2 cd1_3 cd1_4 cd1_5
  go_wp2_with fail
  refine (toGrid_any W H _ _ cs _ (ha.below t3) hlc).mono ?_
  rintro e w4 ⟨A4, c4, rfl, ho4, hs4, i4, hb4⟩
  obtain ⟨Ba4, qa4, ra4, za4⟩ := keep_blk hb4 Ba3
  obtain ⟨Bd4, qd4, rd4, zd4⟩ := keep_blk hb4 Bd3
  obtain ⟨Bs4, qs4, rs4, zs4⟩ := keep_blk hb4 Bs3
  clear Ba3 qa3 ra3 Bd3 qd3 rd3 Bs3 qs3 rs3
  have t4 := t3.trans (hb4.mono t3.size)
  go_upto_region 7 with fail
  obtain ⟨w5, hw5⟩ : ∃ w5, w5 = w4.alloc (.cells #[.int .i64 W, .int .i64 H, .slice A4 cs.length c4] 33) := ⟨_, rfl⟩
  rw [← hw5]
  have Ba5 := heap_alloc_of (w := w4) (.cells #[.int .i64 W, .int .i64 H, .slice A4 cs.length c4] 33) Ba4
  have Bd5 := heap_alloc_of (w := w4) (.cells #[.int .i64 W, .int .i64 H, .slice A4 cs.length c4] 33) Bd4
  have Bs5 := heap_alloc_of (w := w4) (.cells #[.int .i64 W, .int .i64 H, .slice A4 cs.length c4] 33) Bs4
  have Bx5 : (w4.alloc (.cells #[.int .i64 W, .int .i64 H, .slice A4 cs.length c4] 33)).heap[w4.heap.size]? = _ := heap_alloc_new _ _
  have ho5 := ho4.alloc (.cells #[.int .i64 W, .int .i64 H, .slice A4 cs.length c4] 33)
  have t5 := t4.alloc t4.size (.cells #[.int .i64 W, .int .i64 H, .slice A4 cs.length c4] 33)
  have v5 : Below w3.heap.size w3 (w4.alloc (.cells #[.int .i64 W, .int .i64 H, .slice A4 cs.length c4] 33)) := hb4.alloc hb4.size _
  have z5 : w4.heap.size < (w4.alloc (.cells #[.int .i64 W, .int .i64 H, .slice A4 cs.length c4] 33)).heap.size := by simp
  rw [← hw5] at Ba5 Bd5 Bs5 Bx5 ho5 t5 v5 z5
  clear hw5
  have gs5 := ho3.gs.below v5
  clear Ba4 qa4 ra4 Bd4 qd4 rd4 Bs4 qs4 rs4
  have qa5 : ∀ i, w5.cell? ⟨w.heap.size, i, none⟩ = _ := fun i => cell_of_row w5 _ i _ _ (0, 0) Ba5
  have ra5 : ∀ i, w5.frozen? ⟨w.heap.size, i, none⟩ = false := fun i => by simp [World.frozen?, Ba5]
  have qd5 : ∀ i, w5.cell? ⟨w.heap.size + 1, i, none⟩ = _ := fun i => cell_of_row w5 _ i _ _ (0, 0) Bd5
  have rd5 : ∀ i, w5.frozen? ⟨w.heap.size + 1, i, none⟩ = false := fun i => by simp [World.frozen?, Bd5]
  have qs5 : ∀ i, w5.cell? ⟨gs, i, none⟩ = _ := fun i => cell_of_row w5 _ i _ _ (0, 0) Bs5
  have rs5 : ∀ i, w5.frozen? ⟨gs, i, none⟩ = false := fun i => by simp [World.frozen?, Bs5]
  have qx5 : ∀ i, w5.cell? ⟨w4.heap.size, i, none⟩ = _ := fun i => cell_of_row w5 _ i _ _ (0, 0) Bx5
  have rx5 : ∀ i, w5.frozen? ⟨w4.heap.size, i, none⟩ = false := fun i => by simp [World.frozen?, Bx5]
  have cd5_0 : w5.cell? ⟨w.heap.size + 1, 0, none⟩ = some (.int .i64 r) := by rw [qd5]; rfl
  have cd5_1 : w5.cell? ⟨w.heap.size + 1, 1, none⟩ = some (.int .i64 f) := by rw [qd5]; rfl
  have cd5_2 : w5.cell? ⟨w.heap.size + 1, 2, none⟩ = some (.int .i64 b) := by rw [qd5]; rfl
  have cd5_3 : w5.cell? ⟨w.heap.size + 1, 3, none⟩ = some (.bool q1) := by rw [qd5]; rfl
  have cd5_4 : w5.cell? ⟨w.heap.size + 1, 4, none⟩ = some (.bool q2) := by rw [qd5]; rfl
  have cd5_5 : w5.cell? ⟨w.heap.size + 1, 5, none⟩ = some (.bool q3) := by rw [qd5]; rfl
  have cx5_0 : w5.cell? ⟨w4.heap.size, 0, none⟩ = some (.int .i64 W) := by rw [qx5]; rfl
  have cx5_1 : w5.cell? ⟨w4.heap.size, 1, none⟩ = some (.int .i64 H) := by rw [qx5]; rfl
  have cx5_2 : w5.cell? ⟨w4.heap.size, 2, none⟩ = some (.slice A4 cs.length c4) := by rw [qx5]; rfl
  go_cut [16] (fun s wx => CutG w5 RW RH rs wx s)
  case first =>
    first | (go_region_held3 (fun w' => Below w5.heap.size w5 w' ∧ w'.cell? ⟨w.heap.size + 1, 0, none⟩ = some (.int .i64 r) ∧ w'.cell? ⟨w.heap.size + 1, 1, none⟩ = some (.int .i64 f) ∧ w'.cell? ⟨w.heap.size + 1, 2, none⟩ = some (.int .i64 b) ∧ w'.cell? ⟨w.heap.size + 1, 3, none⟩ = some (.bool q1) ∧ w'.cell? ⟨w.heap.size + 1, 4, none⟩ = some (.bool q2) ∧ w'.cell? ⟨w.heap.size + 1, 5, none⟩ = some (.bool q3) ∧ w'.cell? ⟨w4.heap.size, 0, none⟩ = some (.int .i64 W) ∧ w'.cell? ⟨w4.heap.size, 1, none⟩ = some (.int .i64 H) ∧ w'.cell? ⟨w4.heap.size, 2, none⟩ = some (.slice A4 cs.length c4))
      (first | with_reducible assumption | exact ⟨Below.drew (Below.refl _ _), cd5_0, cd5_1, cd5_2, cd5_3, cd5_4, cd5_5, cx5_0, cx5_1, cx5_2⟩ | exact ⟨Below.alloc (Below.drew (Below.refl _ _)) (by first | omega | (simp; done) | (simp; omega)) _, cell_alloc (cell_drew cd5_0) _, cell_alloc (cell_drew cd5_1) _, cell_alloc (cell_drew cd5_2) _, cell_alloc (cell_drew cd5_3) _, cell_alloc (cell_drew cd5_4) _, cell_alloc (cell_drew cd5_5) _, cell_alloc (cell_drew cx5_0) _, cell_alloc (cell_drew cx5_1) _, cell_alloc (cell_drew cx5_2) _⟩ | exact ⟨Below.alloc ks0 (by first | omega | (simp; done) | (simp; omega)) _, cell_alloc ks0cd0 _, cell_alloc ks0cd1 _, cell_alloc ks0cd2 _, cell_alloc ks0cd3 _, cell_alloc ks0cd4 _, cell_alloc ks0cd5 _, cell_alloc ks0cx0 _, cell_alloc ks0cx1 _, cell_alloc ks0cx2 _⟩ | exact ⟨Below.alloc ks1 (by first | omega | (simp; done) | (simp; omega)) _, cell_alloc ks1cd0 _, cell_alloc ks1cd1 _, cell_alloc ks1cd2 _, cell_alloc ks1cd3 _, cell_alloc ks1cd4 _, cell_alloc ks1cd5 _, cell_alloc ks1cx0 _, cell_alloc ks1cx1 _, cell_alloc ks1cx2 _⟩ | exact ⟨below_three ks1 (by first | omega | (simp; done) | (simp; omega)), cell_three ks1cd0 (by omega), cell_three ks1cd1 (by omega), cell_three ks1cd2 (by omega), cell_three ks1cd3 (by omega), cell_three ks1cd4 (by omega), cell_three ks1cd5 (by omega), cell_three ks1cx0 (by omega), cell_three ks1cx1 (by omega), cell_three ks1cx2 (by omega)⟩)
      ((first | (go_at_call 40; refine (toCell_any r f b q1 q2 q3 _).mono ?_; rintro e kw0 ⟨rfl, khb0⟩; have ku0 : Below w5.heap.size w5 kw0 := Below.trans (by repeat (first | assumption | exact Below.refl _ _ | (refine Below.alloc ?_ (by first | omega | (simp; done) | (simp; omega)) _) | (refine Below.drew ?_))) (khb0.mono (by first | omega | (simp; done) | (simp; omega))); have ks0 : Below w5.heap.size w5 kw0 := ku0; have kz0 : w5.heap.size ≤ kw0.heap.size := ku0.size; (first | (have hxkF0 := keep_blk khb0 (g := w5.heap.size) (heap_alloc_at _ rfl); obtain ⟨kF0, _, _, kF0z⟩ := hxkF0) | skip); have ks0cd0 := (ks0.cell (World.block_lt_of_cell? w5 _ cd5_0)).trans cd5_0; have ks0cd1 := (ks0.cell (World.block_lt_of_cell? w5 _ cd5_1)).trans cd5_1; have ks0cd2 := (ks0.cell (World.block_lt_of_cell? w5 _ cd5_2)).trans cd5_2; have ks0cd3 := (ks0.cell (World.block_lt_of_cell? w5 _ cd5_3)).trans cd5_3; have ks0cd4 := (ks0.cell (World.block_lt_of_cell? w5 _ cd5_4)).trans cd5_4; have ks0cd5 := (ks0.cell (World.block_lt_of_cell? w5 _ cd5_5)).trans cd5_5; have ks0cx0 := (ks0.cell (World.block_lt_of_cell? w5 _ cx5_0)).trans cx5_0; have ks0cx1 := (ks0.cell (World.block_lt_of_cell? w5 _ cx5_1)).trans cx5_1; have ks0cx2 := (ks0.cell (World.block_lt_of_cell? w5 _ cx5_2)).trans cx5_2; have hkeep_ks0 := And.intro (ks0) (And.intro (ks0cd0) (And.intro (ks0cd1) (And.intro (ks0cd2) (And.intro (ks0cd3) (And.intro (ks0cd4) (And.intro (ks0cd5) (And.intro (ks0cx0) (And.intro (ks0cx1) (ks0cx2)))))))))) | (go_at_call 41; refine (KI.out _ _ _ (ho5.gs.below (by repeat (first | assumption | exact Below.refl _ _ | (refine Below.alloc ?_ (by first | omega | (simp; done) | (simp; omega)) _) | (refine Below.drew ?_)))) ho4.cap hlc).mono ?_; rintro e kw1 ⟨k1A, k1c, rfl, k1ho, k1hs, k1hi, khb1⟩; have ku1 : Below kw0.heap.size kw0 kw1 := Below.trans (by repeat (first | assumption | exact Below.refl _ _ | (refine Below.alloc ?_ (by first | omega | (simp; done) | (simp; omega)) _) | (refine Below.drew ?_))) (khb1.mono (by first | omega | (simp; done) | (simp; omega))); have ks1 : Below w5.heap.size w5 kw1 := ks0.trans (ku1.mono ks0.size); have kz1 : kw0.heap.size ≤ kw1.heap.size := ku1.size; (first | (have hxkF1 := keep_blk khb1 kF0; obtain ⟨kF1, _, _, kF1z⟩ := hxkF1) | (have hxkF1 := keep_blk khb1 (g := kw0.heap.size) (heap_alloc_at _ rfl); obtain ⟨kF1, _, _, kF1z⟩ := hxkF1) | skip); have ks1cd0 := (ks1.cell (World.block_lt_of_cell? w5 _ cd5_0)).trans cd5_0; have ks1cd1 := (ks1.cell (World.block_lt_of_cell? w5 _ cd5_1)).trans cd5_1; have ks1cd2 := (ks1.cell (World.block_lt_of_cell? w5 _ cd5_2)).trans cd5_2; have ks1cd3 := (ks1.cell (World.block_lt_of_cell? w5 _ cd5_3)).trans cd5_3; have ks1cd4 := (ks1.cell (World.block_lt_of_cell? w5 _ cd5_4)).trans cd5_4; have ks1cd5 := (ks1.cell (World.block_lt_of_cell? w5 _ cd5_5)).trans cd5_5; have ks1cx0 := (ks1.cell (World.block_lt_of_cell? w5 _ cx5_0)).trans cx5_0; have ks1cx1 := (ks1.cell (World.block_lt_of_cell? w5 _ cx5_1)).trans cx5_1; have ks1cx2 := (ks1.cell (World.block_lt_of_cell? w5 _ cx5_2)).trans cx5_2; have hkeep_ks1 := And.intro (ks1) (And.intro (ks1cd0) (And.intro (ks1cd1) (And.intro (ks1cd2) (And.intro (ks1cd3) (And.intro (ks1cd4) (And.intro (ks1cd5) (And.intro (ks1cx0) (And.intro (ks1cx1) (ks1cx2))))))))))))) | fail
    all_goals (go_wp2_with fail; go_meet; first | exact cutB kF1 (by first | omega | (simp; done) | (simp; omega)) (by first | omega | (simp; done) | (simp; omega)) k1ho k1hi (by first | omega | (simp; done) | (simp; omega)) (by first | omega | (simp; done) | (simp; omega)) ks1 | exact cutA k1ho k1hi (by first | omega | (simp; done) | (simp; omega)) (by first | omega | (simp; done) | (simp; omega)) ks1)
  case rest =>
  revert wc
  intro w6 hcut
  obtain ⟨gg, A6, c6, lo6, hi6, rfl, Bg6, ho6, i6, l6_1, l6_2, l6_3, l6_4, l6_5, l6_6, hb6⟩ := hcut
  have qg6 : ∀ i, w6.cell? ⟨gg, i, none⟩ = _ := fun i => cell_of_row w6 _ i _ _ (0, 0) Bg6
  have rg6 : ∀ i, w6.frozen? ⟨gg, i, none⟩ = false := fun i => by simp [World.frozen?, Bg6]
  obtain ⟨Ba6, qa6, ra6, za6⟩ := keep_blk hb6 Ba5
  obtain ⟨Bd6, qd6, rd6, zd6⟩ := keep_blk hb6 Bd5
  obtain ⟨Bs6, qs6, rs6, zs6⟩ := keep_blk hb6 Bs5
  obtain ⟨Bx6, qx6, rx6, zx6⟩ := keep_blk hb6 Bx5
  clear Ba5 qa5 ra5 Bd5 qd5 rd5 Bs5 qs5 rs5 Bx5 qx5 rx5
  clear cd5_0 cd5_1 cd5_2 cd5_3 cd5_4 cd5_5 cx5_0 cx5_1 cx5_2
  have t6 := t5.trans (hb6.mono t5.size)
  have ox6 := ho5.below hb6 (Nat.le_refl _)
  have gs6 := gs5.below hb6
  go_wp2_with fail
  refine (eqGrid_same RW RH _ _ _ _ rs _ ho6.gs gs6 (by omega)).mono ?_
  rintro e w7 ⟨rfl, hb7⟩
  obtain ⟨Ba7, qa7, ra7, za7⟩ := keep_blk hb7 Ba6
  obtain ⟨Bd7, qd7, rd7, zd7⟩ := keep_blk hb7 Bd6
  obtain ⟨Bs7, qs7, rs7, zs7⟩ := keep_blk hb7 Bs6
  obtain ⟨Bx7, qx7, rx7, zx7⟩ := keep_blk hb7 Bx6
  obtain ⟨Bg7, qg7, rg7, zg7⟩ := keep_blk hb7 Bg6
  clear Ba6 qa6 ra6 Bd6 qd6 rd6 Bs6 qs6 rs6 Bx6 qx6 rx6 Bg6 qg6 rg6
  have t7 := t6.trans (hb7.mono t6.size)
  have ox7 := ox6.below hb7 (Nat.le_refl _)
  have og7 := ho6.below hb7 (Nat.le_refl _)
  have gs7 := gs6.below hb7
  go_wp2_with fail
  have ca7_0 : w7.cell? ⟨w.heap.size, 0, none⟩ = some (.int .i64 W) := by rw [qa7]; rfl
  have ca7_1 : w7.cell? ⟨w.heap.size, 1, none⟩ = some (.int .i64 H) := by rw [qa7]; rfl
  have ca7_2 : w7.cell? ⟨w.heap.size, 2, none⟩ = some (.slice A cs.length c) := by rw [qa7]; rfl
  have cx7_0 : w7.cell? ⟨w4.heap.size, 0, none⟩ = some (.int .i64 W) := by rw [qx7]; rfl
  have cx7_1 : w7.cell? ⟨w4.heap.size, 1, none⟩ = some (.int .i64 H) := by rw [qx7]; rfl
  have cx7_2 : w7.cell? ⟨w4.heap.size, 2, none⟩ = some (.slice A4 cs.length c4) := by rw [qx7]; rfl
  first | (go_region_held3 (fun w' => Below w7.heap.size w7 w' ∧ w'.cell? ⟨w.heap.size, 0, none⟩ = some (.int .i64 W) ∧ w'.cell? ⟨w.heap.size, 1, none⟩ = some (.int .i64 H) ∧ w'.cell? ⟨w.heap.size, 2, none⟩ = some (.slice A cs.length c) ∧ w'.cell? ⟨w4.heap.size, 0, none⟩ = some (.int .i64 W) ∧ w'.cell? ⟨w4.heap.size, 1, none⟩ = some (.int .i64 H) ∧ w'.cell? ⟨w4.heap.size, 2, none⟩ = some (.slice A4 cs.length c4))
    (first | exact ⟨Below.drew (Below.refl _ _), by simpa using ca7_0, by simpa using ca7_1, by simpa using ca7_2, by simpa using cx7_0, by simpa using cx7_1, by simpa using cx7_2⟩ | assumption | (refine ⟨?_, ?_, ?_, ?_, ?_, ?_, ?_⟩ <;> assumption))
    ((first | (go_at_call 17; refine (toGrid_any W H _ _ cs _ (ha.below (Below.drew t7)) hlc).mono ?_; rintro e w8 ⟨A8, c8, rfl, _, hs8, hi8, hb8⟩; have s8 : Below w7.heap.size w7 _ := (Below.drew (Below.refl _ _)).trans hb8; have hkeep_s8 := And.intro (s8) (And.intro ((s8.cell (World.block_lt_of_cell? w7 _ ca7_0)).trans ca7_0) (And.intro ((s8.cell (World.block_lt_of_cell? w7 _ ca7_1)).trans ca7_1) (And.intro ((s8.cell (World.block_lt_of_cell? w7 _ ca7_2)).trans ca7_2) (And.intro ((s8.cell (World.block_lt_of_cell? w7 _ cx7_0)).trans cx7_0) (And.intro ((s8.cell (World.block_lt_of_cell? w7 _ cx7_1)).trans cx7_1) ((s8.cell (World.block_lt_of_cell? w7 _ cx7_2)).trans cx7_2))))))) | (go_at_call 20; refine (eqGrid_same W H _ _ _ _ cs _ (ox7.gs.below s8) hs8 (by omega)).mono ?_; rintro e w9 ⟨rfl, hb9⟩; have s9 : Below w7.heap.size w7 _ := s8.trans (hb9.mono s8.size); have hkeep_s9 := And.intro (s9) (And.intro ((s9.cell (World.block_lt_of_cell? w7 _ ca7_0)).trans ca7_0) (And.intro ((s9.cell (World.block_lt_of_cell? w7 _ ca7_1)).trans ca7_1) (And.intro ((s9.cell (World.block_lt_of_cell? w7 _ ca7_2)).trans ca7_2) (And.intro ((s9.cell (World.block_lt_of_cell? w7 _ cx7_0)).trans cx7_0) (And.intro ((s9.cell (World.block_lt_of_cell? w7 _ cx7_1)).trans cx7_1) ((s9.cell (World.block_lt_of_cell? w7 _ cx7_2)).trans cx7_2)))))))))) | fail
  clear hkeep_s8 hkeep_s9
  obtain ⟨Ba9, qa9, ra9, za9⟩ := keep_blk s9 Ba7
  obtain ⟨Bd9, qd9, rd9, zd9⟩ := keep_blk s9 Bd7
  obtain ⟨Bs9, qs9, rs9, zs9⟩ := keep_blk s9 Bs7
  obtain ⟨Bx9, qx9, rx9, zx9⟩ := keep_blk s9 Bx7
  obtain ⟨Bg9, qg9, rg9, zg9⟩ := keep_blk s9 Bg7
  clear Ba7 qa7 ra7 Bd7 qd7 rd7 Bs7 qs7 rs7 Bx7 qx7 rx7 Bg7 qg7 rg7
  clear ca7_0 ca7_1 ca7_2 cx7_0 cx7_1 cx7_2
  have t9 := t7.trans (s9.mono t7.size)
  have ox9 := ox7.below s9 (Nat.le_refl _)
  have og9 := og7.below s9 (Nat.le_refl _)
  have gs9 := gs7.below s9
  have y1 : w.heap.size < w1.heap.size := za1
  have y1' : w.heap.size + 1 < w1.heap.size := zd1
  have y3 : w1.heap.size ≤ w3.heap.size := hb3.size
  have y4 : w3.heap.size ≤ w4.heap.size := hb4.size
  have y6 : w5.heap.size ≤ w6.heap.size := hb6.size
  have y7 : w6.heap.size ≤ w7.heap.size := hb7.size
  have y9 : w7.heap.size ≤ w9.heap.size := s9.size
  go_wp2_with fail
  refine (markGrid_any W H _ _ _ cs 1 _ ox9 hlc (by omega) (by omega)).mono ?_
  rintro e w10 ⟨rfl, ox10, hg10⟩
  have m10 := hg10.size
  obtain ⟨Ba10, qa10, ra10, za10⟩ := keep_gr hg10 i4 Ba9 (by omega)
  obtain ⟨Bd10, qd10, rd10, zd10⟩ := keep_gr hg10 i4 Bd9 (by omega)
  obtain ⟨Bs10, qs10, rs10, zs10⟩ := keep_gr hg10 i4 Bs9 (by omega)
  obtain ⟨Bx10, qx10, rx10, zx10⟩ := keep_gr hg10 i4 Bx9 (by omega)
  obtain ⟨Bg10, qg10, rg10, zg10⟩ := keep_gr hg10 i4 Bg9 (by omega)
  clear Ba9 qa9 ra9 Bd9 qd9 rd9 Bs9 qs9 rs9 Bx9 qx9 rx9 Bg9 qg9 rg9
  have t10 : Below w.heap.size w w10 := below_grown t9 hg10 i4 (by omega) (by omega)
  have og10 := og9.grown hg10 i4 i6 (.inr (by omega))
  have gs10 := gs9.grown hg10 i4 (fun ad h _ => .inl (by have := i3 ad h; omega))
  have hk10 : ¬ (1 : Int) + 6 * (cs.length : Int) < 0 := by omega
  go_wp2_with fail
  refine (eqGrid_same RW RH _ _ _ _ rs _ og10.gs gs10 (by omega)).mono ?_
  rintro e w11 ⟨rfl, hb11⟩
  obtain ⟨Ba11, qa11, ra11, za11⟩ := keep_blk hb11 Ba10
  obtain ⟨Bd11, qd11, rd11, zd11⟩ := keep_blk hb11 Bd10
  obtain ⟨Bs11, qs11, rs11, zs11⟩ := keep_blk hb11 Bs10
  obtain ⟨Bg11, qg11, rg11, zg11⟩ := keep_blk hb11 Bg10
  clear Ba10 qa10 ra10 Bd10 qd10 rd10 Bs10 qs10 rs10 Bx10 qx10 rx10 Bg10 qg10 rg10
  have t11 := t10.trans (hb11.mono t10.size)
  have y11 := hb11.size
  have og11 := og10.below hb11 (Nat.le_refl _)
  have gs11 := gs10.below hb11
  go_wp2_with fail
  refine (markGrid_any RW RH _ _ _ rs 1 _ og11 hrl' (by omega) (by omega)).mono ?_
  rintro e w12 ⟨rfl, og12, hg12⟩
  have m12 := hg12.size
  obtain ⟨Ba12, qa12, ra12, za12⟩ := keep_gr hg12 i6 Ba11 (by omega)
  obtain ⟨Bd12, qd12, rd12, zd12⟩ := keep_gr hg12 i6 Bd11 (by omega)
  obtain ⟨Bs12, qs12, rs12, zs12⟩ := keep_gr hg12 i6 Bs11 (by omega)
  obtain ⟨Bg12, qg12, rg12, zg12⟩ := keep_gr hg12 i6 Bg11 (by omega)
  clear Ba11 qa11 ra11 Bd11 qd11 rd11 Bs11 qs11 rs11 Bg11 qg11 rg11
  have t12 : Below w.heap.size w w12 := below_grown t11 hg12 i6 (by omega) (by omega)
  have gs12 := gs11.grown hg12 i6 (fun ad h _ => .inl (by have := i3 ad h; omega))
  have gm12 : Gs w12 A6 (markC 1 rs.length) := og12.gs
  have hk12 : ¬ (1 : Int) + 6 * (rs.length : Int) < 0 := by omega
  go_wp2_with fail
  refine (heldGrid_any RW RH _ _ rs.length 1 _ gm12 hrl' (by omega) (by omega)).mono ?_
  rintro e w13 ⟨rfl, hb13⟩
  obtain ⟨Ba13, qa13, ra13, za13⟩ := keep_blk hb13 Ba12
  obtain ⟨Bd13, qd13, rd13, zd13⟩ := keep_blk hb13 Bd12
  obtain ⟨Bs13, qs13, rs13, zs13⟩ := keep_blk hb13 Bs12
  obtain ⟨Bg13, qg13, rg13, zg13⟩ := keep_blk hb13 Bg12
  clear Ba12 qa12 ra12 Bd12 qd12 rd12 Bs12 qs12 rs12 Bg12 qg12 rg12
  have t13 := t12.trans (hb13.mono t12.size)
  have gs13 := gs12.below hb13
  have gm13 := gm12.below hb13
  go_upto_region 24 with fail
  have ca13_0 : w13.cell? ⟨w.heap.size, 0, none⟩ = some (.int .i64 W) := by rw [qa13]; rfl
  have ca13_1 : w13.cell? ⟨w.heap.size, 1, none⟩ = some (.int .i64 H) := by rw [qa13]; rfl
  have ca13_2 : w13.cell? ⟨w.heap.size, 2, none⟩ = some (.slice A cs.length c) := by rw [qa13]; rfl
  have cd13_0 : w13.cell? ⟨w.heap.size + 1, 0, none⟩ = some (.int .i64 r) := by rw [qd13]; rfl
  have cd13_1 : w13.cell? ⟨w.heap.size + 1, 1, none⟩ = some (.int .i64 f) := by rw [qd13]; rfl
  have cd13_2 : w13.cell? ⟨w.heap.size + 1, 2, none⟩ = some (.int .i64 b) := by rw [qd13]; rfl
  have cd13_3 : w13.cell? ⟨w.heap.size + 1, 3, none⟩ = some (.bool q1) := by rw [qd13]; rfl
  have cd13_4 : w13.cell? ⟨w.heap.size + 1, 4, none⟩ = some (.bool q2) := by rw [qd13]; rfl
  have cd13_5 : w13.cell? ⟨w.heap.size + 1, 5, none⟩ = some (.bool q3) := by rw [qd13]; rfl
  go_cut [20] (fun s wx => CutG w13 RW RH rs wx s)
  case first =>
    first | (go_region_held3 (fun w' => Below w13.heap.size w13 w' ∧ w'.cell? ⟨w.heap.size, 0, none⟩ = some (.int .i64 W) ∧ w'.cell? ⟨w.heap.size, 1, none⟩ = some (.int .i64 H) ∧ w'.cell? ⟨w.heap.size, 2, none⟩ = some (.slice A cs.length c) ∧ w'.cell? ⟨w.heap.size + 1, 0, none⟩ = some (.int .i64 r) ∧ w'.cell? ⟨w.heap.size + 1, 1, none⟩ = some (.int .i64 f) ∧ w'.cell? ⟨w.heap.size + 1, 2, none⟩ = some (.int .i64 b) ∧ w'.cell? ⟨w.heap.size + 1, 3, none⟩ = some (.bool q1) ∧ w'.cell? ⟨w.heap.size + 1, 4, none⟩ = some (.bool q2) ∧ w'.cell? ⟨w.heap.size + 1, 5, none⟩ = some (.bool q3))
      (first | with_reducible assumption | exact ⟨Below.drew (Below.refl _ _), ca13_0, ca13_1, ca13_2, cd13_0, cd13_1, cd13_2, cd13_3, cd13_4, cd13_5⟩ | exact ⟨Below.alloc (Below.drew (Below.refl _ _)) (by first | omega | (simp; done) | (simp; omega)) _, cell_alloc (cell_drew ca13_0) _, cell_alloc (cell_drew ca13_1) _, cell_alloc (cell_drew ca13_2) _, cell_alloc (cell_drew cd13_0) _, cell_alloc (cell_drew cd13_1) _, cell_alloc (cell_drew cd13_2) _, cell_alloc (cell_drew cd13_3) _, cell_alloc (cell_drew cd13_4) _, cell_alloc (cell_drew cd13_5) _⟩ | exact ⟨Below.alloc ns0 (by first | omega | (simp; done) | (simp; omega)) _, cell_alloc ns0ca0 _, cell_alloc ns0ca1 _, cell_alloc ns0ca2 _, cell_alloc ns0cd0 _, cell_alloc ns0cd1 _, cell_alloc ns0cd2 _, cell_alloc ns0cd3 _, cell_alloc ns0cd4 _, cell_alloc ns0cd5 _⟩ | exact ⟨Below.alloc ns1 (by first | omega | (simp; done) | (simp; omega)) _, cell_alloc ns1ca0 _, cell_alloc ns1ca1 _, cell_alloc ns1ca2 _, cell_alloc ns1cd0 _, cell_alloc ns1cd1 _, cell_alloc ns1cd2 _, cell_alloc ns1cd3 _, cell_alloc ns1cd4 _, cell_alloc ns1cd5 _⟩ | exact ⟨Below.alloc ns2 (by first | omega | (simp; done) | (simp; omega)) _, cell_alloc ns2ca0 _, cell_alloc ns2ca1 _, cell_alloc ns2ca2 _, cell_alloc ns2cd0 _, cell_alloc ns2cd1 _, cell_alloc ns2cd2 _, cell_alloc ns2cd3 _, cell_alloc ns2cd4 _, cell_alloc ns2cd5 _⟩ | exact ⟨below_three ns2 (by first | omega | (simp; done) | (simp; omega)), cell_three ns2ca0 (by omega), cell_three ns2ca1 (by omega), cell_three ns2ca2 (by omega), cell_three ns2cd0 (by omega), cell_three ns2cd1 (by omega), cell_three ns2cd2 (by omega), cell_three ns2cd3 (by omega), cell_three ns2cd4 (by omega), cell_three ns2cd5 (by omega)⟩)
      ((first | (go_at_call 17; refine (toGrid_any W H _ _ cs _ (ha.below (by repeat (first | assumption | exact Below.refl _ _ | (refine Below.alloc ?_ (by first | omega | (simp; done) | (simp; omega)) _) | (refine Below.drew ?_)))) hlc).mono ?_; rintro e nw0 ⟨n0A, n0c, rfl, n0ho, n0hs, n0hi, nhb0⟩; have nu0 : Below w13.heap.size w13 nw0 := Below.trans (by repeat (first | assumption | exact Below.refl _ _ | (refine Below.alloc ?_ (by first | omega | (simp; done) | (simp; omega)) _) | (refine Below.drew ?_))) (nhb0.mono (by first | omega | (simp; done) | (simp; omega))); have ns0 : Below w13.heap.size w13 nw0 := nu0; have nz0 : w13.heap.size ≤ nw0.heap.size := nu0.size; (first | (have hxnF0 := keep_blk nhb0 (g := w13.heap.size) (heap_alloc_at _ rfl); obtain ⟨nF0, _, _, nF0z⟩ := hxnF0) | skip); have ns0ca0 := (ns0.cell (World.block_lt_of_cell? w13 _ ca13_0)).trans ca13_0; have ns0ca1 := (ns0.cell (World.block_lt_of_cell? w13 _ ca13_1)).trans ca13_1; have ns0ca2 := (ns0.cell (World.block_lt_of_cell? w13 _ ca13_2)).trans ca13_2; have ns0cd0 := (ns0.cell (World.block_lt_of_cell? w13 _ cd13_0)).trans cd13_0; have ns0cd1 := (ns0.cell (World.block_lt_of_cell? w13 _ cd13_1)).trans cd13_1; have ns0cd2 := (ns0.cell (World.block_lt_of_cell? w13 _ cd13_2)).trans cd13_2; have ns0cd3 := (ns0.cell (World.block_lt_of_cell? w13 _ cd13_3)).trans cd13_3; have ns0cd4 := (ns0.cell (World.block_lt_of_cell? w13 _ cd13_4)).trans cd13_4; have ns0cd5 := (ns0.cell (World.block_lt_of_cell? w13 _ cd13_5)).trans cd13_5; have hkeep_ns0 := And.intro (ns0) (And.intro (ns0ca0) (And.intro (ns0ca1) (And.intro (ns0ca2) (And.intro (ns0cd0) (And.intro (ns0cd1) (And.intro (ns0cd2) (And.intro (ns0cd3) (And.intro (ns0cd4) (ns0cd5)))))))))) | (go_at_call 40; refine (toCell_any r f b q1 q2 q3 _).mono ?_; rintro e nw1 ⟨rfl, nhb1⟩; have nu1 : Below nw0.heap.size nw0 nw1 := Below.trans (by repeat (first | assumption | exact Below.refl _ _ | (refine Below.alloc ?_ (by first | omega | (simp; done) | (simp; omega)) _) | (refine Below.drew ?_))) (nhb1.mono (by first | omega | (simp; done) | (simp; omega))); have ns1 : Below w13.heap.size w13 nw1 := ns0.trans (nu1.mono ns0.size); have nz1 : nw0.heap.size ≤ nw1.heap.size := nu1.size; (first | (have hxnF1 := keep_blk nhb1 nF0; obtain ⟨nF1, _, _, nF1z⟩ := hxnF1) | (have hxnF1 := keep_blk nhb1 (g := nw0.heap.size) (heap_alloc_at _ rfl); obtain ⟨nF1, _, _, nF1z⟩ := hxnF1) | skip); have ns1ca0 := (ns1.cell (World.block_lt_of_cell? w13 _ ca13_0)).trans ca13_0; have ns1ca1 := (ns1.cell (World.block_lt_of_cell? w13 _ ca13_1)).trans ca13_1; have ns1ca2 := (ns1.cell (World.block_lt_of_cell? w13 _ ca13_2)).trans ca13_2; have ns1cd0 := (ns1.cell (World.block_lt_of_cell? w13 _ cd13_0)).trans cd13_0; have ns1cd1 := (ns1.cell (World.block_lt_of_cell? w13 _ cd13_1)).trans cd13_1; have ns1cd2 := (ns1.cell (World.block_lt_of_cell? w13 _ cd13_2)).trans cd13_2; have ns1cd3 := (ns1.cell (World.block_lt_of_cell? w13 _ cd13_3)).trans cd13_3; have ns1cd4 := (ns1.cell (World.block_lt_of_cell? w13 _ cd13_4)).trans cd13_4; have ns1cd5 := (ns1.cell (World.block_lt_of_cell? w13 _ cd13_5)).trans cd13_5; have hkeep_ns1 := And.intro (ns1) (And.intro (ns1ca0) (And.intro (ns1ca1) (And.intro (ns1ca2) (And.intro (ns1cd0) (And.intro (ns1cd1) (And.intro (ns1cd2) (And.intro (ns1cd3) (And.intro (ns1cd4) (ns1cd5)))))))))) | (go_at_call 41; refine (KI.out _ _ _ (n0hs.below (by repeat (first | assumption | exact Below.refl _ _ | (refine Below.alloc ?_ (by first | omega | (simp; done) | (simp; omega)) _) | (refine Below.drew ?_)))) n0ho.cap hlc).mono ?_; rintro e nw2 ⟨n2A, n2c, rfl, n2ho, n2hs, n2hi, nhb2⟩; have nu2 : Below nw1.heap.size nw1 nw2 := Below.trans (by repeat (first | assumption | exact Below.refl _ _ | (refine Below.alloc ?_ (by first | omega | (simp; done) | (simp; omega)) _) | (refine Below.drew ?_))) (nhb2.mono (by first | omega | (simp; done) | (simp; omega))); have ns2 : Below w13.heap.size w13 nw2 := ns1.trans (nu2.mono ns1.size); have nz2 : nw1.heap.size ≤ nw2.heap.size := nu2.size; (first | (have hxnF2 := keep_blk nhb2 nF1; obtain ⟨nF2, _, _, nF2z⟩ := hxnF2) | (have hxnF2 := keep_blk nhb2 (g := nw1.heap.size) (heap_alloc_at _ rfl); obtain ⟨nF2, _, _, nF2z⟩ := hxnF2) | skip); have ns2ca0 := (ns2.cell (World.block_lt_of_cell? w13 _ ca13_0)).trans ca13_0; have ns2ca1 := (ns2.cell (World.block_lt_of_cell? w13 _ ca13_1)).trans ca13_1; have ns2ca2 := (ns2.cell (World.block_lt_of_cell? w13 _ ca13_2)).trans ca13_2; have ns2cd0 := (ns2.cell (World.block_lt_of_cell? w13 _ cd13_0)).trans cd13_0; have ns2cd1 := (ns2.cell (World.block_lt_of_cell? w13 _ cd13_1)).trans cd13_1; have ns2cd2 := (ns2.cell (World.block_lt_of_cell? w13 _ cd13_2)).trans cd13_2; have ns2cd3 := (ns2.cell (World.block_lt_of_cell? w13 _ cd13_3)).trans cd13_3; have ns2cd4 := (ns2.cell (World.block_lt_of_cell? w13 _ cd13_4)).trans cd13_4; have ns2cd5 := (ns2.cell (World.block_lt_of_cell? w13 _ cd13_5)).trans cd13_5; have hkeep_ns2 := And.intro (ns2) (And.intro (ns2ca0) (And.intro (ns2ca1) (And.intro (ns2ca2) (And.intro (ns2cd0) (And.intro (ns2cd1) (And.intro (ns2cd2) (And.intro (ns2cd3) (And.intro (ns2cd4) (ns2cd5))))))))))))) | fail
    all_goals (go_wp2_with fail; go_meet; first | exact cutB nF2 (by first | omega | (simp; done) | (simp; omega)) (by first | omega | (simp; done) | (simp; omega)) n2ho n2hi (by first | omega | (simp; done) | (simp; omega)) (by first | omega | (simp; done) | (simp; omega)) ns2 | exact cutA n2ho n2hi (by first | omega | (simp; done) | (simp; omega)) (by first | omega | (simp; done) | (simp; omega)) ns2)
  case rest =>
  revert wc
  intro w14 hcut
  obtain ⟨gh, A14, c14, lo14, hi14, rfl, Bh14, ho14, i14, l14_1, l14_2, l14_3, l14_4, l14_5, l14_6, hb14⟩ := hcut
  have qh14 : ∀ i, w14.cell? ⟨gh, i, none⟩ = _ := fun i => cell_of_row w14 _ i _ _ (0, 0) Bh14
  have rh14 : ∀ i, w14.frozen? ⟨gh, i, none⟩ = false := fun i => by simp [World.frozen?, Bh14]
  obtain ⟨Bs14, qs14, rs14, zs14⟩ := keep_blk hb14 Bs13
  obtain ⟨Bg14, qg14, rg14, zg14⟩ := keep_blk hb14 Bg13
  have t14 := t13.trans (hb14.mono t13.size)
  have gs14 := gs13.below hb14
  have gm14 := gm13.below hb14
  go_wp2_with fail
  refine (eqGrid_same RW RH _ _ _ _ rs _ ho14.gs gs14 (by omega)).mono ?_
  rintro e w15 ⟨rfl, hb15⟩
  obtain ⟨Bg15, qg15, rg15, zg15⟩ := keep_blk hb15 Bg14
  clear Bg14 qg14 rg14
  have t15 := t14.trans (hb15.mono t14.size)
  have gm15 := gm14.below hb15
  go_wp2_with fail
  refine (heldGrid_any RW RH _ _ rs.length 1 _ gm15 hrl' (by omega) (by omega)).mono ?_
  rintro e w16 ⟨rfl, hb16⟩
  go_wp2_with fail
  go_ret
  exact ⟨rfl, t15.trans (hb16.mono t15.size)⟩
end Go.Proofs.Ytdmhmelmoobekaa
