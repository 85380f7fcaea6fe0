/- A grid laid over another: the reference's way. -/
import Derived.Test.YtdmhmelmoobekaaPa1
import Derived.Test.YtdmhmelmoobekaaGw
namespace Go.Proofs.Ytdmhmelmoobekaa
open Go.RowKit
set_option linter.unusedVariables false
set_option maxRecDepth 100000

set_option maxHeartbeats 8000000 in
theorem gridPaste_spec (W H : Int) (A : Option Addr) (c : Nat) (cs : List Cl) (W' H' : Int) (A' : Option Addr) (c' : Nat) (ds : List Cl) (x y : Int) (w : World) (ha : Gs w A cs) (ha' : Gs w A' ds) (h1 : cs.length ≤ 1048576) (h2 : ds.length ≤ 1048576) :
    Calls Try.prog 42 #[gV W H A cs.length c, gV W' H' A' ds.length c', .int .i64 x, .int .i64 y] w (GridPost w (paR W H cs W' H' ds x y).1 (paR W H cs W' H' ds x y).2.1 (paR W H cs W' H' ds x y).2.2) := by
  have hb0 : Below w.heap.size w (((w.alloc (.cells #[.int .i64 W, .int .i64 H, .slice A cs.length c] 33)).alloc (.cells #[.int .i64 W', .int .i64 H', .slice A' ds.length c'] 33)).alloc (.cells #[.int .i64 0, .int .i64 0, .slice none 0 0] 33)) := by (repeat (first | exact Below.refl _ _ | (refine Below.alloc ?_ (by first | omega | (simp; done) | (simp; omega)) _) | (refine Below.drew ?_) | (refine below_drewN ?_ _) | (refine below_at1 ?_ (by first | omega | (simp; done) | (simp; omega))) | (refine Below.setCell ?_ (by first | omega | (simp; done) | (simp; omega)) _) | (refine Below.trans ?_ (Below.mono (by assumption) (by first | omega | (simp; done) | (simp; omega))))))
  by_cases hg : gridB W H cs = true
  case neg =>
    have HG : Hid (gridB W H cs = false) := by show _ = _; simpa using hg
    have HR := Lib.hid (pa_none (W := W) (H := H) (cs := cs) (W' := W') (H' := H') (ds := ds) (x := x) (y := y) (fun h => hg h.1))
    clear hg
    generalize paR W H cs W' H' ds x y = R at HR ⊢
    go_enter Try.func42, Try.ntmps42
    go_wp2_with fail
    refine (gridOk_spec W H _ _ cs _ (ha.below hb0) h1).mono ?_
    rintro e w1 ⟨he, hb1⟩
    rw [HG.out] at he
    subst he
    obtain ⟨B1, q1, r1, z1⟩ := keep_blk hb1 (g := w.heap.size) (by repeat (first | assumption | exact heap_alloc_at _ (by first | rfl | (simp; done) | omega) | refine heap_alloc_of _ ?_ | refine heap_setCell_of _ (by first | omega | (simp; done) | (simp; omega)) ?_ | refine heap_setCell_same _ ?_ | exact heap_at1_same (by first | omega | (simp; done) | (simp; omega)) | refine heap_at1_of (by first | omega | (simp; done) | (simp; omega)) ?_))
    obtain ⟨C1, qq1, rr1, zz1⟩ := keep_blk hb1 (g := w.heap.size + 1) (by repeat (first | assumption | exact heap_alloc_at _ (by first | rfl | (simp; done) | omega) | refine heap_alloc_of _ ?_ | refine heap_setCell_of _ (by first | omega | (simp; done) | (simp; omega)) ?_ | refine heap_setCell_same _ ?_ | exact heap_at1_same (by first | omega | (simp; done) | (simp; omega)) | refine heap_at1_of (by first | omega | (simp; done) | (simp; omega)) ?_))
    obtain ⟨D1, qd1, rd1, zd1⟩ := keep_blk hb1 (g := w.heap.size + 1 + 1) (by repeat (first | assumption | exact heap_alloc_at _ (by first | rfl | (simp; done) | omega) | refine heap_alloc_of _ ?_ | refine heap_setCell_of _ (by first | omega | (simp; done) | (simp; omega)) ?_ | refine heap_setCell_same _ ?_ | exact heap_at1_same (by first | omega | (simp; done) | (simp; omega)) | refine heap_at1_of (by first | omega | (simp; done) | (simp; omega)) ?_))
    have t1 := hb0.trans (hb1.mono hb0.size)
    go_wp2_with fail
    exact bodyPost_ret (v := .agg #[.int .i64 0, .int .i64 0, .slice none 0 0]) (by simp [results, Try.results42, go_sem, *]) rfl (gp_nil (((t1.setCell (by first | omega | (simp; done) | (simp; omega)) _).setCell (by first | omega | (simp; done) | (simp; omega)) _).setCell (by first | omega | (simp; done) | (simp; omega)) _) R HR.out)
  obtain ⟨⟨s1, s2⟩, ⟨s3, s4⟩, s5, hl⟩ := grid_len hg
  have HG := Lib.hid hg
  clear hg
  by_cases hc_ : gridB W' H' ds = true
  case neg =>
    have HC : Hid (gridB W' H' ds = false) := by show _ = _; simpa using hc_
    have HR := Lib.hid (pa_none (W := W) (H := H) (cs := cs) (W' := W') (H' := H') (ds := ds) (x := x) (y := y) (fun h => hc_ h.2.1))
    clear hc_
    generalize paR W H cs W' H' ds x y = R at HR ⊢
    go_enter Try.func42, Try.ntmps42
    go_wp2_with fail
    refine (gridOk_spec W H _ _ cs _ (ha.below hb0) h1).mono ?_
    rintro e w1 ⟨he, hb1⟩
    rw [HG.out] at he
    subst he
    obtain ⟨B1, q1, r1, z1⟩ := keep_blk hb1 (g := w.heap.size) (by repeat (first | assumption | exact heap_alloc_at _ (by first | rfl | (simp; done) | omega) | refine heap_alloc_of _ ?_ | refine heap_setCell_of _ (by first | omega | (simp; done) | (simp; omega)) ?_ | refine heap_setCell_same _ ?_ | exact heap_at1_same (by first | omega | (simp; done) | (simp; omega)) | refine heap_at1_of (by first | omega | (simp; done) | (simp; omega)) ?_))
    obtain ⟨C1, qq1, rr1, zz1⟩ := keep_blk hb1 (g := w.heap.size + 1) (by repeat (first | assumption | exact heap_alloc_at _ (by first | rfl | (simp; done) | omega) | refine heap_alloc_of _ ?_ | refine heap_setCell_of _ (by first | omega | (simp; done) | (simp; omega)) ?_ | refine heap_setCell_same _ ?_ | exact heap_at1_same (by first | omega | (simp; done) | (simp; omega)) | refine heap_at1_of (by first | omega | (simp; done) | (simp; omega)) ?_))
    obtain ⟨D1, qd1, rd1, zd1⟩ := keep_blk hb1 (g := w.heap.size + 1 + 1) (by repeat (first | assumption | exact heap_alloc_at _ (by first | rfl | (simp; done) | omega) | refine heap_alloc_of _ ?_ | refine heap_setCell_of _ (by first | omega | (simp; done) | (simp; omega)) ?_ | refine heap_setCell_same _ ?_ | exact heap_at1_same (by first | omega | (simp; done) | (simp; omega)) | refine heap_at1_of (by first | omega | (simp; done) | (simp; omega)) ?_))
    have t1 := hb0.trans (hb1.mono hb0.size)
    go_wp2_with fail
    refine (gridOk_spec W' H' _ _ ds _ (ha'.below t1) h2).mono ?_
    rintro e w2 ⟨he, hb2⟩
    rw [HC.out] at he
    subst he
    obtain ⟨B2, q2, r2, z2⟩ := keep_blk hb2 B1
    obtain ⟨C2, qq2, rr2, zz2⟩ := keep_blk hb2 C1
    obtain ⟨D2, qd2, rd2, zd2⟩ := keep_blk hb2 D1
    clear B1 q1 r1 C1 qq1 rr1 D1 qd1 rd1
    have t2 := t1.trans (hb2.mono t1.size)
    go_wp2_with fail
    exact bodyPost_ret (v := .agg #[.int .i64 0, .int .i64 0, .slice none 0 0]) (by simp [results, Try.results42, go_sem, *]) rfl (gp_nil (((t2.setCell (by first | omega | (simp; done) | (simp; omega)) _).setCell (by first | omega | (simp; done) | (simp; omega)) _).setCell (by first | omega | (simp; done) | (simp; omega)) _) R HR.out)
  obtain ⟨⟨s1', s2'⟩, ⟨s3', s4'⟩, s5', hl'⟩ := grid_len hc_
  have HC := Lib.hid hc_
  clear hc_
  by_cases hx : smB x = true
  case neg =>
    have HX : Hid (smB x = false) := by show _ = _; simpa using hx
    have HR := Lib.hid (pa_none (W := W) (H := H) (cs := cs) (W' := W') (H' := H') (ds := ds) (x := x) (y := y) (fun h => hx h.2.2.1))
    clear hx
    generalize paR W H cs W' H' ds x y = R at HR ⊢
    go_enter Try.func42, Try.ntmps42
    go_wp2_with fail
    refine (gridOk_spec W H _ _ cs _ (ha.below hb0) h1).mono ?_
    rintro e w1 ⟨he, hb1⟩
    rw [HG.out] at he
    subst he
    obtain ⟨B1, q1, r1, z1⟩ := keep_blk hb1 (g := w.heap.size) (by repeat (first | assumption | exact heap_alloc_at _ (by first | rfl | (simp; done) | omega) | refine heap_alloc_of _ ?_ | refine heap_setCell_of _ (by first | omega | (simp; done) | (simp; omega)) ?_ | refine heap_setCell_same _ ?_ | exact heap_at1_same (by first | omega | (simp; done) | (simp; omega)) | refine heap_at1_of (by first | omega | (simp; done) | (simp; omega)) ?_))
    obtain ⟨C1, qq1, rr1, zz1⟩ := keep_blk hb1 (g := w.heap.size + 1) (by repeat (first | assumption | exact heap_alloc_at _ (by first | rfl | (simp; done) | omega) | refine heap_alloc_of _ ?_ | refine heap_setCell_of _ (by first | omega | (simp; done) | (simp; omega)) ?_ | refine heap_setCell_same _ ?_ | exact heap_at1_same (by first | omega | (simp; done) | (simp; omega)) | refine heap_at1_of (by first | omega | (simp; done) | (simp; omega)) ?_))
    obtain ⟨D1, qd1, rd1, zd1⟩ := keep_blk hb1 (g := w.heap.size + 1 + 1) (by repeat (first | assumption | exact heap_alloc_at _ (by first | rfl | (simp; done) | omega) | refine heap_alloc_of _ ?_ | refine heap_setCell_of _ (by first | omega | (simp; done) | (simp; omega)) ?_ | refine heap_setCell_same _ ?_ | exact heap_at1_same (by first | omega | (simp; done) | (simp; omega)) | refine heap_at1_of (by first | omega | (simp; done) | (simp; omega)) ?_))
    have t1 := hb0.trans (hb1.mono hb0.size)
    go_wp2_with fail
    refine (gridOk_spec W' H' _ _ ds _ (ha'.below t1) h2).mono ?_
    rintro e w2 ⟨he, hb2⟩
    rw [HC.out] at he
    subst he
    obtain ⟨B2, q2, r2, z2⟩ := keep_blk hb2 B1
    obtain ⟨C2, qq2, rr2, zz2⟩ := keep_blk hb2 C1
    obtain ⟨D2, qd2, rd2, zd2⟩ := keep_blk hb2 D1
    clear B1 q1 r1 C1 qq1 rr1 D1 qd1 rd1
    have t2 := t1.trans (hb2.mono t1.size)
    go_wp2_with fail
    refine (l07Small_any x _).mono ?_
    rintro e w' ⟨he, rfl⟩
    replace he : e = .returned (.bool (smB x)) := he
    rw [HX.out] at he
    subst he
    go_wp2_with fail
    exact bodyPost_ret (v := .agg #[.int .i64 0, .int .i64 0, .slice none 0 0]) (by simp [results, Try.results42, go_sem, *]) rfl (gp_nil (((t2.setCell (by first | omega | (simp; done) | (simp; omega)) _).setCell (by first | omega | (simp; done) | (simp; omega)) _).setCell (by first | omega | (simp; done) | (simp; omega)) _) R HR.out)
  have HX := Lib.hid hx
  by_cases hy : smB y = true
  case neg =>
    have HY : Hid (smB y = false) := by show _ = _; simpa using hy
    have HR := Lib.hid (pa_none (W := W) (H := H) (cs := cs) (W' := W') (H' := H') (ds := ds) (x := x) (y := y) (fun h => hy h.2.2.2))
    clear hy
    generalize paR W H cs W' H' ds x y = R at HR ⊢
    go_enter Try.func42, Try.ntmps42
    go_wp2_with fail
    refine (gridOk_spec W H _ _ cs _ (ha.below hb0) h1).mono ?_
    rintro e w1 ⟨he, hb1⟩
    rw [HG.out] at he
    subst he
    obtain ⟨B1, q1, r1, z1⟩ := keep_blk hb1 (g := w.heap.size) (by repeat (first | assumption | exact heap_alloc_at _ (by first | rfl | (simp; done) | omega) | refine heap_alloc_of _ ?_ | refine heap_setCell_of _ (by first | omega | (simp; done) | (simp; omega)) ?_ | refine heap_setCell_same _ ?_ | exact heap_at1_same (by first | omega | (simp; done) | (simp; omega)) | refine heap_at1_of (by first | omega | (simp; done) | (simp; omega)) ?_))
    obtain ⟨C1, qq1, rr1, zz1⟩ := keep_blk hb1 (g := w.heap.size + 1) (by repeat (first | assumption | exact heap_alloc_at _ (by first | rfl | (simp; done) | omega) | refine heap_alloc_of _ ?_ | refine heap_setCell_of _ (by first | omega | (simp; done) | (simp; omega)) ?_ | refine heap_setCell_same _ ?_ | exact heap_at1_same (by first | omega | (simp; done) | (simp; omega)) | refine heap_at1_of (by first | omega | (simp; done) | (simp; omega)) ?_))
    obtain ⟨D1, qd1, rd1, zd1⟩ := keep_blk hb1 (g := w.heap.size + 1 + 1) (by repeat (first | assumption | exact heap_alloc_at _ (by first | rfl | (simp; done) | omega) | refine heap_alloc_of _ ?_ | refine heap_setCell_of _ (by first | omega | (simp; done) | (simp; omega)) ?_ | refine heap_setCell_same _ ?_ | exact heap_at1_same (by first | omega | (simp; done) | (simp; omega)) | refine heap_at1_of (by first | omega | (simp; done) | (simp; omega)) ?_))
    have t1 := hb0.trans (hb1.mono hb0.size)
    go_wp2_with fail
    refine (gridOk_spec W' H' _ _ ds _ (ha'.below t1) h2).mono ?_
    rintro e w2 ⟨he, hb2⟩
    rw [HC.out] at he
    subst he
    obtain ⟨B2, q2, r2, z2⟩ := keep_blk hb2 B1
    obtain ⟨C2, qq2, rr2, zz2⟩ := keep_blk hb2 C1
    obtain ⟨D2, qd2, rd2, zd2⟩ := keep_blk hb2 D1
    clear B1 q1 r1 C1 qq1 rr1 D1 qd1 rd1
    have t2 := t1.trans (hb2.mono t1.size)
    go_wp2_with fail
    refine (l07Small_any x _).mono ?_
    rintro e w' ⟨he, rfl⟩
    replace he : e = .returned (.bool (smB x)) := he
    rw [HX.out] at he
    subst he
    go_wp2_with fail
    refine (l07Small_any y _).mono ?_
    rintro e w' ⟨he, rfl⟩
    replace he : e = .returned (.bool (smB y)) := he
    rw [HY.out] at he
    subst he
    go_wp2_with fail
    exact bodyPost_ret (v := .agg #[.int .i64 0, .int .i64 0, .slice none 0 0]) (by simp [results, Try.results42, go_sem, *]) rfl (gp_nil (((t2.setCell (by first | omega | (simp; done) | (simp; omega)) _).setCell (by first | omega | (simp; done) | (simp; omega)) _).setCell (by first | omega | (simp; done) | (simp; omega)) _) R HR.out)
  have HY := Lib.hid hy
  obtain ⟨a, rfl⟩ := Int.eq_ofNat_of_zero_le (show 0 ≤ W by omega)
  obtain ⟨bb, rfl⟩ := Int.eq_ofNat_of_zero_le (show 0 ≤ H by omega)
  obtain ⟨a', rfl⟩ := Int.eq_ofNat_of_zero_le (show 0 ≤ W' by omega)
  obtain ⟨bb', rfl⟩ := Int.eq_ofNat_of_zero_le (show 0 ≤ H' by omega)
  have hsm : ∀ n : Int, smB n = true → -100000 ≤ n ∧ n ≤ 100000 := fun n h => by simpa [smB, withinB] using h
  obtain ⟨x1, x2⟩ := hsm _ hx
  obtain ⟨y1, y2⟩ := hsm _ hy
  have hlN : cs.length = bb * a := by
    have h : ((bb * a : Nat) : Int) = (a : Int) * bb := by rw [Int.mul_comm]; simp
    omega
  have hlN' : ds.length = bb' * a' := by
    have h : ((bb' * a' : Nat) : Int) = (a' : Int) * bb' := by rw [Int.mul_comm]; simp
    omega
  have hcl : cs.length ≤ 4000 := by omega
  have hcl' : ds.length ≤ 4000 := by omega
  have ha1 : 1 ≤ a := by omega
  have hbb1 : 1 ≤ bb := by omega
  have ha1' : 1 ≤ a' := by omega
  have hbb1' : 1 ≤ bb' := by omega
  have hcl0 : 0 < cs.length := by
    have := (row_bd (a := a) (b := bb) (k := 0) (j := 0) (by omega) (by omega)).1
    omega
  have HL := Lib.hid hlN
  have HL' := Lib.hid hlN'
  clear hsm hx hy hl hlN s5 hl' hlN' s5'
  have HR : Hid (paR a bb cs a' bb' ds x y = ((a : Int), (bb : Int), paL cs ds a bb x y a' ds.length)) := by
    show _ = _
    rw [paR, if_pos ⟨HG.out, HC.out, HX.out, HY.out⟩]
    rfl
  rw [HR.out]
  clear HR
  show Calls _ _ _ _ (GridPost w (a : Int) (bb : Int) (paL cs ds a bb x y a' ds.length))
  go_enter Try.func42, Try.ntmps42
  go_wp2_with fail
  refine (gridOk_spec a bb _ _ cs _ (ha.below hb0) h1).mono ?_
  rintro e w1 ⟨he, hb1⟩
  rw [HG.out] at he
  subst he
  obtain ⟨B1, q1, r1, z1⟩ := keep_blk hb1 (g := w.heap.size) (by repeat (first | assumption | exact heap_alloc_at _ (by first | rfl | (simp; done) | omega) | refine heap_alloc_of _ ?_ | refine heap_setCell_of _ (by first | omega | (simp; done) | (simp; omega)) ?_ | refine heap_setCell_same _ ?_ | exact heap_at1_same (by first | omega | (simp; done) | (simp; omega)) | refine heap_at1_of (by first | omega | (simp; done) | (simp; omega)) ?_))
  obtain ⟨C1, qq1, rr1, zz1⟩ := keep_blk hb1 (g := w.heap.size + 1) (by repeat (first | assumption | exact heap_alloc_at _ (by first | rfl | (simp; done) | omega) | refine heap_alloc_of _ ?_ | refine heap_setCell_of _ (by first | omega | (simp; done) | (simp; omega)) ?_ | refine heap_setCell_same _ ?_ | exact heap_at1_same (by first | omega | (simp; done) | (simp; omega)) | refine heap_at1_of (by first | omega | (simp; done) | (simp; omega)) ?_))
  obtain ⟨D1, qd1, rd1, zd1⟩ := keep_blk hb1 (g := w.heap.size + 1 + 1) (by repeat (first | assumption | exact heap_alloc_at _ (by first | rfl | (simp; done) | omega) | refine heap_alloc_of _ ?_ | refine heap_setCell_of _ (by first | omega | (simp; done) | (simp; omega)) ?_ | refine heap_setCell_same _ ?_ | exact heap_at1_same (by first | omega | (simp; done) | (simp; omega)) | refine heap_at1_of (by first | omega | (simp; done) | (simp; omega)) ?_))
  have t1 := hb0.trans (hb1.mono hb0.size)
  go_wp2_with fail
  refine (gridOk_spec a' bb' _ _ ds _ (ha'.below t1) h2).mono ?_
  rintro e w2 ⟨he, hb2⟩
  rw [HC.out] at he
  subst he
  obtain ⟨B2, q2, r2, z2⟩ := keep_blk hb2 B1
  obtain ⟨C2, qq2, rr2, zz2⟩ := keep_blk hb2 C1
  obtain ⟨D2, qd2, rd2, zd2⟩ := keep_blk hb2 D1
  clear B1 q1 r1 C1 qq1 rr1 D1 qd1 rd1
  have t2 := t1.trans (hb2.mono t1.size)
  go_wp2_with fail
  refine (l07Small_any x _).mono ?_
  rintro e w' ⟨he, rfl⟩
  replace he : e = .returned (.bool (smB x)) := he
  rw [HX.out] at he
  subst he
  go_wp2_with fail
  refine (l07Small_any y _).mono ?_
  rintro e w' ⟨he, rfl⟩
  replace he : e = .returned (.bool (smB y)) := he
  rw [HY.out] at he
  subst he
  go_wp2_with fail
  refine (l07Copy_any a bb _ _ cs _ (ha.below t2) hcl0 h1).mono ?_
  rintro e w3 ⟨A3, c3, rfl, ho3, hs3, hi3, hb3⟩
  obtain ⟨B3, q3, r3, z3⟩ := keep_blk hb3 B2
  obtain ⟨C3, qq3, rr3, zz3⟩ := keep_blk hb3 C2
  obtain ⟨D3, qd3, rd3, zd3⟩ := keep_blk hb3 D2
  clear B2 q2 r2 C2 qq2 rr2 D2 qd2 rd2 hs3 hi3
  have t3 := t2.trans (hb3.mono t2.size)
  obtain ⟨g, rfl, hlo, hcm, hxc, _⟩ := ho3.fill hcl0
  have hgl := (ho3.lt g rfl).2
  go_wp2_with fail
  obtain ⟨w4, hw4⟩ : ∃ w4, w4 = w3.alloc (.cells #[.int .i64 a, .int .i64 bb, .slice (some ⟨g, 0, none⟩) cs.length c3] 33) := ⟨_, rfl⟩
  rw [← hw4]
  have HB4 : Hid (w4.heap[w.heap.size]? = (some (.cells #[.int .i64 a, .int .i64 bb, .slice A cs.length c] 33 (0, 0)))) := by subst hw4; exact heap_alloc_of _ B3
  have HC4 : Hid (w4.heap[w.heap.size + 1]? = (some (.cells #[.int .i64 a', .int .i64 bb', .slice A' ds.length c'] 33 (0, 0)))) := by subst hw4; exact heap_alloc_of _ C3
  have HD4 : Hid (w4.heap[w.heap.size + 1 + 1]? = (some (.cells #[.int .i64 0, .int .i64 0, .slice none 0 0] 33 (0, 0)))) := by subst hw4; exact heap_alloc_of _ D3
  have HO4 : Hid (w4.heap[w3.heap.size]? = (some (.cells #[.int .i64 a, .int .i64 bb, .slice (some ⟨g, 0, none⟩) cs.length c3] 33 (0, 0)))) := by subst hw4; exact heap_alloc_new _ _
  have ho4 : Og w4 w2.heap.size (some ⟨g, 0, none⟩) c3 cs := by subst hw4; exact ho3.alloc _
  have t4 : Below w.heap.size w w4 := by subst hw4; exact t3.alloc t3.size _
  have hsz : w3.heap.size < w4.heap.size := by subst hw4; simp
  have hgB : ¬ w.heap.size = g := by omega
  have hgC : ¬ w.heap.size + 1 = g := by omega
  have hgD : ¬ w.heap.size + 1 + 1 = g := by omega
  have hgO : ¬ w3.heap.size = g := by omega
  clear hw4 B3 C3 D3 q3 r3 qq3 rr3 qd3 rd3 hb0 hb1 hb2 hb3
  go_loopw [38] (fun i wr => ∃ k : Nat, k ≤ ds.length ∧ i = .int .i64 k ∧ Og wr w2.heap.size (some ⟨g, 0, none⟩) c3 (paL cs ds a bb x y a' k) ∧ Hid (wr.heap[w.heap.size]? = (some (.cells #[.int .i64 a, .int .i64 bb, .slice A cs.length c] 33 (0, 0)))) ∧ Hid (wr.heap[w.heap.size + 1]? = (some (.cells #[.int .i64 a', .int .i64 bb', .slice A' ds.length c'] 33 (0, 0)))) ∧ Hid (wr.heap[w.heap.size + 1 + 1]? = (some (.cells #[.int .i64 0, .int .i64 0, .slice none 0 0] 33 (0, 0)))) ∧ Hid (wr.heap[w3.heap.size]? = (some (.cells #[.int .i64 a, .int .i64 bb, .slice (some ⟨g, 0, none⟩) cs.length c3] 33 (0, 0)))) ∧ Below w.heap.size w wr ∧ w4.heap.size ≤ wr.heap.size) (fun i _ => ds.length - (intOf i).toNat)
  case atStart => exact ⟨0, Nat.zero_le _, rfl, ho4, HB4, HC4, HD4, HO4, t4, Nat.le_refl _⟩
  case round =>
    clear ho4 HB4 HC4 HD4 HO4
    obtain ⟨k, hk, rfl, ho, hB, hC, hD, hO, hb, hs⟩ := hrel
    by_cases hlt : k < ds.length
    · obtain ⟨b0, o0, hA', hbs, d0, d1, d2, d3, d4, d5⟩ := (ha'.below hb).get hlt
      have HC2 := hC
      rw [hA'] at HC2
      have CK := Lib.hid (fun (w'' : World) (h : Below wr.heap.size wr w'') => hA')
      obtain ⟨col, hcol⟩ : ∃ col, Hid (col = k % a') := ⟨_, rfl⟩
      obtain ⟨ro, hro⟩ : ∃ ro, Hid (ro = k / a') := ⟨_, rfl⟩
      have em : Int.tmod (k : Int) (a' : Int) = (col : Int) := by rw [hcol.out]; exact (Int.ofNat_tmod _ _).symm
      have ed : Int.tdiv (k : Int) (a' : Int) = (ro : Int) := by rw [hro.out]; exact (Int.ofNat_tdiv _ _).symm
      have em2 : (k : Int) % (a' : Int) = (col : Int) := by rw [hcol.out]; simp
      have ed2 : (k : Int) / (a' : Int) = (ro : Int) := by rw [hro.out]; simp
      have hcb : col < a' := by rw [hcol.out]; exact Nat.mod_lt _ (by omega)
      have hrb : ro ≤ k := by rw [hro.out]; exact Nat.div_le_self _ _
      have hlt' : (k : Int) < ds.length := by omega
      have qc0 : ∀ i, wr.cell? ⟨w.heap.size + 1, i, none⟩ = _ := fun i => cell_of_row wr _ i _ _ (0, 0) HC2.out
      have qbA : ∀ i, (wr.alloc (.cells #[.int .i64 ds[k].1, .int .i64 ds[k].2.1, .int .i64 ds[k].2.2.1, .bool ds[k].2.2.2.1, .bool ds[k].2.2.2.2.1, .bool ds[k].2.2.2.2.2] 29)).cell? ⟨w.heap.size, i, none⟩ = _ := fun i => cell_of_row _ _ i _ _ (0, 0) (heap_alloc_of _ hB.out)
      have qcA : ∀ i, (wr.alloc (.cells #[.int .i64 ds[k].1, .int .i64 ds[k].2.1, .int .i64 ds[k].2.2.1, .bool ds[k].2.2.2.1, .bool ds[k].2.2.2.2.1, .bool ds[k].2.2.2.2.2] 29)).cell? ⟨w.heap.size + 1, i, none⟩ = _ := fun i => cell_of_row _ _ i _ _ (0, 0) (heap_alloc_of _ HC2.out)
      have qoA : ∀ i, (wr.alloc (.cells #[.int .i64 ds[k].1, .int .i64 ds[k].2.1, .int .i64 ds[k].2.2.1, .bool ds[k].2.2.2.1, .bool ds[k].2.2.2.2.1, .bool ds[k].2.2.2.2.2] 29)).cell? ⟨w3.heap.size, i, none⟩ = _ := fun i => cell_of_row _ _ i _ _ (0, 0) (heap_alloc_of _ hO.out)
      have zB : w.heap.size + 1 + 1 < wr.heap.size := (Array.getElem?_eq_some_iff.1 hD.out).1
      have zO : w3.heap.size < wr.heap.size := (Array.getElem?_eq_some_iff.1 hO.out).1
      by_cases hin : (0 ≤ x + (col : Int) ∧ x + (col : Int) < a) ∧ 0 ≤ y + (ro : Int) ∧ y + (ro : Int) < bb
      · obtain ⟨⟨i1, i2⟩, i3, i4⟩ := hin
        obtain ⟨cx, hcx⟩ := Int.eq_ofNat_of_zero_le i1
        obtain ⟨cy, hcy⟩ := Int.eq_ofNat_of_zero_le i3
        rw [hcx] at i2
        rw [hcy] at i4
        have j2 : cx < a := by omega
        have j4 : cy < bb := by omega
        obtain ⟨p, hp⟩ : ∃ p, Hid (p = cy * a) := ⟨_, rfl⟩
        obtain ⟨i, hi⟩ : ∃ i, Hid (i = p + cx) := ⟨_, rfl⟩
        have hic : i < cs.length := by rw [HL.out, hi.out, hp.out]; exact (row_bd j4 j2).1
        have hpc : p ≤ 1048576 := by have := hi.out; omega
        have hic4 : i ≤ 1048576 := by omega
        have HF := Lib.hid (pa_set (cs := cs) (ds := ds) (H := bb) (x := x) (y := y) (a := a') (j := k) (A := a) (i := i) (p := p) (cx := cx) (cy := cy) hlt (by rw [← hcol.out]; exact hcx) (by rw [← hro.out]; exact hcy) i2 i4 hp.out hi.out)
        have HE1 := Lib.hid (add_ik hcx (by omega))
        have HE2 := Lib.hid (add_ik hcy (by omega))
        have HE3 := Lib.hid (mul_natk hp.out hpc)
        have HE4 := Lib.hid (mul_nat hp.out hpc)
        have HE5 := Lib.hid (add_natk hi.out hic4)
        have hkl : i < (paL cs ds a bb x y a' k).length := by rw [paL_len]; exact hic
        have hic' : (i : Int) < cs.length := by omega
        have oA := ho.alloc (.cells #[.int .i64 ds[k].1, .int .i64 ds[k].2.1, .int .i64 ds[k].2.2.1, .bool ds[k].2.2.2.1, .bool ds[k].2.2.2.2.1, .bool ds[k].2.2.2.2.2] 29)
        obtain ⟨⟨u0, x0⟩, ⟨u1, x1'⟩, ⟨u2, x2'⟩, ⟨u3, x3⟩, ⟨u4, x4⟩, ⟨u5, x5⟩, f0, f1, f2, f3, f4, f5⟩ := oA.getB (k := i) hkl
        have p1 : (0 : Int) ≤ (cx : Int) := by omega
        have p2 : (0 : Int) ≤ (cy : Int) := by omega
        obtain ⟨eik, eiw⟩ := small_k (n := (i : Int)) (by omega) (by omega)
        obtain ⟨e1k, e1⟩ := HE1.out
        obtain ⟨e2k, e2⟩ := HE2.out
        obtain ⟨e5k, e5, e5p⟩ := HE5.out
        have e3 := HE3.out
        have e4 := HE4.out
        clear hcx hcy
        go_wp2_with fail
        have ho6 := oA.set (k := i) hkl ds[k]
        rw [HF.out] at ho6
        clear e1k e1 e2k e2 e5k e5 e5p e3 e4 eik eiw
        go_roundw
        case rel => exact ⟨k + 1, by omega, by go_num, ho6, Lib.hid (heap_six (heap_alloc_of _ hB.out) (by omega) _ _ _ _ _ _), Lib.hid (heap_six (heap_alloc_of _ hC.out) (by omega) _ _ _ _ _ _), Lib.hid (heap_six (heap_alloc_of _ hD.out) (by omega) _ _ _ _ _ _), Lib.hid (heap_six (heap_alloc_of _ hO.out) (by omega) _ _ _ _ _ _), below_six (hb.alloc hb.size _) (by omega) _ _ _ _ _ _, by simp; omega⟩
        case measure => simp [intOf]; omega
      · have HF := Lib.hid (pa_skip (cs := cs) (ds := ds) (W := a) (H := bb) (x := x) (y := y) (a := a') (j := k) (by rw [← hcol.out, ← hro.out]; exact hin))
        have ho6 := ho
        rw [HF.out] at ho6
        clear ho
        have skip : ∀ {p : Prop}, p → p := fun h => h
        by_cases c1 : 0 ≤ x + (col : Int)
        case neg =>
          clear hin skip
          go_wp2_with fail
          go_roundw
          case rel => exact ⟨k + 1, by omega, by go_num, ho6.alloc _, Lib.hid (heap_alloc_of _ hB.out), Lib.hid (heap_alloc_of _ hC.out), Lib.hid (heap_alloc_of _ hD.out), Lib.hid (heap_alloc_of _ hO.out), hb.alloc hb.size _, by simp; omega⟩
          case measure => simp [intOf]; omega

        by_cases c2 : x + (col : Int) < a
        case neg =>
          clear hin skip
          go_wp2_with fail
          go_roundw
          case rel => exact ⟨k + 1, by omega, by go_num, ho6.alloc _, Lib.hid (heap_alloc_of _ hB.out), Lib.hid (heap_alloc_of _ hC.out), Lib.hid (heap_alloc_of _ hD.out), Lib.hid (heap_alloc_of _ hO.out), hb.alloc hb.size _, by simp; omega⟩
          case measure => simp [intOf]; omega

        by_cases c3' : 0 ≤ y + (ro : Int)
        case neg =>
          clear hin skip
          go_wp2_with fail
          go_roundw
          case rel => exact ⟨k + 1, by omega, by go_num, ho6.alloc _, Lib.hid (heap_alloc_of _ hB.out), Lib.hid (heap_alloc_of _ hC.out), Lib.hid (heap_alloc_of _ hD.out), Lib.hid (heap_alloc_of _ hO.out), hb.alloc hb.size _, by simp; omega⟩
          case measure => simp [intOf]; omega

        have c4 : ¬ y + (ro : Int) < bb := fun h => hin ⟨⟨c1, c2⟩, c3', h⟩
        clear hin skip
        go_wp2_with fail
        go_roundw
        case rel => exact ⟨k + 1, by omega, by go_num, ho6.alloc _, Lib.hid (heap_alloc_of _ hB.out), Lib.hid (heap_alloc_of _ hC.out), Lib.hid (heap_alloc_of _ hD.out), Lib.hid (heap_alloc_of _ hO.out), hb.alloc hb.size _, by simp; omega⟩
        case measure => simp [intOf]; omega

    · have hkk : k = ds.length := by omega
      have ho' : Og wr w2.heap.size (some ⟨g, 0, none⟩) c3 (paL cs ds a bb x y a' ds.length) := by rw [hkk] at ho; exact ho
      have hlt' : ¬ (k : Int) < ds.length := by omega
      clear hkk ho
      have zr := (Array.getElem?_eq_some_iff.1 hD.out).1
      have qd0 : ∀ i, wr.cell? ⟨w.heap.size + 1 + 1, i, none⟩ = _ := fun i => cell_of_row wr _ i _ _ (0, 0) hD.out
      have rd0 : ∀ i, wr.frozen? ⟨w.heap.size + 1 + 1, i, none⟩ = false := fun i => by simp [World.frozen?, hD.out]
      have qo0 : ∀ i, wr.cell? ⟨w3.heap.size, i, none⟩ = _ := fun i => cell_of_row wr _ i _ _ (0, 0) hO.out
      go_wp2_with fail
      refine bodyPost_ret (v := gV a bb (some ⟨g, 0, none⟩) cs.length c3) (by simp [results, Try.results42, go_sem, *]) rfl ?_
      have hL : (paL cs ds a bb x y a' ds.length).length = cs.length := paL_len
      have ho2 := (((ho'.setCell (p := ⟨w.heap.size + 1 + 1, 0, none⟩) (by first | omega | (simp; done) | (simp; omega)) (.int .i64 a)).setCell (p := ⟨w.heap.size + 1 + 1, 1, none⟩) (by first | omega | (simp; done) | (simp; omega)) (.int .i64 bb)).setCell (p := ⟨w.heap.size + 1 + 1, 2, none⟩) (by first | omega | (simp; done) | (simp; omega)) (.slice (some ⟨g, 0, none⟩) cs.length c3))
      exact ⟨_, c3, by rw [hL], ho2.mono (by omega), ho2.gs, (ho2.mono (by omega)).inB, ((hb.setCell (by first | omega | (simp; done) | (simp; omega)) _).setCell (by first | omega | (simp; done) | (simp; omega)) _).setCell (by first | omega | (simp; done) | (simp; omega)) _⟩
end Go.Proofs.Ytdmhmelmoobekaa
