/- A grid laid over another: the program's way. -/
import Derived.Test.YtnilgcahggmncaaPa3
import Derived.Test.YtnilgcahggmncaaGw
import Derived.Test.YtnilgcahggmncaaGw
namespace Go.Proofs.Ytnilgcahggmncaa
open Go.RowKit
set_option linter.unusedVariables false
set_option maxRecDepth 100000

set_option maxHeartbeats 8000000 in
theorem gridPaste_impl (W H : Int) (A : Option Addr) (c : Nat) (cs : List Cl) (W' H' : Int) (A' : Option Addr) (c' : Nat) (ds : List Cl) (x y : Int) (w : World) (ha : Gs w A cs) (ha' : Gs w A' ds) (hc : cs.length ≤ c) (hc' : ds.length ≤ c') (h1 : cs.length ≤ 1048576) (h2 : ds.length ≤ 1048576) :
    Calls Try.prog 25 #[gV W H A cs.length c, gV W' H' A' ds.length c', .int .i64 x, .int .i64 y] w (GridPost w (paR W H cs W' H' ds x y).1 (paR W H cs W' H' ds x y).2.1 (paR W H cs W' H' ds x y).2.2) := by
  have hb0 : Below w.heap.size w (((w.alloc (.cells #[.int .i64 W, .int .i64 H, .slice A cs.length c] 29)).alloc (.cells #[.int .i64 W', .int .i64 H', .slice A' ds.length c'] 29)).alloc (.cells #[.int .i64 0, .int .i64 0, .slice none 0 0] 29)) := by (repeat (first | exact Below.refl _ _ | (refine Below.alloc ?_ (by first | omega | (simp; done) | (simp; omega)) _) | (refine Below.drew ?_) | (refine below_drewN ?_ _) | (refine below_at1 ?_ (by first | omega | (simp; done) | (simp; omega))) | (refine Below.setCell ?_ (by first | omega | (simp; done) | (simp; omega)) _) | (refine Below.trans ?_ (Below.mono (by assumption) (by first | omega | (simp; done) | (simp; omega))))))
  by_cases hg : gridB W H cs = true
  case neg =>
    have HG : Hid (gridB W H cs = false) := by show _ = _; simpa using hg
    have HR := Lib.hid (pa_none (W := W) (H := H) (cs := cs) (W' := W') (H' := H') (ds := ds) (x := x) (y := y) (fun h => hg h.1))
    clear hg
    generalize paR W H cs W' H' ds x y = R at HR ⊢
    go_enter Try.func25, Try.ntmps25
    go_wp2_with fail
    refine (gridOk_impl W H _ _ cs _ (ha.below hb0) h1).mono ?_
    rintro e w1 ⟨he, hb1⟩
    rw [HG.out] at he
    subst he
    obtain ⟨B1, q1, r1, z1⟩ := keep_blk hb1 (g := w.heap.size) (by repeat (first | assumption | exact heap_alloc_at _ (by first | rfl | (simp; done) | omega) | refine heap_alloc_of _ ?_ | refine heap_setCell_of _ (by first | omega | (simp; done) | (simp; omega)) ?_ | refine heap_setCell_same _ ?_ | exact heap_at1_same (by first | omega | (simp; done) | (simp; omega)) | refine heap_at1_of (by first | omega | (simp; done) | (simp; omega)) ?_))
    obtain ⟨C1, qq1, rr1, zz1⟩ := keep_blk hb1 (g := w.heap.size + 1) (by repeat (first | assumption | exact heap_alloc_at _ (by first | rfl | (simp; done) | omega) | refine heap_alloc_of _ ?_ | refine heap_setCell_of _ (by first | omega | (simp; done) | (simp; omega)) ?_ | refine heap_setCell_same _ ?_ | exact heap_at1_same (by first | omega | (simp; done) | (simp; omega)) | refine heap_at1_of (by first | omega | (simp; done) | (simp; omega)) ?_))
    obtain ⟨D1, qd1, rd1, zd1⟩ := keep_blk hb1 (g := w.heap.size + 1 + 1) (by repeat (first | assumption | exact heap_alloc_at _ (by first | rfl | (simp; done) | omega) | refine heap_alloc_of _ ?_ | refine heap_setCell_of _ (by first | omega | (simp; done) | (simp; omega)) ?_ | refine heap_setCell_same _ ?_ | exact heap_at1_same (by first | omega | (simp; done) | (simp; omega)) | refine heap_at1_of (by first | omega | (simp; done) | (simp; omega)) ?_))
    have t1 := hb0.trans (hb1.mono hb0.size)
    go_wp2_with fail
    exact bodyPost_ret (v := .agg #[.int .i64 0, .int .i64 0, .slice none 0 0]) (by simp [results, Try.results25, go_sem, *]) rfl (gp_nil (((t1.setCell (by first | omega | (simp; done) | (simp; omega)) _).setCell (by first | omega | (simp; done) | (simp; omega)) _).setCell (by first | omega | (simp; done) | (simp; omega)) _) R HR.out)
  obtain ⟨⟨s1, s2⟩, ⟨s3, s4⟩, s5, hl⟩ := grid_len hg
  have HG := Lib.hid hg
  clear hg
  by_cases hc_ : gridB W' H' ds = true
  case neg =>
    have HC : Hid (gridB W' H' ds = false) := by show _ = _; simpa using hc_
    have HR := Lib.hid (pa_none (W := W) (H := H) (cs := cs) (W' := W') (H' := H') (ds := ds) (x := x) (y := y) (fun h => hc_ h.2.1))
    clear hc_
    generalize paR W H cs W' H' ds x y = R at HR ⊢
    go_enter Try.func25, Try.ntmps25
    go_wp2_with fail
    refine (gridOk_impl W H _ _ cs _ (ha.below hb0) h1).mono ?_
    rintro e w1 ⟨he, hb1⟩
    rw [HG.out] at he
    subst he
    obtain ⟨B1, q1, r1, z1⟩ := keep_blk hb1 (g := w.heap.size) (by repeat (first | assumption | exact heap_alloc_at _ (by first | rfl | (simp; done) | omega) | refine heap_alloc_of _ ?_ | refine heap_setCell_of _ (by first | omega | (simp; done) | (simp; omega)) ?_ | refine heap_setCell_same _ ?_ | exact heap_at1_same (by first | omega | (simp; done) | (simp; omega)) | refine heap_at1_of (by first | omega | (simp; done) | (simp; omega)) ?_))
    obtain ⟨C1, qq1, rr1, zz1⟩ := keep_blk hb1 (g := w.heap.size + 1) (by repeat (first | assumption | exact heap_alloc_at _ (by first | rfl | (simp; done) | omega) | refine heap_alloc_of _ ?_ | refine heap_setCell_of _ (by first | omega | (simp; done) | (simp; omega)) ?_ | refine heap_setCell_same _ ?_ | exact heap_at1_same (by first | omega | (simp; done) | (simp; omega)) | refine heap_at1_of (by first | omega | (simp; done) | (simp; omega)) ?_))
    obtain ⟨D1, qd1, rd1, zd1⟩ := keep_blk hb1 (g := w.heap.size + 1 + 1) (by repeat (first | assumption | exact heap_alloc_at _ (by first | rfl | (simp; done) | omega) | refine heap_alloc_of _ ?_ | refine heap_setCell_of _ (by first | omega | (simp; done) | (simp; omega)) ?_ | refine heap_setCell_same _ ?_ | exact heap_at1_same (by first | omega | (simp; done) | (simp; omega)) | refine heap_at1_of (by first | omega | (simp; done) | (simp; omega)) ?_))
    have t1 := hb0.trans (hb1.mono hb0.size)
    go_wp2_with fail
    refine (gridOk_impl W' H' _ _ ds _ (ha'.below t1) h2).mono ?_
    rintro e w2 ⟨he, hb2⟩
    rw [HC.out] at he
    subst he
    obtain ⟨B2, q2, r2, z2⟩ := keep_blk hb2 B1
    obtain ⟨C2, qq2, rr2, zz2⟩ := keep_blk hb2 C1
    obtain ⟨D2, qd2, rd2, zd2⟩ := keep_blk hb2 D1
    clear B1 q1 r1 C1 qq1 rr1 D1 qd1 rd1
    have t2 := t1.trans (hb2.mono t1.size)
    go_wp2_with fail
    exact bodyPost_ret (v := .agg #[.int .i64 0, .int .i64 0, .slice none 0 0]) (by simp [results, Try.results25, go_sem, *]) rfl (gp_nil (((t2.setCell (by first | omega | (simp; done) | (simp; omega)) _).setCell (by first | omega | (simp; done) | (simp; omega)) _).setCell (by first | omega | (simp; done) | (simp; omega)) _) R HR.out)
  obtain ⟨⟨s1', s2'⟩, ⟨s3', s4'⟩, s5', hl'⟩ := grid_len hc_
  have HC := Lib.hid hc_
  clear hc_
  by_cases hx : smB x = true
  case neg =>
    have HX : Hid (smB x = false) := by show _ = _; simpa using hx
    have HR := Lib.hid (pa_none (W := W) (H := H) (cs := cs) (W' := W') (H' := H') (ds := ds) (x := x) (y := y) (fun h => hx h.2.2.1))
    clear hx
    generalize paR W H cs W' H' ds x y = R at HR ⊢
    go_enter Try.func25, Try.ntmps25
    go_wp2_with fail
    refine (gridOk_impl W H _ _ cs _ (ha.below hb0) h1).mono ?_
    rintro e w1 ⟨he, hb1⟩
    rw [HG.out] at he
    subst he
    obtain ⟨B1, q1, r1, z1⟩ := keep_blk hb1 (g := w.heap.size) (by repeat (first | assumption | exact heap_alloc_at _ (by first | rfl | (simp; done) | omega) | refine heap_alloc_of _ ?_ | refine heap_setCell_of _ (by first | omega | (simp; done) | (simp; omega)) ?_ | refine heap_setCell_same _ ?_ | exact heap_at1_same (by first | omega | (simp; done) | (simp; omega)) | refine heap_at1_of (by first | omega | (simp; done) | (simp; omega)) ?_))
    obtain ⟨C1, qq1, rr1, zz1⟩ := keep_blk hb1 (g := w.heap.size + 1) (by repeat (first | assumption | exact heap_alloc_at _ (by first | rfl | (simp; done) | omega) | refine heap_alloc_of _ ?_ | refine heap_setCell_of _ (by first | omega | (simp; done) | (simp; omega)) ?_ | refine heap_setCell_same _ ?_ | exact heap_at1_same (by first | omega | (simp; done) | (simp; omega)) | refine heap_at1_of (by first | omega | (simp; done) | (simp; omega)) ?_))
    obtain ⟨D1, qd1, rd1, zd1⟩ := keep_blk hb1 (g := w.heap.size + 1 + 1) (by repeat (first | assumption | exact heap_alloc_at _ (by first | rfl | (simp; done) | omega) | refine heap_alloc_of _ ?_ | refine heap_setCell_of _ (by first | omega | (simp; done) | (simp; omega)) ?_ | refine heap_setCell_same _ ?_ | exact heap_at1_same (by first | omega | (simp; done) | (simp; omega)) | refine heap_at1_of (by first | omega | (simp; done) | (simp; omega)) ?_))
    have t1 := hb0.trans (hb1.mono hb0.size)
    go_wp2_with fail
    refine (gridOk_impl W' H' _ _ ds _ (ha'.below t1) h2).mono ?_
    rintro e w2 ⟨he, hb2⟩
    rw [HC.out] at he
    subst he
    obtain ⟨B2, q2, r2, z2⟩ := keep_blk hb2 B1
    obtain ⟨C2, qq2, rr2, zz2⟩ := keep_blk hb2 C1
    obtain ⟨D2, qd2, rd2, zd2⟩ := keep_blk hb2 D1
    clear B1 q1 r1 C1 qq1 rr1 D1 qd1 rd1
    have t2 := t1.trans (hb2.mono t1.size)
    go_wp2_with fail
    refine (isPlace_any x _).mono ?_
    rintro e w' ⟨he, rfl⟩
    replace he : e = .returned (.bool (smB x)) := he
    rw [HX.out] at he
    subst he
    go_wp2_with fail
    exact bodyPost_ret (v := .agg #[.int .i64 0, .int .i64 0, .slice none 0 0]) (by simp [results, Try.results25, go_sem, *]) rfl (gp_nil (((t2.setCell (by first | omega | (simp; done) | (simp; omega)) _).setCell (by first | omega | (simp; done) | (simp; omega)) _).setCell (by first | omega | (simp; done) | (simp; omega)) _) R HR.out)
  have HX := Lib.hid hx
  by_cases hy : smB y = true
  case neg =>
    have HY : Hid (smB y = false) := by show _ = _; simpa using hy
    have HR := Lib.hid (pa_none (W := W) (H := H) (cs := cs) (W' := W') (H' := H') (ds := ds) (x := x) (y := y) (fun h => hy h.2.2.2))
    clear hy
    generalize paR W H cs W' H' ds x y = R at HR ⊢
    go_enter Try.func25, Try.ntmps25
    go_wp2_with fail
    refine (gridOk_impl W H _ _ cs _ (ha.below hb0) h1).mono ?_
    rintro e w1 ⟨he, hb1⟩
    rw [HG.out] at he
    subst he
    obtain ⟨B1, q1, r1, z1⟩ := keep_blk hb1 (g := w.heap.size) (by repeat (first | assumption | exact heap_alloc_at _ (by first | rfl | (simp; done) | omega) | refine heap_alloc_of _ ?_ | refine heap_setCell_of _ (by first | omega | (simp; done) | (simp; omega)) ?_ | refine heap_setCell_same _ ?_ | exact heap_at1_same (by first | omega | (simp; done) | (simp; omega)) | refine heap_at1_of (by first | omega | (simp; done) | (simp; omega)) ?_))
    obtain ⟨C1, qq1, rr1, zz1⟩ := keep_blk hb1 (g := w.heap.size + 1) (by repeat (first | assumption | exact heap_alloc_at _ (by first | rfl | (simp; done) | omega) | refine heap_alloc_of _ ?_ | refine heap_setCell_of _ (by first | omega | (simp; done) | (simp; omega)) ?_ | refine heap_setCell_same _ ?_ | exact heap_at1_same (by first | omega | (simp; done) | (simp; omega)) | refine heap_at1_of (by first | omega | (simp; done) | (simp; omega)) ?_))
    obtain ⟨D1, qd1, rd1, zd1⟩ := keep_blk hb1 (g := w.heap.size + 1 + 1) (by repeat (first | assumption | exact heap_alloc_at _ (by first | rfl | (simp; done) | omega) | refine heap_alloc_of _ ?_ | refine heap_setCell_of _ (by first | omega | (simp; done) | (simp; omega)) ?_ | refine heap_setCell_same _ ?_ | exact heap_at1_same (by first | omega | (simp; done) | (simp; omega)) | refine heap_at1_of (by first | omega | (simp; done) | (simp; omega)) ?_))
    have t1 := hb0.trans (hb1.mono hb0.size)
    go_wp2_with fail
    refine (gridOk_impl W' H' _ _ ds _ (ha'.below t1) h2).mono ?_
    rintro e w2 ⟨he, hb2⟩
    rw [HC.out] at he
    subst he
    obtain ⟨B2, q2, r2, z2⟩ := keep_blk hb2 B1
    obtain ⟨C2, qq2, rr2, zz2⟩ := keep_blk hb2 C1
    obtain ⟨D2, qd2, rd2, zd2⟩ := keep_blk hb2 D1
    clear B1 q1 r1 C1 qq1 rr1 D1 qd1 rd1
    have t2 := t1.trans (hb2.mono t1.size)
    go_wp2_with fail
    refine (isPlace_any x _).mono ?_
    rintro e w' ⟨he, rfl⟩
    replace he : e = .returned (.bool (smB x)) := he
    rw [HX.out] at he
    subst he
    go_wp2_with fail
    refine (isPlace_any y _).mono ?_
    rintro e w' ⟨he, rfl⟩
    replace he : e = .returned (.bool (smB y)) := he
    rw [HY.out] at he
    subst he
    go_wp2_with fail
    exact bodyPost_ret (v := .agg #[.int .i64 0, .int .i64 0, .slice none 0 0]) (by simp [results, Try.results25, go_sem, *]) rfl (gp_nil (((t2.setCell (by first | omega | (simp; done) | (simp; omega)) _).setCell (by first | omega | (simp; done) | (simp; omega)) _).setCell (by first | omega | (simp; done) | (simp; omega)) _) R HR.out)
  have HY := Lib.hid hy
  obtain ⟨a, rfl⟩ := Int.eq_ofNat_of_zero_le (show 0 ≤ W by omega)
  obtain ⟨bb, rfl⟩ := Int.eq_ofNat_of_zero_le (show 0 ≤ H by omega)
  obtain ⟨a', rfl⟩ := Int.eq_ofNat_of_zero_le (show 0 ≤ W' by omega)
  obtain ⟨bb', rfl⟩ := Int.eq_ofNat_of_zero_le (show 0 ≤ H' by omega)
  have hsm : ∀ n : Int, smB n = true → -100000 ≤ n ∧ n ≤ 100000 := fun n h => by simpa [smB, withinB] using h
  obtain ⟨x1, x2⟩ := hsm _ hx
  obtain ⟨y1, y2⟩ := hsm _ hy
  have hlN : cs.length = bb * a := by
    have h : ((bb * a : Nat) : Int) = (a : Int) * bb := by rw [Int.mul_comm]; simp
    omega
  have hlN' : ds.length = bb' * a' := by
    have h : ((bb' * a' : Nat) : Int) = (a' : Int) * bb' := by rw [Int.mul_comm]; simp
    omega
  have hcl : cs.length ≤ 4000 := by omega
  have hcl' : ds.length ≤ 4000 := by omega
  have ha1 : 1 ≤ a := by omega
  have hbb1 : 1 ≤ bb := by omega
  have ha1' : 1 ≤ a' := by omega
  have hbb1' : 1 ≤ bb' := by omega
  have hcl0 : 0 < cs.length := by
    have := (row_bd (a := a) (b := bb) (k := 0) (j := 0) (by omega) (by omega)).1
    omega
  have hds0 : 0 < ds.length := by
    have := (row_bd (a := a') (b := bb') (k := 0) (j := 0) (by omega) (by omega)).1
    omega
  have HL := Lib.hid hlN
  have HL' := Lib.hid hlN'
  clear hsm hx hy hl hlN s5 hl' hlN' s5'
  have HR : Hid (paR a bb cs a' bb' ds x y = ((a : Int), (bb : Int), paL cs ds a bb x y a' ds.length)) := by
    show _ = _
    rw [paR, if_pos ⟨HG.out, HC.out, HX.out, HY.out⟩]
    rfl
  rw [HR.out]
  clear HR
  show Calls _ _ _ _ (GridPost w (a : Int) (bb : Int) (paL cs ds a bb x y a' ds.length))
  go_enter Try.func25, Try.ntmps25
  go_wp2_with fail
  refine (gridOk_impl a bb _ _ cs _ (ha.below hb0) h1).mono ?_
  rintro e w1 ⟨he, hb1⟩
  rw [HG.out] at he
  subst he
  obtain ⟨B1, q1, r1, z1⟩ := keep_blk hb1 (g := w.heap.size) (by repeat (first | assumption | exact heap_alloc_at _ (by first | rfl | (simp; done) | omega) | refine heap_alloc_of _ ?_ | refine heap_setCell_of _ (by first | omega | (simp; done) | (simp; omega)) ?_ | refine heap_setCell_same _ ?_ | exact heap_at1_same (by first | omega | (simp; done) | (simp; omega)) | refine heap_at1_of (by first | omega | (simp; done) | (simp; omega)) ?_))
  obtain ⟨C1, qq1, rr1, zz1⟩ := keep_blk hb1 (g := w.heap.size + 1) (by repeat (first | assumption | exact heap_alloc_at _ (by first | rfl | (simp; done) | omega) | refine heap_alloc_of _ ?_ | refine heap_setCell_of _ (by first | omega | (simp; done) | (simp; omega)) ?_ | refine heap_setCell_same _ ?_ | exact heap_at1_same (by first | omega | (simp; done) | (simp; omega)) | refine heap_at1_of (by first | omega | (simp; done) | (simp; omega)) ?_))
  obtain ⟨D1, qd1, rd1, zd1⟩ := keep_blk hb1 (g := w.heap.size + 1 + 1) (by repeat (first | assumption | exact heap_alloc_at _ (by first | rfl | (simp; done) | omega) | refine heap_alloc_of _ ?_ | refine heap_setCell_of _ (by first | omega | (simp; done) | (simp; omega)) ?_ | refine heap_setCell_same _ ?_ | exact heap_at1_same (by first | omega | (simp; done) | (simp; omega)) | refine heap_at1_of (by first | omega | (simp; done) | (simp; omega)) ?_))
  have t1 := hb0.trans (hb1.mono hb0.size)
  go_wp2_with fail
  refine (gridOk_impl a' bb' _ _ ds _ (ha'.below t1) h2).mono ?_
  rintro e w2 ⟨he, hb2⟩
  rw [HC.out] at he
  subst he
  obtain ⟨B2, q2, r2, z2⟩ := keep_blk hb2 B1
  obtain ⟨C2, qq2, rr2, zz2⟩ := keep_blk hb2 C1
  obtain ⟨D2, qd2, rd2, zd2⟩ := keep_blk hb2 D1
  clear B1 q1 r1 C1 qq1 rr1 D1 qd1 rd1
  have t2 := t1.trans (hb2.mono t1.size)
  go_wp2_with fail
  refine (isPlace_any x _).mono ?_
  rintro e w' ⟨he, rfl⟩
  replace he : e = .returned (.bool (smB x)) := he
  rw [HX.out] at he
  subst he
  go_wp2_with fail
  refine (isPlace_any y _).mono ?_
  rintro e w' ⟨he, rfl⟩
  replace he : e = .returned (.bool (smB y)) := he
  rw [HY.out] at he
  subst he
  go_wp2_with fail
  refine (paste_any a bb _ _ cs a' bb' _ _ ds x y _ (ha.below t2) (ha'.below t2) hc hc' ha1 (by omega) hbb1 (by omega) ha1' (by omega) hbb1' (by omega) HL HL' hcl hcl' hcl0 hds0 x1 x2 y1 y2).mono ?_
  rintro e w3 ⟨A3, c3, rfl, ho3, hs3, hi3, hb3⟩
  have hL : (paL cs ds a bb x y a' ds.length).length = cs.length := paL_len
  rw [hL]
  obtain ⟨D3, qd3, rd3, zd3⟩ := keep_blk hb3 D2
  have t3 := t2.trans (hb3.mono t2.size)
  clear B2 q2 r2 C2 qq2 rr2 D2 qd2 rd2
  go_wp2_with fail
  have ho4 := (((ho3.setCell (p := ⟨w.heap.size + 1 + 1, 0, none⟩) (by simpa using zd2) (.int .i64 a)).setCell (p := ⟨w.heap.size + 1 + 1, 1, none⟩) (by simpa using zd2) (.int .i64 bb)).setCell (p := ⟨w.heap.size + 1 + 1, 2, none⟩) (by simpa using zd2) (.slice A3 cs.length c3))
  refine bodyPost_ret (v := gV a bb A3 cs.length c3) (by simp [results, Try.results25, go_sem, *]) rfl ?_
  exact ⟨A3, c3, by rw [hL], ho4.mono t2.size, ho4.gs, (ho4.mono t2.size).inB, ((t3.setCell (by first | omega | (simp; done) | (simp; omega)) _).setCell (by first | omega | (simp; done) | (simp; omega)) _).setCell (by first | omega | (simp; done) | (simp; omega)) _⟩
end Go.Proofs.Ytnilgcahggmncaa
