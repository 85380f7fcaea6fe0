/- A part of a grid filled: the program's way. -/
import Derived.Test.YtdmhmelmoobekaaF1
import Derived.Test.YtdmhmelmoobekaaMx
import Derived.Test.YtdmhmelmoobekaaGw
namespace Go.Proofs.Ytdmhmelmoobekaa
open Go.RowKit
set_option linter.unusedVariables false
set_option maxRecDepth 100000

set_option maxHeartbeats 8000000 in
theorem gridFill_impl (W H : Int) (A : Option Addr) (c : Nat) (cs : List Cl) (x y fw fh : Int) (cl : Cl) (w : World) (ha : Gs w A cs) (hc : cs.length ≤ c) (h1 : cs.length ≤ 1048576) :
    Calls Try.prog 41 #[gV W H A cs.length c, .int .i64 x, .int .i64 y, .int .i64 fw, .int .i64 fh, cV cl] w (GridPost w (fiR W H cs x y fw fh cl).1 (fiR W H cs x y fw fh cl).2.1 (fiR W H cs x y fw fh cl).2.2) := by
  have hb0 : Below w.heap.size w (((w.alloc (.cells #[.int .i64 W, .int .i64 H, .slice A cs.length c] 33)).alloc (.cells #[.int .i64 cl.1, .int .i64 cl.2.1, .int .i64 cl.2.2.1, .bool cl.2.2.2.1, .bool cl.2.2.2.2.1, .bool cl.2.2.2.2.2] 29)).alloc (.cells #[.int .i64 0, .int .i64 0, .slice none 0 0] 33)) := by (repeat (first | exact Below.refl _ _ | (refine Below.alloc ?_ (by first | omega | (simp; done) | (simp; omega)) _) | (refine Below.drew ?_) | (refine below_drewN ?_ _) | (refine below_at1 ?_ (by first | omega | (simp; done) | (simp; omega))) | (refine Below.setCell ?_ (by first | omega | (simp; done) | (simp; omega)) _) | (refine Below.trans ?_ (Below.mono (by assumption) (by first | omega | (simp; done) | (simp; omega))))))
  by_cases hg : gridB W H cs = true
  case neg =>
    have HG : Hid (gridB W H cs = false) := by show _ = _; simpa using hg
    have HR := Lib.hid (fi_no (W := W) (H := H) (cs := cs) (x := x) (y := y) (fw := fw) (fh := fh) (c := cl) (fun h => hg h.1))
    clear hg
    generalize fiR W H cs x y fw fh cl = R at HR ⊢
    go_enter Try.func41, Try.ntmps41
    go_wp2_with fail
    refine (gridOk_impl W H _ _ cs _ (ha.below hb0) h1).mono ?_
    rintro e w1 ⟨he, hb1⟩
    rw [HG.out] at he
    subst he
    obtain ⟨B1, q1, r1, z1⟩ := keep_blk hb1 (g := w.heap.size) (by repeat (first | assumption | exact heap_alloc_at _ (by first | rfl | (simp; done) | omega) | refine heap_alloc_of _ ?_ | refine heap_setCell_of _ (by first | omega | (simp; done) | (simp; omega)) ?_ | refine heap_setCell_same _ ?_ | exact heap_at1_same (by first | omega | (simp; done) | (simp; omega)) | refine heap_at1_of (by first | omega | (simp; done) | (simp; omega)) ?_))
    obtain ⟨C1, qq1, rr1, zz1⟩ := keep_blk hb1 (g := w.heap.size + 1) (by repeat (first | assumption | exact heap_alloc_at _ (by first | rfl | (simp; done) | omega) | refine heap_alloc_of _ ?_ | refine heap_setCell_of _ (by first | omega | (simp; done) | (simp; omega)) ?_ | refine heap_setCell_same _ ?_ | exact heap_at1_same (by first | omega | (simp; done) | (simp; omega)) | refine heap_at1_of (by first | omega | (simp; done) | (simp; omega)) ?_))
    obtain ⟨D1, qd1, rd1, zd1⟩ := keep_blk hb1 (g := w.heap.size + 1 + 1) (by repeat (first | assumption | exact heap_alloc_at _ (by first | rfl | (simp; done) | omega) | refine heap_alloc_of _ ?_ | refine heap_setCell_of _ (by first | omega | (simp; done) | (simp; omega)) ?_ | refine heap_setCell_same _ ?_ | exact heap_at1_same (by first | omega | (simp; done) | (simp; omega)) | refine heap_at1_of (by first | omega | (simp; done) | (simp; omega)) ?_))
    have t1 := hb0.trans (hb1.mono hb0.size)
    go_wp2_with fail
    exact bodyPost_ret (v := .agg #[.int .i64 0, .int .i64 0, .slice none 0 0]) (by simp [results, Try.results41, go_sem, *]) rfl (gp_nil (((t1.setCell (by first | omega | (simp; done) | (simp; omega)) _).setCell (by first | omega | (simp; done) | (simp; omega)) _).setCell (by first | omega | (simp; done) | (simp; omega)) _) R HR.out)
  obtain ⟨⟨s1, s2⟩, ⟨s3, s4⟩, s5, hl⟩ := grid_len hg
  have HG := Lib.hid hg
  clear hg
  by_cases hc : cellB cl = true
  case neg =>
    have HC : Hid (cellB cl = false) := by show _ = _; simpa using hc
    have HR := Lib.hid (fi_no (W := W) (H := H) (cs := cs) (x := x) (y := y) (fw := fw) (fh := fh) (c := cl) (fun h => hc h.2.1))
    clear hc
    generalize fiR W H cs x y fw fh cl = R at HR ⊢
    go_enter Try.func41, Try.ntmps41
    go_wp2_with fail
    refine (gridOk_impl W H _ _ cs _ (ha.below hb0) h1).mono ?_
    rintro e w1 ⟨he, hb1⟩
    rw [HG.out] at he
    subst he
    obtain ⟨B1, q1, r1, z1⟩ := keep_blk hb1 (g := w.heap.size) (by repeat (first | assumption | exact heap_alloc_at _ (by first | rfl | (simp; done) | omega) | refine heap_alloc_of _ ?_ | refine heap_setCell_of _ (by first | omega | (simp; done) | (simp; omega)) ?_ | refine heap_setCell_same _ ?_ | exact heap_at1_same (by first | omega | (simp; done) | (simp; omega)) | refine heap_at1_of (by first | omega | (simp; done) | (simp; omega)) ?_))
    obtain ⟨C1, qq1, rr1, zz1⟩ := keep_blk hb1 (g := w.heap.size + 1) (by repeat (first | assumption | exact heap_alloc_at _ (by first | rfl | (simp; done) | omega) | refine heap_alloc_of _ ?_ | refine heap_setCell_of _ (by first | omega | (simp; done) | (simp; omega)) ?_ | refine heap_setCell_same _ ?_ | exact heap_at1_same (by first | omega | (simp; done) | (simp; omega)) | refine heap_at1_of (by first | omega | (simp; done) | (simp; omega)) ?_))
    obtain ⟨D1, qd1, rd1, zd1⟩ := keep_blk hb1 (g := w.heap.size + 1 + 1) (by repeat (first | assumption | exact heap_alloc_at _ (by first | rfl | (simp; done) | omega) | refine heap_alloc_of _ ?_ | refine heap_setCell_of _ (by first | omega | (simp; done) | (simp; omega)) ?_ | refine heap_setCell_same _ ?_ | exact heap_at1_same (by first | omega | (simp; done) | (simp; omega)) | refine heap_at1_of (by first | omega | (simp; done) | (simp; omega)) ?_))
    have t1 := hb0.trans (hb1.mono hb0.size)
    go_wp2_with fail
    refine (cellOk_impl cl.1 cl.2.1 cl.2.2.1 cl.2.2.2.1 cl.2.2.2.2.1 cl.2.2.2.2.2 _).mono ?_
    rintro e w2 ⟨he, hb2⟩
    replace he : e = .returned (.bool (cellB cl)) := he
    rw [HC.out] at he
    subst he
    obtain ⟨B2, q2, r2, z2⟩ := keep_blk hb2 B1
    obtain ⟨C2, qq2, rr2, zz2⟩ := keep_blk hb2 C1
    obtain ⟨D2, qd2, rd2, zd2⟩ := keep_blk hb2 D1
    clear B1 q1 r1 C1 qq1 rr1 D1 qd1 rd1
    have t2 := t1.trans (hb2.mono t1.size)
    go_wp2_with fail
    exact bodyPost_ret (v := .agg #[.int .i64 0, .int .i64 0, .slice none 0 0]) (by simp [results, Try.results41, go_sem, *]) rfl (gp_nil (((t2.setCell (by first | omega | (simp; done) | (simp; omega)) _).setCell (by first | omega | (simp; done) | (simp; omega)) _).setCell (by first | omega | (simp; done) | (simp; omega)) _) R HR.out)
  have HC := Lib.hid hc
  clear hc
  by_cases hx : smB x = true
  case neg =>
    have HX : Hid (smB x = false) := by show _ = _; simpa using hx
    have HR := Lib.hid (fi_no (W := W) (H := H) (cs := cs) (x := x) (y := y) (fw := fw) (fh := fh) (c := cl) (fun h => hx h.2.2.1))
    clear hx
    generalize fiR W H cs x y fw fh cl = R at HR ⊢
    go_enter Try.func41, Try.ntmps41
    go_wp2_with fail
    refine (gridOk_impl W H _ _ cs _ (ha.below hb0) h1).mono ?_
    rintro e w1 ⟨he, hb1⟩
    rw [HG.out] at he
    subst he
    obtain ⟨B1, q1, r1, z1⟩ := keep_blk hb1 (g := w.heap.size) (by repeat (first | assumption | exact heap_alloc_at _ (by first | rfl | (simp; done) | omega) | refine heap_alloc_of _ ?_ | refine heap_setCell_of _ (by first | omega | (simp; done) | (simp; omega)) ?_ | refine heap_setCell_same _ ?_ | exact heap_at1_same (by first | omega | (simp; done) | (simp; omega)) | refine heap_at1_of (by first | omega | (simp; done) | (simp; omega)) ?_))
    obtain ⟨C1, qq1, rr1, zz1⟩ := keep_blk hb1 (g := w.heap.size + 1) (by repeat (first | assumption | exact heap_alloc_at _ (by first | rfl | (simp; done) | omega) | refine heap_alloc_of _ ?_ | refine heap_setCell_of _ (by first | omega | (simp; done) | (simp; omega)) ?_ | refine heap_setCell_same _ ?_ | exact heap_at1_same (by first | omega | (simp; done) | (simp; omega)) | refine heap_at1_of (by first | omega | (simp; done) | (simp; omega)) ?_))
    obtain ⟨D1, qd1, rd1, zd1⟩ := keep_blk hb1 (g := w.heap.size + 1 + 1) (by repeat (first | assumption | exact heap_alloc_at _ (by first | rfl | (simp; done) | omega) | refine heap_alloc_of _ ?_ | refine heap_setCell_of _ (by first | omega | (simp; done) | (simp; omega)) ?_ | refine heap_setCell_same _ ?_ | exact heap_at1_same (by first | omega | (simp; done) | (simp; omega)) | refine heap_at1_of (by first | omega | (simp; done) | (simp; omega)) ?_))
    have t1 := hb0.trans (hb1.mono hb0.size)
    go_wp2_with fail
    refine (cellOk_impl cl.1 cl.2.1 cl.2.2.1 cl.2.2.2.1 cl.2.2.2.2.1 cl.2.2.2.2.2 _).mono ?_
    rintro e w2 ⟨he, hb2⟩
    replace he : e = .returned (.bool (cellB cl)) := he
    rw [HC.out] at he
    subst he
    obtain ⟨B2, q2, r2, z2⟩ := keep_blk hb2 B1
    obtain ⟨C2, qq2, rr2, zz2⟩ := keep_blk hb2 C1
    obtain ⟨D2, qd2, rd2, zd2⟩ := keep_blk hb2 D1
    clear B1 q1 r1 C1 qq1 rr1 D1 qd1 rd1
    have t2 := t1.trans (hb2.mono t1.size)
    go_wp2_with fail
    refine (isPlace_any x _).mono ?_
    rintro e w' ⟨he, rfl⟩
    replace he : e = .returned (.bool (smB x)) := he
    rw [HX.out] at he
    subst he
    go_wp2_with fail
    exact bodyPost_ret (v := .agg #[.int .i64 0, .int .i64 0, .slice none 0 0]) (by simp [results, Try.results41, go_sem, *]) rfl (gp_nil (((t2.setCell (by first | omega | (simp; done) | (simp; omega)) _).setCell (by first | omega | (simp; done) | (simp; omega)) _).setCell (by first | omega | (simp; done) | (simp; omega)) _) R HR.out)
  have HX := Lib.hid hx
  by_cases hy : smB y = true
  case neg =>
    have HY : Hid (smB y = false) := by show _ = _; simpa using hy
    have HR := Lib.hid (fi_no (W := W) (H := H) (cs := cs) (x := x) (y := y) (fw := fw) (fh := fh) (c := cl) (fun h => hy h.2.2.2.1))
    clear hy
    generalize fiR W H cs x y fw fh cl = R at HR ⊢
    go_enter Try.func41, Try.ntmps41
    go_wp2_with fail
    refine (gridOk_impl W H _ _ cs _ (ha.below hb0) h1).mono ?_
    rintro e w1 ⟨he, hb1⟩
    rw [HG.out] at he
    subst he
    obtain ⟨B1, q1, r1, z1⟩ := keep_blk hb1 (g := w.heap.size) (by repeat (first | assumption | exact heap_alloc_at _ (by first | rfl | (simp; done) | omega) | refine heap_alloc_of _ ?_ | refine heap_setCell_of _ (by first | omega | (simp; done) | (simp; omega)) ?_ | refine heap_setCell_same _ ?_ | exact heap_at1_same (by first | omega | (simp; done) | (simp; omega)) | refine heap_at1_of (by first | omega | (simp; done) | (simp; omega)) ?_))
    obtain ⟨C1, qq1, rr1, zz1⟩ := keep_blk hb1 (g := w.heap.size + 1) (by repeat (first | assumption | exact heap_alloc_at _ (by first | rfl | (simp; done) | omega) | refine heap_alloc_of _ ?_ | refine heap_setCell_of _ (by first | omega | (simp; done) | (simp; omega)) ?_ | refine heap_setCell_same _ ?_ | exact heap_at1_same (by first | omega | (simp; done) | (simp; omega)) | refine heap_at1_of (by first | omega | (simp; done) | (simp; omega)) ?_))
    obtain ⟨D1, qd1, rd1, zd1⟩ := keep_blk hb1 (g := w.heap.size + 1 + 1) (by repeat (first | assumption | exact heap_alloc_at _ (by first | rfl | (simp; done) | omega) | refine heap_alloc_of _ ?_ | refine heap_setCell_of _ (by first | omega | (simp; done) | (simp; omega)) ?_ | refine heap_setCell_same _ ?_ | exact heap_at1_same (by first | omega | (simp; done) | (simp; omega)) | refine heap_at1_of (by first | omega | (simp; done) | (simp; omega)) ?_))
    have t1 := hb0.trans (hb1.mono hb0.size)
    go_wp2_with fail
    refine (cellOk_impl cl.1 cl.2.1 cl.2.2.1 cl.2.2.2.1 cl.2.2.2.2.1 cl.2.2.2.2.2 _).mono ?_
    rintro e w2 ⟨he, hb2⟩
    replace he : e = .returned (.bool (cellB cl)) := he
    rw [HC.out] at he
    subst he
    obtain ⟨B2, q2, r2, z2⟩ := keep_blk hb2 B1
    obtain ⟨C2, qq2, rr2, zz2⟩ := keep_blk hb2 C1
    obtain ⟨D2, qd2, rd2, zd2⟩ := keep_blk hb2 D1
    clear B1 q1 r1 C1 qq1 rr1 D1 qd1 rd1
    have t2 := t1.trans (hb2.mono t1.size)
    go_wp2_with fail
    refine (isPlace_any x _).mono ?_
    rintro e w' ⟨he, rfl⟩
    replace he : e = .returned (.bool (smB x)) := he
    rw [HX.out] at he
    subst he
    go_wp2_with fail
    refine (isPlace_any y _).mono ?_
    rintro e w' ⟨he, rfl⟩
    replace he : e = .returned (.bool (smB y)) := he
    rw [HY.out] at he
    subst he
    go_wp2_with fail
    exact bodyPost_ret (v := .agg #[.int .i64 0, .int .i64 0, .slice none 0 0]) (by simp [results, Try.results41, go_sem, *]) rfl (gp_nil (((t2.setCell (by first | omega | (simp; done) | (simp; omega)) _).setCell (by first | omega | (simp; done) | (simp; omega)) _).setCell (by first | omega | (simp; done) | (simp; omega)) _) R HR.out)
  have HY := Lib.hid hy
  by_cases hw : smB fw = true
  case neg =>
    have HW : Hid (smB fw = false) := by show _ = _; simpa using hw
    have HR := Lib.hid (fi_no (W := W) (H := H) (cs := cs) (x := x) (y := y) (fw := fw) (fh := fh) (c := cl) (fun h => hw h.2.2.2.2.1))
    clear hw
    generalize fiR W H cs x y fw fh cl = R at HR ⊢
    go_enter Try.func41, Try.ntmps41
    go_wp2_with fail
    refine (gridOk_impl W H _ _ cs _ (ha.below hb0) h1).mono ?_
    rintro e w1 ⟨he, hb1⟩
    rw [HG.out] at he
    subst he
    obtain ⟨B1, q1, r1, z1⟩ := keep_blk hb1 (g := w.heap.size) (by repeat (first | assumption | exact heap_alloc_at _ (by first | rfl | (simp; done) | omega) | refine heap_alloc_of _ ?_ | refine heap_setCell_of _ (by first | omega | (simp; done) | (simp; omega)) ?_ | refine heap_setCell_same _ ?_ | exact heap_at1_same (by first | omega | (simp; done) | (simp; omega)) | refine heap_at1_of (by first | omega | (simp; done) | (simp; omega)) ?_))
    obtain ⟨C1, qq1, rr1, zz1⟩ := keep_blk hb1 (g := w.heap.size + 1) (by repeat (first | assumption | exact heap_alloc_at _ (by first | rfl | (simp; done) | omega) | refine heap_alloc_of _ ?_ | refine heap_setCell_of _ (by first | omega | (simp; done) | (simp; omega)) ?_ | refine heap_setCell_same _ ?_ | exact heap_at1_same (by first | omega | (simp; done) | (simp; omega)) | refine heap_at1_of (by first | omega | (simp; done) | (simp; omega)) ?_))
    obtain ⟨D1, qd1, rd1, zd1⟩ := keep_blk hb1 (g := w.heap.size + 1 + 1) (by repeat (first | assumption | exact heap_alloc_at _ (by first | rfl | (simp; done) | omega) | refine heap_alloc_of _ ?_ | refine heap_setCell_of _ (by first | omega | (simp; done) | (simp; omega)) ?_ | refine heap_setCell_same _ ?_ | exact heap_at1_same (by first | omega | (simp; done) | (simp; omega)) | refine heap_at1_of (by first | omega | (simp; done) | (simp; omega)) ?_))
    have t1 := hb0.trans (hb1.mono hb0.size)
    go_wp2_with fail
    refine (cellOk_impl cl.1 cl.2.1 cl.2.2.1 cl.2.2.2.1 cl.2.2.2.2.1 cl.2.2.2.2.2 _).mono ?_
    rintro e w2 ⟨he, hb2⟩
    replace he : e = .returned (.bool (cellB cl)) := he
    rw [HC.out] at he
    subst he
    obtain ⟨B2, q2, r2, z2⟩ := keep_blk hb2 B1
    obtain ⟨C2, qq2, rr2, zz2⟩ := keep_blk hb2 C1
    obtain ⟨D2, qd2, rd2, zd2⟩ := keep_blk hb2 D1
    clear B1 q1 r1 C1 qq1 rr1 D1 qd1 rd1
    have t2 := t1.trans (hb2.mono t1.size)
    go_wp2_with fail
    refine (isPlace_any x _).mono ?_
    rintro e w' ⟨he, rfl⟩
    replace he : e = .returned (.bool (smB x)) := he
    rw [HX.out] at he
    subst he
    go_wp2_with fail
    refine (isPlace_any y _).mono ?_
    rintro e w' ⟨he, rfl⟩
    replace he : e = .returned (.bool (smB y)) := he
    rw [HY.out] at he
    subst he
    go_wp2_with fail
    refine (isPlace_any fw _).mono ?_
    rintro e w' ⟨he, rfl⟩
    replace he : e = .returned (.bool (smB fw)) := he
    rw [HW.out] at he
    subst he
    go_wp2_with fail
    exact bodyPost_ret (v := .agg #[.int .i64 0, .int .i64 0, .slice none 0 0]) (by simp [results, Try.results41, go_sem, *]) rfl (gp_nil (((t2.setCell (by first | omega | (simp; done) | (simp; omega)) _).setCell (by first | omega | (simp; done) | (simp; omega)) _).setCell (by first | omega | (simp; done) | (simp; omega)) _) R HR.out)
  have HW := Lib.hid hw
  by_cases hh : smB fh = true
  case neg =>
    have HH : Hid (smB fh = false) := by show _ = _; simpa using hh
    have HR := Lib.hid (fi_no (W := W) (H := H) (cs := cs) (x := x) (y := y) (fw := fw) (fh := fh) (c := cl) (fun h => hh h.2.2.2.2.2))
    clear hh
    generalize fiR W H cs x y fw fh cl = R at HR ⊢
    go_enter Try.func41, Try.ntmps41
    go_wp2_with fail
    refine (gridOk_impl W H _ _ cs _ (ha.below hb0) h1).mono ?_
    rintro e w1 ⟨he, hb1⟩
    rw [HG.out] at he
    subst he
    obtain ⟨B1, q1, r1, z1⟩ := keep_blk hb1 (g := w.heap.size) (by repeat (first | assumption | exact heap_alloc_at _ (by first | rfl | (simp; done) | omega) | refine heap_alloc_of _ ?_ | refine heap_setCell_of _ (by first | omega | (simp; done) | (simp; omega)) ?_ | refine heap_setCell_same _ ?_ | exact heap_at1_same (by first | omega | (simp; done) | (simp; omega)) | refine heap_at1_of (by first | omega | (simp; done) | (simp; omega)) ?_))
    obtain ⟨C1, qq1, rr1, zz1⟩ := keep_blk hb1 (g := w.heap.size + 1) (by repeat (first | assumption | exact heap_alloc_at _ (by first | rfl | (simp; done) | omega) | refine heap_alloc_of _ ?_ | refine heap_setCell_of _ (by first | omega | (simp; done) | (simp; omega)) ?_ | refine heap_setCell_same _ ?_ | exact heap_at1_same (by first | omega | (simp; done) | (simp; omega)) | refine heap_at1_of (by first | omega | (simp; done) | (simp; omega)) ?_))
    obtain ⟨D1, qd1, rd1, zd1⟩ := keep_blk hb1 (g := w.heap.size + 1 + 1) (by repeat (first | assumption | exact heap_alloc_at _ (by first | rfl | (simp; done) | omega) | refine heap_alloc_of _ ?_ | refine heap_setCell_of _ (by first | omega | (simp; done) | (simp; omega)) ?_ | refine heap_setCell_same _ ?_ | exact heap_at1_same (by first | omega | (simp; done) | (simp; omega)) | refine heap_at1_of (by first | omega | (simp; done) | (simp; omega)) ?_))
    have t1 := hb0.trans (hb1.mono hb0.size)
    go_wp2_with fail
    refine (cellOk_impl cl.1 cl.2.1 cl.2.2.1 cl.2.2.2.1 cl.2.2.2.2.1 cl.2.2.2.2.2 _).mono ?_
    rintro e w2 ⟨he, hb2⟩
    replace he : e = .returned (.bool (cellB cl)) := he
    rw [HC.out] at he
    subst he
    obtain ⟨B2, q2, r2, z2⟩ := keep_blk hb2 B1
    obtain ⟨C2, qq2, rr2, zz2⟩ := keep_blk hb2 C1
    obtain ⟨D2, qd2, rd2, zd2⟩ := keep_blk hb2 D1
    clear B1 q1 r1 C1 qq1 rr1 D1 qd1 rd1
    have t2 := t1.trans (hb2.mono t1.size)
    go_wp2_with fail
    refine (isPlace_any x _).mono ?_
    rintro e w' ⟨he, rfl⟩
    replace he : e = .returned (.bool (smB x)) := he
    rw [HX.out] at he
    subst he
    go_wp2_with fail
    refine (isPlace_any y _).mono ?_
    rintro e w' ⟨he, rfl⟩
    replace he : e = .returned (.bool (smB y)) := he
    rw [HY.out] at he
    subst he
    go_wp2_with fail
    refine (isPlace_any fw _).mono ?_
    rintro e w' ⟨he, rfl⟩
    replace he : e = .returned (.bool (smB fw)) := he
    rw [HW.out] at he
    subst he
    go_wp2_with fail
    refine (isPlace_any fh _).mono ?_
    rintro e w' ⟨he, rfl⟩
    replace he : e = .returned (.bool (smB fh)) := he
    rw [HH.out] at he
    subst he
    go_wp2_with fail
    exact bodyPost_ret (v := .agg #[.int .i64 0, .int .i64 0, .slice none 0 0]) (by simp [results, Try.results41, go_sem, *]) rfl (gp_nil (((t2.setCell (by first | omega | (simp; done) | (simp; omega)) _).setCell (by first | omega | (simp; done) | (simp; omega)) _).setCell (by first | omega | (simp; done) | (simp; omega)) _) R HR.out)
  have HH := Lib.hid hh
  obtain ⟨a, rfl⟩ := Int.eq_ofNat_of_zero_le (show 0 ≤ W by omega)
  obtain ⟨bb, rfl⟩ := Int.eq_ofNat_of_zero_le (show 0 ≤ H by omega)
  have hsm : ∀ n : Int, smB n = true → -100000 ≤ n ∧ n ≤ 100000 := fun n h => by simpa [smB, withinB] using h
  obtain ⟨x1, x2⟩ := hsm _ hx
  obtain ⟨y1, y2⟩ := hsm _ hy
  obtain ⟨fw1, fw2⟩ := hsm _ hw
  obtain ⟨fh1, fh2⟩ := hsm _ hh
  have hlN : cs.length = bb * a := by
    have h : ((bb * a : Nat) : Int) = (a : Int) * bb := by rw [Int.mul_comm]; simp
    omega
  have hcl : cs.length ≤ 4000 := by omega
  have ha1 : 1 ≤ a := by omega
  have hbb1 : 1 ≤ bb := by omega
  have hcl0 : 0 < cs.length := by
    have := (row_bd (a := a) (b := bb) (k := 0) (j := 0) (by omega) (by omega)).1
    omega
  have HL := Lib.hid hlN
  clear hsm hx hy hw hh hl hlN s5
  have HR : Hid (fiR a bb cs x y fw fh cl = ((a : Int), (bb : Int), fiL cs a x y fw fh cl)) := by
    show _ = _
    rw [fiR, if_pos ⟨HG.out, HC.out, HX.out, HY.out, HW.out, HH.out⟩]
    rfl
  rw [HR.out]
  clear HR
  show Calls _ _ _ _ (GridPost w (a : Int) (bb : Int) (fiL cs a x y fw fh cl))
  obtain ⟨m1, m2, m3⟩ := mx2_cases 0 y
  obtain ⟨m4, m5, m6⟩ := mx2_cases 0 x
  obtain ⟨m7, m8, m9⟩ := mn2_cases (bb : Int) (y + fh)
  obtain ⟨m10, m11, m12⟩ := mn2_cases (a : Int) (x + fw)
  obtain ⟨r0, hr0⟩ : ∃ r0 : Nat, (r0 : Int) = mx2 0 y := ⟨(mx2 0 y).toNat, by omega⟩
  obtain ⟨c0, hc0⟩ : ∃ c0 : Nat, (c0 : Int) = mx2 0 x := ⟨(mx2 0 x).toNat, by omega⟩
  obtain ⟨r1, hr1⟩ : ∃ r1 : Int, r1 = mn2 (bb : Int) (y + fh) := ⟨_, rfl⟩
  obtain ⟨c1, hc1⟩ : ∃ c1 : Int, c1 = mn2 (a : Int) (x + fw) := ⟨_, rfl⟩
  have r0a : (r0 : Int) ≤ y ∨ r0 = 0 := by omega
  have c0a : (c0 : Int) ≤ x ∨ c0 = 0 := by omega
  have r0b : y ≤ r0 := by omega
  have c0b : x ≤ c0 := by omega
  have r0c : r0 ≤ 100000 := by omega
  have c0c : c0 ≤ 100000 := by omega
  have r1a : r1 ≤ y + fh ∧ r1 ≤ bb ∧ (r1 = y + fh ∨ r1 = bb) := by omega
  have c1a : c1 ≤ x + fw ∧ c1 ≤ a ∧ (c1 = x + fw ∨ c1 = a) := by omega
  have HR0 := Lib.hid hr0
  have HC0 := Lib.hid hc0
  have HR1 := Lib.hid hr1
  have HC1 := Lib.hid hc1
  have HR0a := Lib.hid r0a
  have HC0a := Lib.hid c0a
  have HR1a := Lib.hid r1a
  have HC1a := Lib.hid c1a
  clear hr0 hc0 hr1 hc1 r0a c0a r1a c1a m1 m2 m3 m4 m5 m6 m7 m8 m9 m10 m11 m12
  go_enter Try.func41, Try.ntmps41
  go_wp2_with fail
  refine (gridOk_impl a bb _ _ cs _ (ha.below hb0) h1).mono ?_
  rintro e w1 ⟨he, hb1⟩
  rw [HG.out] at he
  subst he
  obtain ⟨B1, q1, r1, z1⟩ := keep_blk hb1 (g := w.heap.size) (by repeat (first | assumption | exact heap_alloc_at _ (by first | rfl | (simp; done) | omega) | refine heap_alloc_of _ ?_ | refine heap_setCell_of _ (by first | omega | (simp; done) | (simp; omega)) ?_ | refine heap_setCell_same _ ?_ | exact heap_at1_same (by first | omega | (simp; done) | (simp; omega)) | refine heap_at1_of (by first | omega | (simp; done) | (simp; omega)) ?_))
  obtain ⟨C1, qq1, rr1, zz1⟩ := keep_blk hb1 (g := w.heap.size + 1) (by repeat (first | assumption | exact heap_alloc_at _ (by first | rfl | (simp; done) | omega) | refine heap_alloc_of _ ?_ | refine heap_setCell_of _ (by first | omega | (simp; done) | (simp; omega)) ?_ | refine heap_setCell_same _ ?_ | exact heap_at1_same (by first | omega | (simp; done) | (simp; omega)) | refine heap_at1_of (by first | omega | (simp; done) | (simp; omega)) ?_))
  obtain ⟨D1, qd1, rd1, zd1⟩ := keep_blk hb1 (g := w.heap.size + 1 + 1) (by repeat (first | assumption | exact heap_alloc_at _ (by first | rfl | (simp; done) | omega) | refine heap_alloc_of _ ?_ | refine heap_setCell_of _ (by first | omega | (simp; done) | (simp; omega)) ?_ | refine heap_setCell_same _ ?_ | exact heap_at1_same (by first | omega | (simp; done) | (simp; omega)) | refine heap_at1_of (by first | omega | (simp; done) | (simp; omega)) ?_))
  have t1 := hb0.trans (hb1.mono hb0.size)
  go_wp2_with fail
  refine (cellOk_impl cl.1 cl.2.1 cl.2.2.1 cl.2.2.2.1 cl.2.2.2.2.1 cl.2.2.2.2.2 _).mono ?_
  rintro e w2 ⟨he, hb2⟩
  replace he : e = .returned (.bool (cellB cl)) := he
  rw [HC.out] at he
  subst he
  obtain ⟨B2, q2, r2, z2⟩ := keep_blk hb2 B1
  obtain ⟨C2, qq2, rr2, zz2⟩ := keep_blk hb2 C1
  obtain ⟨D2, qd2, rd2, zd2⟩ := keep_blk hb2 D1
  clear B1 q1 r1 C1 qq1 rr1 D1 qd1 rd1
  have t2 := t1.trans (hb2.mono t1.size)
  go_wp2_with fail
  refine (isPlace_any x _).mono ?_
  rintro e w' ⟨he, rfl⟩
  replace he : e = .returned (.bool (smB x)) := he
  rw [HX.out] at he
  subst he
  go_wp2_with fail
  refine (isPlace_any y _).mono ?_
  rintro e w' ⟨he, rfl⟩
  replace he : e = .returned (.bool (smB y)) := he
  rw [HY.out] at he
  subst he
  go_wp2_with fail
  refine (isPlace_any fw _).mono ?_
  rintro e w' ⟨he, rfl⟩
  replace he : e = .returned (.bool (smB fw)) := he
  rw [HW.out] at he
  subst he
  go_wp2_with fail
  refine (isPlace_any fh _).mono ?_
  rintro e w' ⟨he, rfl⟩
  replace he : e = .returned (.bool (smB fh)) := he
  rw [HH.out] at he
  subst he
  go_wp2_with fail
  refine (copyGrid_any a bb _ _ cs _ (ha.below t2) hcl0 h1).mono ?_
  rintro e w3 ⟨A3, c3, rfl, ho3, hs3, hi3, hb3⟩
  obtain ⟨B3, q3, r3, z3⟩ := keep_blk hb3 B2
  obtain ⟨C3, qq3, rr3, zz3⟩ := keep_blk hb3 C2
  obtain ⟨D3, qd3, rd3, zd3⟩ := keep_blk hb3 D2
  clear B2 q2 r2 C2 qq2 rr2 D2 qd2 rd2 hs3 hi3
  have t3 := t2.trans (hb3.mono t2.size)
  obtain ⟨g, rfl, hlo, hcm, hxc, _⟩ := ho3.fill hcl0
  have hgl := (ho3.lt g rfl).2
  go_wp2_with (refine wp_max2 HR0.out rfl ⟨_, _, _, rfl, rfl, rfl⟩ ?_)
  obtain ⟨w4, hw4⟩ : ∃ w4, w4 = w3.alloc (.cells #[.int .i64 a, .int .i64 bb, .slice (some ⟨g, 0, none⟩) cs.length c3] 33) := ⟨_, rfl⟩
  rw [← hw4]
  have HB4 : Hid (w4.heap[w.heap.size]? = (some (.cells #[.int .i64 a, .int .i64 bb, .slice A cs.length c] 33 (0, 0)))) := by subst hw4; exact heap_alloc_of _ B3
  have HC4 : Hid (w4.heap[w.heap.size + 1]? = (some (.cells #[.int .i64 cl.1, .int .i64 cl.2.1, .int .i64 cl.2.2.1, .bool cl.2.2.2.1, .bool cl.2.2.2.2.1, .bool cl.2.2.2.2.2] 29 (0, 0)))) := by subst hw4; exact heap_alloc_of _ C3
  have HD4 : Hid (w4.heap[w.heap.size + 1 + 1]? = (some (.cells #[.int .i64 0, .int .i64 0, .slice none 0 0] 33 (0, 0)))) := by subst hw4; exact heap_alloc_of _ D3
  have HO4 : Hid (w4.heap[w3.heap.size]? = (some (.cells #[.int .i64 a, .int .i64 bb, .slice (some ⟨g, 0, none⟩) cs.length c3] 33 (0, 0)))) := by subst hw4; exact heap_alloc_new _ _
  have ho4 : Og w4 w2.heap.size (some ⟨g, 0, none⟩) c3 cs := by subst hw4; exact ho3.alloc _
  have t4 : Below w.heap.size w w4 := by subst hw4; exact t3.alloc t3.size _
  have hsz : w3.heap.size < w4.heap.size := by subst hw4; simp
  have hgB : ¬ w.heap.size = g := by omega
  have hgC : ¬ w.heap.size + 1 = g := by omega
  have hgD : ¬ w.heap.size + 1 + 1 = g := by omega
  have hgO : ¬ w3.heap.size = g := by omega
  clear hw4 B3 C3 D3 q3 r3 qq3 rr3 qd3 rd3 hb0 hb1 hb2 hb3
  go_loopw [14] (fun i wr => ∃ rr : Nat, r0 ≤ rr ∧ rr ≤ 200000 ∧ i = .int .i64 rr ∧ Og wr w2.heap.size (some ⟨g, 0, none⟩) c3 (upd cs (fiF cs a x y fw fh cl) 0 (rr * a)) ∧ Hid (wr.heap[w.heap.size]? = (some (.cells #[.int .i64 a, .int .i64 bb, .slice A cs.length c] 33 (0, 0)))) ∧ Hid (wr.heap[w.heap.size + 1]? = (some (.cells #[.int .i64 cl.1, .int .i64 cl.2.1, .int .i64 cl.2.2.1, .bool cl.2.2.2.1, .bool cl.2.2.2.2.1, .bool cl.2.2.2.2.2] 29 (0, 0)))) ∧ Hid (wr.heap[w.heap.size + 1 + 1]? = (some (.cells #[.int .i64 0, .int .i64 0, .slice none 0 0] 33 (0, 0)))) ∧ Hid (wr.heap[w3.heap.size]? = (some (.cells #[.int .i64 a, .int .i64 bb, .slice (some ⟨g, 0, none⟩) cs.length c3] 33 (0, 0)))) ∧ Below w.heap.size w wr ∧ w4.heap.size ≤ wr.heap.size) (fun i _ => 200000 - (intOf i).toNat)
  case atStart => exact ⟨r0, Nat.le_refl _, by omega, rfl, by rw [← fi_start (by omega) HR0a.out]; exact ho4, HB4, HC4, HD4, HO4, t4, Nat.le_refl _⟩
  case round =>
    clear ho4 HB4 HC4 HD4 HO4
    obtain ⟨rr, hrr, hrr2, rfl, ho, hB, hC, hD, hO, hb, hs⟩ := hrel
    have qb0 : ∀ i, wr.cell? ⟨w.heap.size, i, none⟩ = _ := fun i => cell_of_row wr _ i _ _ (0, 0) hB.out
    by_cases hlty : (rr : Int) < r1
    · obtain ⟨p, hp⟩ : ∃ p, Hid (p = rr * a) := ⟨_, rfl⟩
      obtain ⟨q, hq⟩ : ∃ q, Hid (q = (rr + 1) * a) := ⟨_, rfl⟩
      have hrb : rr < bb := by have := HR1a.out; omega
      have hqp : q = p + a := by rw [hp.out, hq.out, Nat.succ_mul]
      have hqb : q ≤ cs.length := by rw [HL.out, hqp, hp.out]; exact (row_bd hrb ha1).2
      have hqp' : q - p = a := by omega
      have hpa : p + a ≤ cs.length := by omega
      have hpq : p < q := by omega
      have HQP := Lib.hid hqp'
      clear hqp hqp'
      have ho' := ho
      rw [← hp.out, fi_left (by omega) hp.out HC0a.out] at ho'
      clear ho
      go_wp2_with (first | (refine wp_min2 HR1.out rfl ⟨_, _, _, rfl, rfl, rfl⟩ ?_) | (refine wp_max2 HC0.out rfl ⟨_, _, _, rfl, rfl, rfl⟩ ?_))
      go_loopw [15] (fun i wr => ∃ cc : Nat, c0 ≤ cc ∧ cc ≤ 200000 ∧ i = .int .i64 cc ∧ Og wr w2.heap.size (some ⟨g, 0, none⟩) c3 (upd cs (fiF cs a x y fw fh cl) 0 (p + min cc a)) ∧ Hid (wr.heap[w.heap.size]? = (some (.cells #[.int .i64 a, .int .i64 bb, .slice A cs.length c] 33 (0, 0)))) ∧ Hid (wr.heap[w.heap.size + 1]? = (some (.cells #[.int .i64 cl.1, .int .i64 cl.2.1, .int .i64 cl.2.2.1, .bool cl.2.2.2.1, .bool cl.2.2.2.2.1, .bool cl.2.2.2.2.2] 29 (0, 0)))) ∧ Hid (wr.heap[w.heap.size + 1 + 1]? = (some (.cells #[.int .i64 0, .int .i64 0, .slice none 0 0] 33 (0, 0)))) ∧ Hid (wr.heap[w3.heap.size]? = (some (.cells #[.int .i64 a, .int .i64 bb, .slice (some ⟨g, 0, none⟩) cs.length c3] 33 (0, 0)))) ∧ Below w.heap.size w wr ∧ w4.heap.size ≤ wr.heap.size) (fun i _ => 200000 - (intOf i).toNat)
      case atStart => exact ⟨c0, Nat.le_refl _, by omega, rfl, ho', hB, hC, hD, hO, hb, hs⟩
      case round =>
        clear ho' hB hC hD hO hb hs qb0
        obtain ⟨cc, hcc, hcc2, rfl, ho, hB, hC, hD, hO, hb, hs⟩ := hrel
        have qb0 : ∀ i, wr.cell? ⟨w.heap.size, i, none⟩ = _ := fun i => cell_of_row wr _ i _ _ (0, 0) hB.out
        by_cases hltx : (cc : Int) < c1
        · have hca : cc < a := by have := HC1a.out; omega
          have hmin : min cc a = cc := by omega
          rw [hmin] at ho
          have hkl : p + cc < (upd cs (fiF cs a x y fw fh cl) 0 (p + cc)).length := by rw [upd_len]; omega
          have hpc : p + cc < cs.length := by omega
          have HF : Hid (fiF cs a x y fw fh cl (p + cc) = cl) := by
            show _ = _
            exact if_pos (by rw [fi_at hca hp.out]; have h1 := HR1a.out; have h2 := HC1a.out; exact decide_eq_true (by omega))
          have qo0 : ∀ i, wr.cell? ⟨w3.heap.size, i, none⟩ = _ := fun i => cell_of_row wr _ i _ _ (0, 0) hO.out
          have qc0 : ∀ i, wr.cell? ⟨w.heap.size + 1, i, none⟩ = _ := fun i => cell_of_row wr _ i _ _ (0, 0) hC.out
          have cO0 : wr.cell? ⟨w3.heap.size, 0, none⟩ = some (.int .i64 a) := by rw [qo0]; rfl
          have cO1 : wr.cell? ⟨w3.heap.size, 1, none⟩ = some (.int .i64 bb) := by rw [qo0]; rfl
          have cO2 : wr.cell? ⟨w3.heap.size, 2, none⟩ = some (.slice (some ⟨g, 0, none⟩) cs.length c3) := by rw [qo0]; rfl
          have cC0 : wr.cell? ⟨w.heap.size + 1, 0, none⟩ = some (.int .i64 cl.1) := by rw [qc0]; rfl
          have cC1 : wr.cell? ⟨w.heap.size + 1, 1, none⟩ = some (.int .i64 cl.2.1) := by rw [qc0]; rfl
          have cC2 : wr.cell? ⟨w.heap.size + 1, 2, none⟩ = some (.int .i64 cl.2.2.1) := by rw [qc0]; rfl
          have cC3 : wr.cell? ⟨w.heap.size + 1, 3, none⟩ = some (.bool cl.2.2.2.1) := by rw [qc0]; rfl
          have cC4 : wr.cell? ⟨w.heap.size + 1, 4, none⟩ = some (.bool cl.2.2.2.2.1) := by rw [qc0]; rfl
          have cC5 : wr.cell? ⟨w.heap.size + 1, 5, none⟩ = some (.bool cl.2.2.2.2.2) := by rw [qc0]; rfl
          have hA : (some (⟨g, 0, none⟩ : Addr)).map (·.add (p * 6)) = some ⟨g, p * 6, none⟩ := by simp [Addr.add_lit]
          have hqp' := HQP.out
          have HM := Lib.hid hmin
          clear hmin
          have hlta : (cc : Int) < a := by omega
          go_wp2_with (refine wp_min2 HC1.out rfl ⟨_, _, _, rfl, rfl, rfl⟩ ?_)
          first | (go_region_held3 (fun w' => w'.cell? ⟨w3.heap.size, 0, none⟩ = some (.int .i64 a) ∧ w'.cell? ⟨w3.heap.size, 1, none⟩ = some (.int .i64 bb) ∧ w'.cell? ⟨w3.heap.size, 2, none⟩ = some (.slice (some ⟨g, 0, none⟩) cs.length c3) ∧ w'.cell? ⟨w.heap.size + 1, 0, none⟩ = some (.int .i64 cl.1) ∧ w'.cell? ⟨w.heap.size + 1, 1, none⟩ = some (.int .i64 cl.2.1) ∧ w'.cell? ⟨w.heap.size + 1, 2, none⟩ = some (.int .i64 cl.2.2.1) ∧ w'.cell? ⟨w.heap.size + 1, 3, none⟩ = some (.bool cl.2.2.2.1) ∧ w'.cell? ⟨w.heap.size + 1, 4, none⟩ = some (.bool cl.2.2.2.2.1) ∧ w'.cell? ⟨w.heap.size + 1, 5, none⟩ = some (.bool cl.2.2.2.2.2))
            (first | with_reducible assumption | exact ⟨cell_six kO0 hgO _ _ _ _ _ _, cell_six kO1 hgO _ _ _ _ _ _, cell_six kO2 hgO _ _ _ _ _ _, cell_six kC0 hgC _ _ _ _ _ _, cell_six kC1 hgC _ _ _ _ _ _, cell_six kC2 hgC _ _ _ _ _ _, cell_six kC3 hgC _ _ _ _ _ _, cell_six kC4 hgC _ _ _ _ _ _, cell_six kC5 hgC _ _ _ _ _ _⟩ | exact ⟨by simpa using cO0, by simpa using cO1, by simpa using cO2, by simpa using cC0, by simpa using cC1, by simpa using cC2, by simpa using cC3, by simpa using cC4, by simpa using cC5⟩)
            ((go_at_call 60; refine (row_any a bb _ _ _ rr p q _ hp hq (by omega) hqb hxc hcl (by omega)).mono ?_; rintro e w5 ⟨he, hb5'⟩; rw [hA, hqp'] at he; subst he; have hb5 : Below wr.heap.size wr w5 := (Below.drew (Below.refl _ _)).trans hb5'; obtain ⟨B5, q5, r5, z5⟩ := keep_blk hb5 hB.out; obtain ⟨C5, qq5, rr5, zz5⟩ := keep_blk hb5 hC.out; obtain ⟨D5, qd5, rd5, zd5⟩ := keep_blk hb5 hD.out; obtain ⟨O5, qo5, ro5, zo5⟩ := keep_blk hb5 hO.out; have ho5 := ho.below hb5 (Nat.le_refl _); have v5 := hb.trans (hb5.mono hb.size); have zw5 := hb5.size; obtain ⟨⟨u0, x0⟩, ⟨u1, x1'⟩, ⟨u2, x2'⟩, ⟨u3, x3⟩, ⟨u4, x4⟩, ⟨u5, x5⟩, f0, f1, f2, f3, f4, f5⟩ := ho5.getA (p := p) (k := cc) hkl; have kO0 : w5.cell? ⟨w3.heap.size, 0, none⟩ = some (.int .i64 a) := (by rw [qo5]; rfl); have kO1 : w5.cell? ⟨w3.heap.size, 1, none⟩ = some (.int .i64 bb) := (by rw [qo5]; rfl); have kO2 : w5.cell? ⟨w3.heap.size, 2, none⟩ = some (.slice (some ⟨g, 0, none⟩) cs.length c3) := (by rw [qo5]; rfl); have kC0 : w5.cell? ⟨w.heap.size + 1, 0, none⟩ = some (.int .i64 cl.1) := (by rw [qq5]; rfl); have kC1 : w5.cell? ⟨w.heap.size + 1, 1, none⟩ = some (.int .i64 cl.2.1) := (by rw [qq5]; rfl); have kC2 : w5.cell? ⟨w.heap.size + 1, 2, none⟩ = some (.int .i64 cl.2.2.1) := (by rw [qq5]; rfl); have kC3 : w5.cell? ⟨w.heap.size + 1, 3, none⟩ = some (.bool cl.2.2.2.1) := (by rw [qq5]; rfl); have kC4 : w5.cell? ⟨w.heap.size + 1, 4, none⟩ = some (.bool cl.2.2.2.2.1) := (by rw [qq5]; rfl); have kC5 : w5.cell? ⟨w.heap.size + 1, 5, none⟩ = some (.bool cl.2.2.2.2.2) := (by rw [qq5]; rfl); have hkeep := And.intro kO0 (And.intro kO1 (And.intro kO2 (And.intro kC0 (And.intro kC1 (And.intro kC2 (And.intro kC3 (And.intro kC4 (kC5))))))))))) | fail
          clear hkeep
          have ho6 := ho5.setA (p := p) (k := cc) hkl cl
          have eU : (upd cs (fiF cs a x y fw fh cl) 0 (p + cc)).set (p + cc) cl = upd cs (fiF cs a x y fw fh cl) 0 (p + min (cc + 1) a) := by
            have e := upd_set (cs := cs) (f := fiF cs a x y fw fh cl) (lo := 0) (hi := p + cc) hpc (Nat.zero_le _)
            rw [HF.out] at e
            rw [e, show min (cc + 1) a = cc + 1 by omega]
            rfl
          rw [eU] at ho6
          go_wp2_with fail
          refine ⟨⟨cc + 1, by omega, by omega, by go_num, ho6, Lib.hid (heap_six B5 (by omega) _ _ _ _ _ _), Lib.hid (heap_six C5 (by omega) _ _ _ _ _ _), Lib.hid (heap_six D5 (by omega) _ _ _ _ _ _), Lib.hid (heap_six O5 (by omega) _ _ _ _ _ _), below_six v5 (by omega) _ _ _ _ _ _, by simp; omega⟩, ?_⟩
          simp [intOf]
          omega
        · have ho' := ho
          rw [fi_right (by omega) hp.out (by have := HC1a.out; omega)] at ho'
          clear ho
          go_wp2_with (refine wp_min2 HC1.out rfl ⟨_, _, _, rfl, rfl, rfl⟩ ?_)
          refine ⟨⟨rr + 1, by omega, by omega, by go_num, ho', hB, hC, hD, hO, hb, hs⟩, ?_⟩
          simp [intOf]
          omega
    · have ho' : Og wr w2.heap.size (some ⟨g, 0, none⟩) c3 (fiL cs a x y fw fh cl) := by
        have e := fi_end (cs := cs) (a := a) (bb := bb) (rr := rr) (x := x) (y := y) (fw := fw) (fh := fh) (c := cl) (by omega) HL.out (by have := HR1a.out; omega)
        rw [e] at ho
        exact ho
      clear ho
      have zr := (Array.getElem?_eq_some_iff.1 hD.out).1
      have qd0 : ∀ i, wr.cell? ⟨w.heap.size + 1 + 1, i, none⟩ = _ := fun i => cell_of_row wr _ i _ _ (0, 0) hD.out
      have rd0 : ∀ i, wr.frozen? ⟨w.heap.size + 1 + 1, i, none⟩ = false := fun i => by simp [World.frozen?, hD.out]
      have qo0 : ∀ i, wr.cell? ⟨w3.heap.size, i, none⟩ = _ := fun i => cell_of_row wr _ i _ _ (0, 0) hO.out
      go_wp2_with (refine wp_min2 HR1.out rfl ⟨_, _, _, rfl, rfl, rfl⟩ ?_)
      refine bodyPost_ret (v := gV a bb (some ⟨g, 0, none⟩) cs.length c3) (by simp [results, Try.results41, go_sem, *]) rfl ?_
      have hL : (fiL cs a x y fw fh cl).length = cs.length := upd_len
      have ho2 := (((ho'.setCell (p := ⟨w.heap.size + 1 + 1, 0, none⟩) (by first | omega | (simp; done) | (simp; omega)) (.int .i64 a)).setCell (p := ⟨w.heap.size + 1 + 1, 1, none⟩) (by first | omega | (simp; done) | (simp; omega)) (.int .i64 bb)).setCell (p := ⟨w.heap.size + 1 + 1, 2, none⟩) (by first | omega | (simp; done) | (simp; omega)) (.slice (some ⟨g, 0, none⟩) cs.length c3))
      exact ⟨_, c3, by rw [hL], ho2.mono (by omega), ho2.gs, (ho2.mono (by omega)).inB, ((hb.setCell (by first | omega | (simp; done) | (simp; omega)) _).setCell (by first | omega | (simp; done) | (simp; omega)) _).setCell (by first | omega | (simp; done) | (simp; omega)) _⟩
end Go.Proofs.Ytdmhmelmoobekaa
