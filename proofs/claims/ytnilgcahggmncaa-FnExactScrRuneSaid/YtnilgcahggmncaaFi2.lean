/- A part of a grid filled: the reference's way. -/
import Derived.Test.YtnilgcahggmncaaF1
import Derived.Test.YtnilgcahggmncaaMx
import Derived.Test.YtnilgcahggmncaaGw
namespace Go.Proofs.Ytnilgcahggmncaa
open Go.RowKit
set_option linter.unusedVariables false
set_option maxRecDepth 100000

set_option maxHeartbeats 8000000 in
theorem gridFill_spec (W H : Int) (A : Option Addr) (c : Nat) (cs : List Cl) (x y fw fh : Int) (cl : Cl) (w : World) (ha : Gs w A cs) (h1 : cs.length ≤ 1048576) :
    Calls Try.prog 108 #[gV W H A cs.length c, .int .i64 x, .int .i64 y, .int .i64 fw, .int .i64 fh, cV cl] w (GridPost w (fiR W H cs x y fw fh cl).1 (fiR W H cs x y fw fh cl).2.1 (fiR W H cs x y fw fh cl).2.2) := by
  have hb0 : Below w.heap.size w (((w.alloc (.cells #[.int .i64 W, .int .i64 H, .slice A cs.length c] 29)).alloc (.cells #[.int .i64 cl.1, .int .i64 cl.2.1, .int .i64 cl.2.2.1, .bool cl.2.2.2.1, .bool cl.2.2.2.2.1, .bool cl.2.2.2.2.2] 44)).alloc (.cells #[.int .i64 0, .int .i64 0, .slice none 0 0] 29)) := by (repeat (first | exact Below.refl _ _ | (refine Below.alloc ?_ (by first | omega | (simp; done) | (simp; omega)) _) | (refine Below.drew ?_) | (refine below_drewN ?_ _) | (refine below_at1 ?_ (by first | omega | (simp; done) | (simp; omega))) | (refine Below.setCell ?_ (by first | omega | (simp; done) | (simp; omega)) _) | (refine Below.trans ?_ (Below.mono (by assumption) (by first | omega | (simp; done) | (simp; omega))))))
  by_cases hg : gridB W H cs = true
  case neg =>
    have HG : Hid (gridB W H cs = false) := by show _ = _; simpa using hg
    have HR := Lib.hid (fi_no (W := W) (H := H) (cs := cs) (x := x) (y := y) (fw := fw) (fh := fh) (c := cl) (fun h => hg h.1))
    clear hg
    generalize fiR W H cs x y fw fh cl = R at HR ⊢
    go_enter Try.func108, Try.ntmps108
    go_wp2_with fail
    refine (gridOk_spec W H _ _ cs _ (ha.below hb0) h1).mono ?_
    rintro e w1 ⟨he, hb1⟩
    rw [HG.out] at he
    subst he
    obtain ⟨B1, q1, r1, z1⟩ := keep_blk hb1 (g := w.heap.size) (by repeat (first | assumption | exact heap_alloc_at _ (by first | rfl | (simp; done) | omega) | refine heap_alloc_of _ ?_ | refine heap_setCell_of _ (by first | omega | (simp; done) | (simp; omega)) ?_ | refine heap_setCell_same _ ?_ | exact heap_at1_same (by first | omega | (simp; done) | (simp; omega)) | refine heap_at1_of (by first | omega | (simp; done) | (simp; omega)) ?_))
    obtain ⟨C1, qq1, rr1, zz1⟩ := keep_blk hb1 (g := w.heap.size + 1) (by repeat (first | assumption | exact heap_alloc_at _ (by first | rfl | (simp; done) | omega) | refine heap_alloc_of _ ?_ | refine heap_setCell_of _ (by first | omega | (simp; done) | (simp; omega)) ?_ | refine heap_setCell_same _ ?_ | exact heap_at1_same (by first | omega | (simp; done) | (simp; omega)) | refine heap_at1_of (by first | omega | (simp; done) | (simp; omega)) ?_))
    obtain ⟨D1, qd1, rd1, zd1⟩ := keep_blk hb1 (g := w.heap.size + 1 + 1) (by repeat (first | assumption | exact heap_alloc_at _ (by first | rfl | (simp; done) | omega) | refine heap_alloc_of _ ?_ | refine heap_setCell_of _ (by first | omega | (simp; done) | (simp; omega)) ?_ | refine heap_setCell_same _ ?_ | exact heap_at1_same (by first | omega | (simp; done) | (simp; omega)) | refine heap_at1_of (by first | omega | (simp; done) | (simp; omega)) ?_))
    have t1 := hb0.trans (hb1.mono hb0.size)
    go_wp2_with fail
    exact bodyPost_ret (v := .agg #[.int .i64 0, .int .i64 0, .slice none 0 0]) (by simp [results, Try.results108, go_sem, *]) rfl (gp_nil (((t1.setCell (by first | omega | (simp; done) | (simp; omega)) _).setCell (by first | omega | (simp; done) | (simp; omega)) _).setCell (by first | omega | (simp; done) | (simp; omega)) _) R HR.out)
  obtain ⟨⟨s1, s2⟩, ⟨s3, s4⟩, s5, hl⟩ := grid_len hg
  have HG := Lib.hid hg
  clear hg
  by_cases hc : cellB cl = true
  case neg =>
    have HC : Hid (cellB cl = false) := by show _ = _; simpa using hc
    have HR := Lib.hid (fi_no (W := W) (H := H) (cs := cs) (x := x) (y := y) (fw := fw) (fh := fh) (c := cl) (fun h => hc h.2.1))
    clear hc
    generalize fiR W H cs x y fw fh cl = R at HR ⊢
    go_enter Try.func108, Try.ntmps108
    go_wp2_with fail
    refine (gridOk_spec W H _ _ cs _ (ha.below hb0) h1).mono ?_
    rintro e w1 ⟨he, hb1⟩
    rw [HG.out] at he
    subst he
    obtain ⟨B1, q1, r1, z1⟩ := keep_blk hb1 (g := w.heap.size) (by repeat (first | assumption | exact heap_alloc_at _ (by first | rfl | (simp; done) | omega) | refine heap_alloc_of _ ?_ | refine heap_setCell_of _ (by first | omega | (simp; done) | (simp; omega)) ?_ | refine heap_setCell_same _ ?_ | exact heap_at1_same (by first | omega | (simp; done) | (simp; omega)) | refine heap_at1_of (by first | omega | (simp; done) | (simp; omega)) ?_))
    obtain ⟨C1, qq1, rr1, zz1⟩ := keep_blk hb1 (g := w.heap.size + 1) (by repeat (first | assumption | exact heap_alloc_at _ (by first | rfl | (simp; done) | omega) | refine heap_alloc_of _ ?_ | refine heap_setCell_of _ (by first | omega | (simp; done) | (simp; omega)) ?_ | refine heap_setCell_same _ ?_ | exact heap_at1_same (by first | omega | (simp; done) | (simp; omega)) | refine heap_at1_of (by first | omega | (simp; done) | (simp; omega)) ?_))
    obtain ⟨D1, qd1, rd1, zd1⟩ := keep_blk hb1 (g := w.heap.size + 1 + 1) (by repeat (first | assumption | exact heap_alloc_at _ (by first | rfl | (simp; done) | omega) | refine heap_alloc_of _ ?_ | refine heap_setCell_of _ (by first | omega | (simp; done) | (simp; omega)) ?_ | refine heap_setCell_same _ ?_ | exact heap_at1_same (by first | omega | (simp; done) | (simp; omega)) | refine heap_at1_of (by first | omega | (simp; done) | (simp; omega)) ?_))
    have t1 := hb0.trans (hb1.mono hb0.size)
    go_wp2_with fail
    refine (cellOk_spec cl.1 cl.2.1 cl.2.2.1 cl.2.2.2.1 cl.2.2.2.2.1 cl.2.2.2.2.2 _).mono ?_
    rintro e w2 ⟨he, hb2⟩
    replace he : e = .returned (.bool (cellB cl)) := he
    rw [HC.out] at he
    subst he
    obtain ⟨B2, q2, r2, z2⟩ := keep_blk hb2 B1
    obtain ⟨C2, qq2, rr2, zz2⟩ := keep_blk hb2 C1
    obtain ⟨D2, qd2, rd2, zd2⟩ := keep_blk hb2 D1
    clear B1 q1 r1 C1 qq1 rr1 D1 qd1 rd1
    have t2 := t1.trans (hb2.mono t1.size)
    go_wp2_with fail
    exact bodyPost_ret (v := .agg #[.int .i64 0, .int .i64 0, .slice none 0 0]) (by simp [results, Try.results108, go_sem, *]) rfl (gp_nil (((t2.setCell (by first | omega | (simp; done) | (simp; omega)) _).setCell (by first | omega | (simp; done) | (simp; omega)) _).setCell (by first | omega | (simp; done) | (simp; omega)) _) R HR.out)
  have HC := Lib.hid hc
  clear hc
  by_cases hx : smB x = true
  case neg =>
    have HX : Hid (smB x = false) := by show _ = _; simpa using hx
    have HR := Lib.hid (fi_no (W := W) (H := H) (cs := cs) (x := x) (y := y) (fw := fw) (fh := fh) (c := cl) (fun h => hx h.2.2.1))
    clear hx
    generalize fiR W H cs x y fw fh cl = R at HR ⊢
    go_enter Try.func108, Try.ntmps108
    go_wp2_with fail
    refine (gridOk_spec W H _ _ cs _ (ha.below hb0) h1).mono ?_
    rintro e w1 ⟨he, hb1⟩
    rw [HG.out] at he
    subst he
    obtain ⟨B1, q1, r1, z1⟩ := keep_blk hb1 (g := w.heap.size) (by repeat (first | assumption | exact heap_alloc_at _ (by first | rfl | (simp; done) | omega) | refine heap_alloc_of _ ?_ | refine heap_setCell_of _ (by first | omega | (simp; done) | (simp; omega)) ?_ | refine heap_setCell_same _ ?_ | exact heap_at1_same (by first | omega | (simp; done) | (simp; omega)) | refine heap_at1_of (by first | omega | (simp; done) | (simp; omega)) ?_))
    obtain ⟨C1, qq1, rr1, zz1⟩ := keep_blk hb1 (g := w.heap.size + 1) (by repeat (first | assumption | exact heap_alloc_at _ (by first | rfl | (simp; done) | omega) | refine heap_alloc_of _ ?_ | refine heap_setCell_of _ (by first | omega | (simp; done) | (simp; omega)) ?_ | refine heap_setCell_same _ ?_ | exact heap_at1_same (by first | omega | (simp; done) | (simp; omega)) | refine heap_at1_of (by first | omega | (simp; done) | (simp; omega)) ?_))
    obtain ⟨D1, qd1, rd1, zd1⟩ := keep_blk hb1 (g := w.heap.size + 1 + 1) (by repeat (first | assumption | exact heap_alloc_at _ (by first | rfl | (simp; done) | omega) | refine heap_alloc_of _ ?_ | refine heap_setCell_of _ (by first | omega | (simp; done) | (simp; omega)) ?_ | refine heap_setCell_same _ ?_ | exact heap_at1_same (by first | omega | (simp; done) | (simp; omega)) | refine heap_at1_of (by first | omega | (simp; done) | (simp; omega)) ?_))
    have t1 := hb0.trans (hb1.mono hb0.size)
    go_wp2_with fail
    refine (cellOk_spec cl.1 cl.2.1 cl.2.2.1 cl.2.2.2.1 cl.2.2.2.2.1 cl.2.2.2.2.2 _).mono ?_
    rintro e w2 ⟨he, hb2⟩
    replace he : e = .returned (.bool (cellB cl)) := he
    rw [HC.out] at he
    subst he
    obtain ⟨B2, q2, r2, z2⟩ := keep_blk hb2 B1
    obtain ⟨C2, qq2, rr2, zz2⟩ := keep_blk hb2 C1
    obtain ⟨D2, qd2, rd2, zd2⟩ := keep_blk hb2 D1
    clear B1 q1 r1 C1 qq1 rr1 D1 qd1 rd1
    have t2 := t1.trans (hb2.mono t1.size)
    go_wp2_with fail
    refine (l07Small_any x _).mono ?_
    rintro e w' ⟨he, rfl⟩
    replace he : e = .returned (.bool (smB x)) := he
    rw [HX.out] at he
    subst he
    go_wp2_with fail
    exact bodyPost_ret (v := .agg #[.int .i64 0, .int .i64 0, .slice none 0 0]) (by simp [results, Try.results108, go_sem, *]) rfl (gp_nil (((t2.setCell (by first | omega | (simp; done) | (simp; omega)) _).setCell (by first | omega | (simp; done) | (simp; omega)) _).setCell (by first | omega | (simp; done) | (simp; omega)) _) R HR.out)
  have HX := Lib.hid hx
  by_cases hy : smB y = true
  case neg =>
    have HY : Hid (smB y = false) := by show _ = _; simpa using hy
    have HR := Lib.hid (fi_no (W := W) (H := H) (cs := cs) (x := x) (y := y) (fw := fw) (fh := fh) (c := cl) (fun h => hy h.2.2.2.1))
    clear hy
    generalize fiR W H cs x y fw fh cl = R at HR ⊢
    go_enter Try.func108, Try.ntmps108
    go_wp2_with fail
    refine (gridOk_spec W H _ _ cs _ (ha.below hb0) h1).mono ?_
    rintro e w1 ⟨he, hb1⟩
    rw [HG.out] at he
    subst he
    obtain ⟨B1, q1, r1, z1⟩ := keep_blk hb1 (g := w.heap.size) (by repeat (first | assumption | exact heap_alloc_at _ (by first | rfl | (simp; done) | omega) | refine heap_alloc_of _ ?_ | refine heap_setCell_of _ (by first | omega | (simp; done) | (simp; omega)) ?_ | refine heap_setCell_same _ ?_ | exact heap_at1_same (by first | omega | (simp; done) | (simp; omega)) | refine heap_at1_of (by first | omega | (simp; done) | (simp; omega)) ?_))
    obtain ⟨C1, qq1, rr1, zz1⟩ := keep_blk hb1 (g := w.heap.size + 1) (by repeat (first | assumption | exact heap_alloc_at _ (by first | rfl | (simp; done) | omega) | refine heap_alloc_of _ ?_ | refine heap_setCell_of _ (by first | omega | (simp; done) | (simp; omega)) ?_ | refine heap_setCell_same _ ?_ | exact heap_at1_same (by first | omega | (simp; done) | (simp; omega)) | refine heap_at1_of (by first | omega | (simp; done) | (simp; omega)) ?_))
    obtain ⟨D1, qd1, rd1, zd1⟩ := keep_blk hb1 (g := w.heap.size + 1 + 1) (by repeat (first | assumption | exact heap_alloc_at _ (by first | rfl | (simp; done) | omega) | refine heap_alloc_of _ ?_ | refine heap_setCell_of _ (by first | omega | (simp; done) | (simp; omega)) ?_ | refine heap_setCell_same _ ?_ | exact heap_at1_same (by first | omega | (simp; done) | (simp; omega)) | refine heap_at1_of (by first | omega | (simp; done) | (simp; omega)) ?_))
    have t1 := hb0.trans (hb1.mono hb0.size)
    go_wp2_with fail
    refine (cellOk_spec cl.1 cl.2.1 cl.2.2.1 cl.2.2.2.1 cl.2.2.2.2.1 cl.2.2.2.2.2 _).mono ?_
    rintro e w2 ⟨he, hb2⟩
    replace he : e = .returned (.bool (cellB cl)) := he
    rw [HC.out] at he
    subst he
    obtain ⟨B2, q2, r2, z2⟩ := keep_blk hb2 B1
    obtain ⟨C2, qq2, rr2, zz2⟩ := keep_blk hb2 C1
    obtain ⟨D2, qd2, rd2, zd2⟩ := keep_blk hb2 D1
    clear B1 q1 r1 C1 qq1 rr1 D1 qd1 rd1
    have t2 := t1.trans (hb2.mono t1.size)
    go_wp2_with fail
    refine (l07Small_any x _).mono ?_
    rintro e w' ⟨he, rfl⟩
    replace he : e = .returned (.bool (smB x)) := he
    rw [HX.out] at he
    subst he
    go_wp2_with fail
    refine (l07Small_any y _).mono ?_
    rintro e w' ⟨he, rfl⟩
    replace he : e = .returned (.bool (smB y)) := he
    rw [HY.out] at he
    subst he
    go_wp2_with fail
    exact bodyPost_ret (v := .agg #[.int .i64 0, .int .i64 0, .slice none 0 0]) (by simp [results, Try.results108, go_sem, *]) rfl (gp_nil (((t2.setCell (by first | omega | (simp; done) | (simp; omega)) _).setCell (by first | omega | (simp; done) | (simp; omega)) _).setCell (by first | omega | (simp; done) | (simp; omega)) _) R HR.out)
  have HY := Lib.hid hy
  by_cases hw : smB fw = true
  case neg =>
    have HW : Hid (smB fw = false) := by show _ = _; simpa using hw
    have HR := Lib.hid (fi_no (W := W) (H := H) (cs := cs) (x := x) (y := y) (fw := fw) (fh := fh) (c := cl) (fun h => hw h.2.2.2.2.1))
    clear hw
    generalize fiR W H cs x y fw fh cl = R at HR ⊢
    go_enter Try.func108, Try.ntmps108
    go_wp2_with fail
    refine (gridOk_spec W H _ _ cs _ (ha.below hb0) h1).mono ?_
    rintro e w1 ⟨he, hb1⟩
    rw [HG.out] at he
    subst he
    obtain ⟨B1, q1, r1, z1⟩ := keep_blk hb1 (g := w.heap.size) (by repeat (first | assumption | exact heap_alloc_at _ (by first | rfl | (simp; done) | omega) | refine heap_alloc_of _ ?_ | refine heap_setCell_of _ (by first | omega | (simp; done) | (simp; omega)) ?_ | refine heap_setCell_same _ ?_ | exact heap_at1_same (by first | omega | (simp; done) | (simp; omega)) | refine heap_at1_of (by first | omega | (simp; done) | (simp; omega)) ?_))
    obtain ⟨C1, qq1, rr1, zz1⟩ := keep_blk hb1 (g := w.heap.size + 1) (by repeat (first | assumption | exact heap_alloc_at _ (by first | rfl | (simp; done) | omega) | refine heap_alloc_of _ ?_ | refine heap_setCell_of _ (by first | omega | (simp; done) | (simp; omega)) ?_ | refine heap_setCell_same _ ?_ | exact heap_at1_same (by first | omega | (simp; done) | (simp; omega)) | refine heap_at1_of (by first | omega | (simp; done) | (simp; omega)) ?_))
    obtain ⟨D1, qd1, rd1, zd1⟩ := keep_blk hb1 (g := w.heap.size + 1 + 1) (by repeat (first | assumption | exact heap_alloc_at _ (by first | rfl | (simp; done) | omega) | refine heap_alloc_of _ ?_ | refine heap_setCell_of _ (by first | omega | (simp; done) | (simp; omega)) ?_ | refine heap_setCell_same _ ?_ | exact heap_at1_same (by first | omega | (simp; done) | (simp; omega)) | refine heap_at1_of (by first | omega | (simp; done) | (simp; omega)) ?_))
    have t1 := hb0.trans (hb1.mono hb0.size)
    go_wp2_with fail
    refine (cellOk_spec cl.1 cl.2.1 cl.2.2.1 cl.2.2.2.1 cl.2.2.2.2.1 cl.2.2.2.2.2 _).mono ?_
    rintro e w2 ⟨he, hb2⟩
    replace he : e = .returned (.bool (cellB cl)) := he
    rw [HC.out] at he
    subst he
    obtain ⟨B2, q2, r2, z2⟩ := keep_blk hb2 B1
    obtain ⟨C2, qq2, rr2, zz2⟩ := keep_blk hb2 C1
    obtain ⟨D2, qd2, rd2, zd2⟩ := keep_blk hb2 D1
    clear B1 q1 r1 C1 qq1 rr1 D1 qd1 rd1
    have t2 := t1.trans (hb2.mono t1.size)
    go_wp2_with fail
    refine (l07Small_any x _).mono ?_
    rintro e w' ⟨he, rfl⟩
    replace he : e = .returned (.bool (smB x)) := he
    rw [HX.out] at he
    subst he
    go_wp2_with fail
    refine (l07Small_any y _).mono ?_
    rintro e w' ⟨he, rfl⟩
    replace he : e = .returned (.bool (smB y)) := he
    rw [HY.out] at he
    subst he
    go_wp2_with fail
    refine (l07Small_any fw _).mono ?_
    rintro e w' ⟨he, rfl⟩
    replace he : e = .returned (.bool (smB fw)) := he
    rw [HW.out] at he
    subst he
    go_wp2_with fail
    exact bodyPost_ret (v := .agg #[.int .i64 0, .int .i64 0, .slice none 0 0]) (by simp [results, Try.results108, go_sem, *]) rfl (gp_nil (((t2.setCell (by first | omega | (simp; done) | (simp; omega)) _).setCell (by first | omega | (simp; done) | (simp; omega)) _).setCell (by first | omega | (simp; done) | (simp; omega)) _) R HR.out)
  have HW := Lib.hid hw
  by_cases hh : smB fh = true
  case neg =>
    have HH : Hid (smB fh = false) := by show _ = _; simpa using hh
    have HR := Lib.hid (fi_no (W := W) (H := H) (cs := cs) (x := x) (y := y) (fw := fw) (fh := fh) (c := cl) (fun h => hh h.2.2.2.2.2))
    clear hh
    generalize fiR W H cs x y fw fh cl = R at HR ⊢
    go_enter Try.func108, Try.ntmps108
    go_wp2_with fail
    refine (gridOk_spec W H _ _ cs _ (ha.below hb0) h1).mono ?_
    rintro e w1 ⟨he, hb1⟩
    rw [HG.out] at he
    subst he
    obtain ⟨B1, q1, r1, z1⟩ := keep_blk hb1 (g := w.heap.size) (by repeat (first | assumption | exact heap_alloc_at _ (by first | rfl | (simp; done) | omega) | refine heap_alloc_of _ ?_ | refine heap_setCell_of _ (by first | omega | (simp; done) | (simp; omega)) ?_ | refine heap_setCell_same _ ?_ | exact heap_at1_same (by first | omega | (simp; done) | (simp; omega)) | refine heap_at1_of (by first | omega | (simp; done) | (simp; omega)) ?_))
    obtain ⟨C1, qq1, rr1, zz1⟩ := keep_blk hb1 (g := w.heap.size + 1) (by repeat (first | assumption | exact heap_alloc_at _ (by first | rfl | (simp; done) | omega) | refine heap_alloc_of _ ?_ | refine heap_setCell_of _ (by first | omega | (simp; done) | (simp; omega)) ?_ | refine heap_setCell_same _ ?_ | exact heap_at1_same (by first | omega | (simp; done) | (simp; omega)) | refine heap_at1_of (by first | omega | (simp; done) | (simp; omega)) ?_))
    obtain ⟨D1, qd1, rd1, zd1⟩ := keep_blk hb1 (g := w.heap.size + 1 + 1) (by repeat (first | assumption | exact heap_alloc_at _ (by first | rfl | (simp; done) | omega) | refine heap_alloc_of _ ?_ | refine heap_setCell_of _ (by first | omega | (simp; done) | (simp; omega)) ?_ | refine heap_setCell_same _ ?_ | exact heap_at1_same (by first | omega | (simp; done) | (simp; omega)) | refine heap_at1_of (by first | omega | (simp; done) | (simp; omega)) ?_))
    have t1 := hb0.trans (hb1.mono hb0.size)
    go_wp2_with fail
    refine (cellOk_spec cl.1 cl.2.1 cl.2.2.1 cl.2.2.2.1 cl.2.2.2.2.1 cl.2.2.2.2.2 _).mono ?_
    rintro e w2 ⟨he, hb2⟩
    replace he : e = .returned (.bool (cellB cl)) := he
    rw [HC.out] at he
    subst he
    obtain ⟨B2, q2, r2, z2⟩ := keep_blk hb2 B1
    obtain ⟨C2, qq2, rr2, zz2⟩ := keep_blk hb2 C1
    obtain ⟨D2, qd2, rd2, zd2⟩ := keep_blk hb2 D1
    clear B1 q1 r1 C1 qq1 rr1 D1 qd1 rd1
    have t2 := t1.trans (hb2.mono t1.size)
    go_wp2_with fail
    refine (l07Small_any x _).mono ?_
    rintro e w' ⟨he, rfl⟩
    replace he : e = .returned (.bool (smB x)) := he
    rw [HX.out] at he
    subst he
    go_wp2_with fail
    refine (l07Small_any y _).mono ?_
    rintro e w' ⟨he, rfl⟩
    replace he : e = .returned (.bool (smB y)) := he
    rw [HY.out] at he
    subst he
    go_wp2_with fail
    refine (l07Small_any fw _).mono ?_
    rintro e w' ⟨he, rfl⟩
    replace he : e = .returned (.bool (smB fw)) := he
    rw [HW.out] at he
    subst he
    go_wp2_with fail
    refine (l07Small_any fh _).mono ?_
    rintro e w' ⟨he, rfl⟩
    replace he : e = .returned (.bool (smB fh)) := he
    rw [HH.out] at he
    subst he
    go_wp2_with fail
    exact bodyPost_ret (v := .agg #[.int .i64 0, .int .i64 0, .slice none 0 0]) (by simp [results, Try.results108, go_sem, *]) rfl (gp_nil (((t2.setCell (by first | omega | (simp; done) | (simp; omega)) _).setCell (by first | omega | (simp; done) | (simp; omega)) _).setCell (by first | omega | (simp; done) | (simp; omega)) _) R HR.out)
  have HH := Lib.hid hh
  obtain ⟨a, rfl⟩ := Int.eq_ofNat_of_zero_le (show 0 ≤ W by omega)
  obtain ⟨bb, rfl⟩ := Int.eq_ofNat_of_zero_le (show 0 ≤ H by omega)
  have hsm : ∀ n : Int, smB n = true → -100000 ≤ n ∧ n ≤ 100000 := fun n h => by simpa [smB, withinB] using h
  obtain ⟨x1, x2⟩ := hsm _ hx
  obtain ⟨y1, y2⟩ := hsm _ hy
  obtain ⟨fw1, fw2⟩ := hsm _ hw
  obtain ⟨fh1, fh2⟩ := hsm _ hh
  have hlN : cs.length = bb * a := by
    have h : ((bb * a : Nat) : Int) = (a : Int) * bb := by rw [Int.mul_comm]; simp
    omega
  have hcl : cs.length ≤ 4000 := by omega
  have ha1 : 1 ≤ a := by omega
  have hbb1 : 1 ≤ bb := by omega
  have hcl0 : 0 < cs.length := by
    have := (row_bd (a := a) (b := bb) (k := 0) (j := 0) (by omega) (by omega)).1
    omega
  have HL := Lib.hid hlN
  clear hsm hx hy hw hh hl hlN s5
  have HR : Hid (fiR a bb cs x y fw fh cl = ((a : Int), (bb : Int), fiL cs a x y fw fh cl)) := by
    show _ = _
    rw [fiR, if_pos ⟨HG.out, HC.out, HX.out, HY.out, HW.out, HH.out⟩]
    rfl
  rw [HR.out]
  clear HR
  show Calls _ _ _ _ (GridPost w (a : Int) (bb : Int) (fiL cs a x y fw fh cl))
  go_enter Try.func108, Try.ntmps108
  go_wp2_with fail
  refine (gridOk_spec a bb _ _ cs _ (ha.below hb0) h1).mono ?_
  rintro e w1 ⟨he, hb1⟩
  rw [HG.out] at he
  subst he
  obtain ⟨B1, q1, r1, z1⟩ := keep_blk hb1 (g := w.heap.size) (by repeat (first | assumption | exact heap_alloc_at _ (by first | rfl | (simp; done) | omega) | refine heap_alloc_of _ ?_ | refine heap_setCell_of _ (by first | omega | (simp; done) | (simp; omega)) ?_ | refine heap_setCell_same _ ?_ | exact heap_at1_same (by first | omega | (simp; done) | (simp; omega)) | refine heap_at1_of (by first | omega | (simp; done) | (simp; omega)) ?_))
  obtain ⟨C1, qq1, rr1, zz1⟩ := keep_blk hb1 (g := w.heap.size + 1) (by repeat (first | assumption | exact heap_alloc_at _ (by first | rfl | (simp; done) | omega) | refine heap_alloc_of _ ?_ | refine heap_setCell_of _ (by first | omega | (simp; done) | (simp; omega)) ?_ | refine heap_setCell_same _ ?_ | exact heap_at1_same (by first | omega | (simp; done) | (simp; omega)) | refine heap_at1_of (by first | omega | (simp; done) | (simp; omega)) ?_))
  obtain ⟨D1, qd1, rd1, zd1⟩ := keep_blk hb1 (g := w.heap.size + 1 + 1) (by repeat (first | assumption | exact heap_alloc_at _ (by first | rfl | (simp; done) | omega) | refine heap_alloc_of _ ?_ | refine heap_setCell_of _ (by first | omega | (simp; done) | (simp; omega)) ?_ | refine heap_setCell_same _ ?_ | exact heap_at1_same (by first | omega | (simp; done) | (simp; omega)) | refine heap_at1_of (by first | omega | (simp; done) | (simp; omega)) ?_))
  have t1 := hb0.trans (hb1.mono hb0.size)
  go_wp2_with fail
  refine (cellOk_spec cl.1 cl.2.1 cl.2.2.1 cl.2.2.2.1 cl.2.2.2.2.1 cl.2.2.2.2.2 _).mono ?_
  rintro e w2 ⟨he, hb2⟩
  replace he : e = .returned (.bool (cellB cl)) := he
  rw [HC.out] at he
  subst he
  obtain ⟨B2, q2, r2, z2⟩ := keep_blk hb2 B1
  obtain ⟨C2, qq2, rr2, zz2⟩ := keep_blk hb2 C1
  obtain ⟨D2, qd2, rd2, zd2⟩ := keep_blk hb2 D1
  clear B1 q1 r1 C1 qq1 rr1 D1 qd1 rd1
  have t2 := t1.trans (hb2.mono t1.size)
  go_wp2_with fail
  refine (l07Small_any x _).mono ?_
  rintro e w' ⟨he, rfl⟩
  replace he : e = .returned (.bool (smB x)) := he
  rw [HX.out] at he
  subst he
  go_wp2_with fail
  refine (l07Small_any y _).mono ?_
  rintro e w' ⟨he, rfl⟩
  replace he : e = .returned (.bool (smB y)) := he
  rw [HY.out] at he
  subst he
  go_wp2_with fail
  refine (l07Small_any fw _).mono ?_
  rintro e w' ⟨he, rfl⟩
  replace he : e = .returned (.bool (smB fw)) := he
  rw [HW.out] at he
  subst he
  go_wp2_with fail
  refine (l07Small_any fh _).mono ?_
  rintro e w' ⟨he, rfl⟩
  replace he : e = .returned (.bool (smB fh)) := he
  rw [HH.out] at he
  subst he
  go_wp2_with fail
  refine (l07Copy_any a bb _ _ cs _ (ha.below t2) hcl0 h1).mono ?_
  rintro e w3 ⟨A3, c3, rfl, ho3, hs3, hi3, hb3⟩
  obtain ⟨B3, q3, r3, z3⟩ := keep_blk hb3 B2
  obtain ⟨C3, qq3, rr3, zz3⟩ := keep_blk hb3 C2
  obtain ⟨D3, qd3, rd3, zd3⟩ := keep_blk hb3 D2
  clear B2 q2 r2 C2 qq2 rr2 D2 qd2 rd2 hs3 hi3
  have t3 := t2.trans (hb3.mono t2.size)
  obtain ⟨g, rfl, hlo, hcm, hxc, _⟩ := ho3.fill hcl0
  have hgl := (ho3.lt g rfl).2
  go_wp2_with fail
  obtain ⟨w4, hw4⟩ : ∃ w4, w4 = w3.alloc (.cells #[.int .i64 a, .int .i64 bb, .slice (some ⟨g, 0, none⟩) cs.length c3] 29) := ⟨_, rfl⟩
  rw [← hw4]
  have HB4 : Hid (w4.heap[w.heap.size]? = (some (.cells #[.int .i64 a, .int .i64 bb, .slice A cs.length c] 29 (0, 0)))) := by subst hw4; exact heap_alloc_of _ B3
  have HC4 : Hid (w4.heap[w.heap.size + 1]? = (some (.cells #[.int .i64 cl.1, .int .i64 cl.2.1, .int .i64 cl.2.2.1, .bool cl.2.2.2.1, .bool cl.2.2.2.2.1, .bool cl.2.2.2.2.2] 44 (0, 0)))) := by subst hw4; exact heap_alloc_of _ C3
  have HD4 : Hid (w4.heap[w.heap.size + 1 + 1]? = (some (.cells #[.int .i64 0, .int .i64 0, .slice none 0 0] 29 (0, 0)))) := by subst hw4; exact heap_alloc_of _ D3
  have HO4 : Hid (w4.heap[w3.heap.size]? = (some (.cells #[.int .i64 a, .int .i64 bb, .slice (some ⟨g, 0, none⟩) cs.length c3] 29 (0, 0)))) := by subst hw4; exact heap_alloc_new _ _
  have ho4 : Og w4 w2.heap.size (some ⟨g, 0, none⟩) c3 cs := by subst hw4; exact ho3.alloc _
  have t4 : Below w.heap.size w w4 := by subst hw4; exact t3.alloc t3.size _
  have hsz : w3.heap.size < w4.heap.size := by subst hw4; simp
  have hgB : ¬ w.heap.size = g := by omega
  have hgC : ¬ w.heap.size + 1 = g := by omega
  have hgD : ¬ w.heap.size + 1 + 1 = g := by omega
  have hgO : ¬ w3.heap.size = g := by omega
  clear hw4 B3 C3 D3 q3 r3 qq3 rr3 qd3 rd3 hb0 hb1 hb2 hb3
  go_loopw [51] (fun i wr => ∃ k : Nat, k ≤ cs.length ∧ i = .int .i64 k ∧ Og wr w2.heap.size (some ⟨g, 0, none⟩) c3 (upd cs (fiF cs a x y fw fh cl) 0 k) ∧ Hid (wr.heap[w.heap.size]? = (some (.cells #[.int .i64 a, .int .i64 bb, .slice A cs.length c] 29 (0, 0)))) ∧ Hid (wr.heap[w.heap.size + 1]? = (some (.cells #[.int .i64 cl.1, .int .i64 cl.2.1, .int .i64 cl.2.2.1, .bool cl.2.2.2.1, .bool cl.2.2.2.2.1, .bool cl.2.2.2.2.2] 44 (0, 0)))) ∧ Hid (wr.heap[w.heap.size + 1 + 1]? = (some (.cells #[.int .i64 0, .int .i64 0, .slice none 0 0] 29 (0, 0)))) ∧ Hid (wr.heap[w3.heap.size]? = (some (.cells #[.int .i64 a, .int .i64 bb, .slice (some ⟨g, 0, none⟩) cs.length c3] 29 (0, 0)))) ∧ Below w.heap.size w wr ∧ w4.heap.size ≤ wr.heap.size) (fun i _ => cs.length - (intOf i).toNat)
  case atStart => exact ⟨0, Nat.zero_le _, rfl, by rw [upd_self]; exact ho4, HB4, HC4, HD4, HO4, t4, Nat.le_refl _⟩
  case round =>
    clear ho4 HB4 HC4 HD4 HO4
    obtain ⟨k, hk, rfl, ho, hB, hC, hD, hO, hb, hs⟩ := hrel
    by_cases hlt : k < cs.length
    · obtain ⟨col, hcol⟩ : ∃ col, Hid (col = k % a) := ⟨_, rfl⟩
      obtain ⟨ro, hro⟩ : ∃ ro, Hid (ro = k / a) := ⟨_, rfl⟩
      have em : Int.tmod (k : Int) (a : Int) = (col : Int) := by rw [hcol.out]; exact (Int.ofNat_tmod _ _).symm
      have ed : Int.tdiv (k : Int) (a : Int) = (ro : Int) := by rw [hro.out]; exact (Int.ofNat_tdiv _ _).symm
      have em2 : (k : Int) % (a : Int) = (col : Int) := by rw [hcol.out]; simp
      have ed2 : (k : Int) / (a : Int) = (ro : Int) := by rw [hro.out]; simp
      have hcb : col < a := by rw [hcol.out]; exact Nat.mod_lt _ (by omega)
      have hrb : ro ≤ k := by rw [hro.out]; exact Nat.div_le_self _ _
      have hkl : k < (upd cs (fiF cs a x y fw fh cl) 0 k).length := by rw [upd_len]; exact hlt
      have hlt' : (k : Int) < cs.length := by omega
      have hIN : fiIn a x y fw fh k = decide ((x ≤ (col : Int) ∧ (col : Int) < x + fw) ∧ y ≤ (ro : Int) ∧ (ro : Int) < y + fh) := by rw [fiIn, hcol.out, hro.out]
      have HIN := Lib.hid hIN
      clear hIN
      have qb0 : ∀ i, wr.cell? ⟨w.heap.size, i, none⟩ = _ := fun i => cell_of_row wr _ i _ _ (0, 0) hB.out
      have qc0 : ∀ i, wr.cell? ⟨w.heap.size + 1, i, none⟩ = _ := fun i => cell_of_row wr _ i _ _ (0, 0) hC.out
      have qo0 : ∀ i, wr.cell? ⟨w3.heap.size, i, none⟩ = _ := fun i => cell_of_row wr _ i _ _ (0, 0) hO.out
      by_cases hin : (x ≤ (col : Int) ∧ (col : Int) < x + fw) ∧ y ≤ (ro : Int) ∧ (ro : Int) < y + fh
      · have HF := Lib.hid (fi_set (cs := cs) (a := a) (x := x) (y := y) (fw := fw) (fh := fh) (c := cl) (i := k) hlt (by rw [HIN.out]; exact decide_eq_true hin))
        obtain ⟨⟨i1, i2⟩, i3, i4⟩ := hin
        obtain ⟨⟨u0, x0⟩, ⟨u1, x1'⟩, ⟨u2, x2'⟩, ⟨u3, x3⟩, ⟨u4, x4⟩, ⟨u5, x5⟩, f0, f1, f2, f3, f4, f5⟩ := ho.getB (k := k) hkl
        go_wp2_with fail
        have ho6 := ho.set (k := k) hkl cl
        rw [HF.out] at ho6
        go_roundw
        case rel => exact ⟨k + 1, by omega, by go_num, ho6, Lib.hid (heap_six hB.out (by omega) _ _ _ _ _ _), Lib.hid (heap_six hC.out (by omega) _ _ _ _ _ _), Lib.hid (heap_six hD.out (by omega) _ _ _ _ _ _), Lib.hid (heap_six hO.out (by omega) _ _ _ _ _ _), below_six hb (by omega) _ _ _ _ _ _, by simp; omega⟩
        case measure => simp [intOf]; omega
      · have HF := Lib.hid (fi_skip (cs := cs) (a := a) (x := x) (y := y) (fw := fw) (fh := fh) (c := cl) (i := k) (i' := k + 1) (by omega) (fun j j1 j2 j3 => by obtain rfl : j = k := (by omega); rw [HIN.out]; exact decide_eq_false hin))
        have ho6 := ho
        rw [HF.out] at ho6
        clear ho
        have skip : ∀ {p : Prop}, p → p := fun h => h
        by_cases c1 : x ≤ (col : Int)
        case neg =>
          clear hin skip
          go_wp2_with fail
          go_roundw
          case rel => exact ⟨k + 1, by omega, by go_num, ho6, hB, hC, hD, hO, hb, hs⟩
          case measure => simp [intOf]; omega
        by_cases c2 : (col : Int) < x + fw
        case neg =>
          clear hin skip
          go_wp2_with fail
          go_roundw
          case rel => exact ⟨k + 1, by omega, by go_num, ho6, hB, hC, hD, hO, hb, hs⟩
          case measure => simp [intOf]; omega
        by_cases c3' : y ≤ (ro : Int)
        case neg =>
          clear hin skip
          go_wp2_with fail
          go_roundw
          case rel => exact ⟨k + 1, by omega, by go_num, ho6, hB, hC, hD, hO, hb, hs⟩
          case measure => simp [intOf]; omega
        have c4 : ¬ (ro : Int) < y + fh := fun h => hin ⟨⟨c1, c2⟩, c3', h⟩
        clear hin skip
        go_wp2_with fail
        go_roundw
        case rel => exact ⟨k + 1, by omega, by go_num, ho6, hB, hC, hD, hO, hb, hs⟩
        case measure => simp [intOf]; omega
    · have hkk : k = cs.length := by omega
      have ho' : Og wr w2.heap.size (some ⟨g, 0, none⟩) c3 (fiL cs a x y fw fh cl) := by rw [hkk] at ho; exact ho
      have hlt' : ¬ (k : Int) < cs.length := by omega
      clear hkk ho
      have zr := (Array.getElem?_eq_some_iff.1 hD.out).1
      have qd0 : ∀ i, wr.cell? ⟨w.heap.size + 1 + 1, i, none⟩ = _ := fun i => cell_of_row wr _ i _ _ (0, 0) hD.out
      have rd0 : ∀ i, wr.frozen? ⟨w.heap.size + 1 + 1, i, none⟩ = false := fun i => by simp [World.frozen?, hD.out]
      have qo0 : ∀ i, wr.cell? ⟨w3.heap.size, i, none⟩ = _ := fun i => cell_of_row wr _ i _ _ (0, 0) hO.out
      go_wp2_with fail
      refine bodyPost_ret (v := gV a bb (some ⟨g, 0, none⟩) cs.length c3) (by simp [results, Try.results108, go_sem, *]) rfl ?_
      have hL : (fiL cs a x y fw fh cl).length = cs.length := upd_len
      have ho2 := (((ho'.setCell (p := ⟨w.heap.size + 1 + 1, 0, none⟩) (by first | omega | (simp; done) | (simp; omega)) (.int .i64 a)).setCell (p := ⟨w.heap.size + 1 + 1, 1, none⟩) (by first | omega | (simp; done) | (simp; omega)) (.int .i64 bb)).setCell (p := ⟨w.heap.size + 1 + 1, 2, none⟩) (by first | omega | (simp; done) | (simp; omega)) (.slice (some ⟨g, 0, none⟩) cs.length c3))
      exact ⟨_, c3, by rw [hL], ho2.mono (by omega), ho2.gs, (ho2.mono (by omega)).inB, ((hb.setCell (by first | omega | (simp; done) | (simp; omega)) _).setCell (by first | omega | (simp; done) | (simp; omega)) _).setCell (by first | omega | (simp; done) | (simp; omega)) _⟩
end Go.Proofs.Ytnilgcahggmncaa
