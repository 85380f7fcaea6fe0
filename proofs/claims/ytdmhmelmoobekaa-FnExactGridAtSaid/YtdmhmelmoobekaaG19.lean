/- A cell of a grid: the reference's way. -/
import Derived.Test.YtdmhmelmoobekaaG18
namespace Go.Proofs.Ytdmhmelmoobekaa
open Go.RowKit
set_option linter.unusedVariables false
set_option maxRecDepth 100000

set_option maxHeartbeats 1000000 in
theorem gridAt_spec (W H : Int) (A : Option Addr) (c : Nat) (cs : List Cl) (x y : Int) (w : World) (ha : Gs w A cs) (h1 : cs.length ≤ 1048576) :
    Calls Try.prog 16 #[gV W H A cs.length c, .int .i64 x, .int .i64 y] w fun e w' => e = .returned (cV (gatR W H cs x y)) ∧ Below w.heap.size w w' := by
  have hb0 : Below w.heap.size w ((w.alloc (.cells #[.int .i64 W, .int .i64 H, .slice A cs.length c] 33)).alloc (.cells #[.int .i64 0, .int .i64 0, .int .i64 0, .bool false, .bool false, .bool false] 29)) := by (repeat (first | exact Below.refl _ _ | (refine Below.alloc ?_ (by first | omega | (simp; done) | (simp; omega)) _) | (refine Below.drew ?_) | (refine below_drewN ?_ _) | (refine below_at1 ?_ (by first | omega | (simp; done) | (simp; omega))) | (refine Below.setCell ?_ (by first | omega | (simp; done) | (simp; omega)) _) | (refine Below.trans ?_ (Below.mono (by assumption) (by first | omega | (simp; done) | (simp; omega))))))
  by_cases hg : gridB W H cs = true
  case neg =>
    have HG : Hid (gridB W H cs = false) := by show _ = _; simpa using hg
    have HR := Lib.hid (gat_no (x := x) (y := y) (fun h => hg h.1))
    clear hg
    go_enter Try.func16, Try.ntmps16
    go_wp2_with fail
    refine (gridOk_spec W H _ _ cs _ (ha.below hb0) h1).mono ?_
    rintro e w1 ⟨he, hb1⟩
    rw [HG.out] at he
    subst he
    obtain ⟨B1, q1, r1, z1⟩ := keep_blk hb1 (g := w.heap.size) (by repeat (first | assumption | exact heap_alloc_at _ (by first | rfl | (simp; done) | omega) | refine heap_alloc_of _ ?_ | refine heap_setCell_of _ (by first | omega | (simp; done) | (simp; omega)) ?_ | refine heap_setCell_same _ ?_ | exact heap_at1_same (by first | omega | (simp; done) | (simp; omega)) | refine heap_at1_of (by first | omega | (simp; done) | (simp; omega)) ?_))
    obtain ⟨C1, qq1, rr1, zz1⟩ := keep_blk hb1 (g := w.heap.size + 1) (by repeat (first | assumption | exact heap_alloc_at _ (by first | rfl | (simp; done) | omega) | refine heap_alloc_of _ ?_ | refine heap_setCell_of _ (by first | omega | (simp; done) | (simp; omega)) ?_ | refine heap_setCell_same _ ?_ | exact heap_at1_same (by first | omega | (simp; done) | (simp; omega)) | refine heap_at1_of (by first | omega | (simp; done) | (simp; omega)) ?_))
    have t1 := hb0.trans (hb1.mono hb0.size)
    go_wp2_with fail
    exact bodyPost_ret (v := cV cl0) (by simp [results, Try.results16, go_sem, *]) rfl ⟨by rw [HR.out], ((((((t1.setCell (by first | omega | (simp; done) | (simp; omega)) _).setCell (by first | omega | (simp; done) | (simp; omega)) _).setCell (by first | omega | (simp; done) | (simp; omega)) _).setCell (by first | omega | (simp; done) | (simp; omega)) _).setCell (by first | omega | (simp; done) | (simp; omega)) _).setCell (by first | omega | (simp; done) | (simp; omega)) _)⟩
  obtain ⟨⟨s1, s2⟩, ⟨s3, s4⟩, s5, hl⟩ := grid_len hg
  have HG := Lib.hid hg
  have HLL := Lib.hid hl
  have H55 := Lib.hid s5
  clear hg hl s5
  by_cases k0 : x < 0
  · have HR := Lib.hid (gat_no (W := W) (H := H) (cs := cs) (x := x) (y := y) (fun h => by have h2 := h.2; clear h; omega))
    go_enter Try.func16, Try.ntmps16
    go_wp2_with fail
    refine (gridOk_spec W H _ _ cs _ (ha.below hb0) h1).mono ?_
    rintro e w1 ⟨he, hb1⟩
    rw [HG.out] at he
    subst he
    obtain ⟨B1, q1, r1, z1⟩ := keep_blk hb1 (g := w.heap.size) (by repeat (first | assumption | exact heap_alloc_at _ (by first | rfl | (simp; done) | omega) | refine heap_alloc_of _ ?_ | refine heap_setCell_of _ (by first | omega | (simp; done) | (simp; omega)) ?_ | refine heap_setCell_same _ ?_ | exact heap_at1_same (by first | omega | (simp; done) | (simp; omega)) | refine heap_at1_of (by first | omega | (simp; done) | (simp; omega)) ?_))
    obtain ⟨C1, qq1, rr1, zz1⟩ := keep_blk hb1 (g := w.heap.size + 1) (by repeat (first | assumption | exact heap_alloc_at _ (by first | rfl | (simp; done) | omega) | refine heap_alloc_of _ ?_ | refine heap_setCell_of _ (by first | omega | (simp; done) | (simp; omega)) ?_ | refine heap_setCell_same _ ?_ | exact heap_at1_same (by first | omega | (simp; done) | (simp; omega)) | refine heap_at1_of (by first | omega | (simp; done) | (simp; omega)) ?_))
    have t1 := hb0.trans (hb1.mono hb0.size)
    go_wp2_with fail
    exact bodyPost_ret (v := cV cl0) (by simp [results, Try.results16, go_sem, *]) rfl ⟨by rw [HR.out], ((((((t1.setCell (by first | omega | (simp; done) | (simp; omega)) _).setCell (by first | omega | (simp; done) | (simp; omega)) _).setCell (by first | omega | (simp; done) | (simp; omega)) _).setCell (by first | omega | (simp; done) | (simp; omega)) _).setCell (by first | omega | (simp; done) | (simp; omega)) _).setCell (by first | omega | (simp; done) | (simp; omega)) _)⟩
  by_cases k1 : W ≤ x
  · have HR := Lib.hid (gat_no (W := W) (H := H) (cs := cs) (x := x) (y := y) (fun h => by have h2 := h.2; clear h; omega))
    go_enter Try.func16, Try.ntmps16
    go_wp2_with fail
    refine (gridOk_spec W H _ _ cs _ (ha.below hb0) h1).mono ?_
    rintro e w1 ⟨he, hb1⟩
    rw [HG.out] at he
    subst he
    obtain ⟨B1, q1, r1, z1⟩ := keep_blk hb1 (g := w.heap.size) (by repeat (first | assumption | exact heap_alloc_at _ (by first | rfl | (simp; done) | omega) | refine heap_alloc_of _ ?_ | refine heap_setCell_of _ (by first | omega | (simp; done) | (simp; omega)) ?_ | refine heap_setCell_same _ ?_ | exact heap_at1_same (by first | omega | (simp; done) | (simp; omega)) | refine heap_at1_of (by first | omega | (simp; done) | (simp; omega)) ?_))
    obtain ⟨C1, qq1, rr1, zz1⟩ := keep_blk hb1 (g := w.heap.size + 1) (by repeat (first | assumption | exact heap_alloc_at _ (by first | rfl | (simp; done) | omega) | refine heap_alloc_of _ ?_ | refine heap_setCell_of _ (by first | omega | (simp; done) | (simp; omega)) ?_ | refine heap_setCell_same _ ?_ | exact heap_at1_same (by first | omega | (simp; done) | (simp; omega)) | refine heap_at1_of (by first | omega | (simp; done) | (simp; omega)) ?_))
    have t1 := hb0.trans (hb1.mono hb0.size)
    go_wp2_with fail
    exact bodyPost_ret (v := cV cl0) (by simp [results, Try.results16, go_sem, *]) rfl ⟨by rw [HR.out], ((((((t1.setCell (by first | omega | (simp; done) | (simp; omega)) _).setCell (by first | omega | (simp; done) | (simp; omega)) _).setCell (by first | omega | (simp; done) | (simp; omega)) _).setCell (by first | omega | (simp; done) | (simp; omega)) _).setCell (by first | omega | (simp; done) | (simp; omega)) _).setCell (by first | omega | (simp; done) | (simp; omega)) _)⟩
  by_cases k2 : y < 0
  · have HR := Lib.hid (gat_no (W := W) (H := H) (cs := cs) (x := x) (y := y) (fun h => by have h2 := h.2; clear h; omega))
    go_enter Try.func16, Try.ntmps16
    go_wp2_with fail
    refine (gridOk_spec W H _ _ cs _ (ha.below hb0) h1).mono ?_
    rintro e w1 ⟨he, hb1⟩
    rw [HG.out] at he
    subst he
    obtain ⟨B1, q1, r1, z1⟩ := keep_blk hb1 (g := w.heap.size) (by repeat (first | assumption | exact heap_alloc_at _ (by first | rfl | (simp; done) | omega) | refine heap_alloc_of _ ?_ | refine heap_setCell_of _ (by first | omega | (simp; done) | (simp; omega)) ?_ | refine heap_setCell_same _ ?_ | exact heap_at1_same (by first | omega | (simp; done) | (simp; omega)) | refine heap_at1_of (by first | omega | (simp; done) | (simp; omega)) ?_))
    obtain ⟨C1, qq1, rr1, zz1⟩ := keep_blk hb1 (g := w.heap.size + 1) (by repeat (first | assumption | exact heap_alloc_at _ (by first | rfl | (simp; done) | omega) | refine heap_alloc_of _ ?_ | refine heap_setCell_of _ (by first | omega | (simp; done) | (simp; omega)) ?_ | refine heap_setCell_same _ ?_ | exact heap_at1_same (by first | omega | (simp; done) | (simp; omega)) | refine heap_at1_of (by first | omega | (simp; done) | (simp; omega)) ?_))
    have t1 := hb0.trans (hb1.mono hb0.size)
    go_wp2_with fail
    exact bodyPost_ret (v := cV cl0) (by simp [results, Try.results16, go_sem, *]) rfl ⟨by rw [HR.out], ((((((t1.setCell (by first | omega | (simp; done) | (simp; omega)) _).setCell (by first | omega | (simp; done) | (simp; omega)) _).setCell (by first | omega | (simp; done) | (simp; omega)) _).setCell (by first | omega | (simp; done) | (simp; omega)) _).setCell (by first | omega | (simp; done) | (simp; omega)) _).setCell (by first | omega | (simp; done) | (simp; omega)) _)⟩
  by_cases k3 : H ≤ y
  · have HR := Lib.hid (gat_no (W := W) (H := H) (cs := cs) (x := x) (y := y) (fun h => by have h2 := h.2; clear h; omega))
    go_enter Try.func16, Try.ntmps16
    go_wp2_with fail
    refine (gridOk_spec W H _ _ cs _ (ha.below hb0) h1).mono ?_
    rintro e w1 ⟨he, hb1⟩
    rw [HG.out] at he
    subst he
    obtain ⟨B1, q1, r1, z1⟩ := keep_blk hb1 (g := w.heap.size) (by repeat (first | assumption | exact heap_alloc_at _ (by first | rfl | (simp; done) | omega) | refine heap_alloc_of _ ?_ | refine heap_setCell_of _ (by first | omega | (simp; done) | (simp; omega)) ?_ | refine heap_setCell_same _ ?_ | exact heap_at1_same (by first | omega | (simp; done) | (simp; omega)) | refine heap_at1_of (by first | omega | (simp; done) | (simp; omega)) ?_))
    obtain ⟨C1, qq1, rr1, zz1⟩ := keep_blk hb1 (g := w.heap.size + 1) (by repeat (first | assumption | exact heap_alloc_at _ (by first | rfl | (simp; done) | omega) | refine heap_alloc_of _ ?_ | refine heap_setCell_of _ (by first | omega | (simp; done) | (simp; omega)) ?_ | refine heap_setCell_same _ ?_ | exact heap_at1_same (by first | omega | (simp; done) | (simp; omega)) | refine heap_at1_of (by first | omega | (simp; done) | (simp; omega)) ?_))
    have t1 := hb0.trans (hb1.mono hb0.size)
    go_wp2_with fail
    exact bodyPost_ret (v := cV cl0) (by simp [results, Try.results16, go_sem, *]) rfl ⟨by rw [HR.out], ((((((t1.setCell (by first | omega | (simp; done) | (simp; omega)) _).setCell (by first | omega | (simp; done) | (simp; omega)) _).setCell (by first | omega | (simp; done) | (simp; omega)) _).setCell (by first | omega | (simp; done) | (simp; omega)) _).setCell (by first | omega | (simp; done) | (simp; omega)) _).setCell (by first | omega | (simp; done) | (simp; omega)) _)⟩
  obtain ⟨a, rfl⟩ := Int.eq_ofNat_of_zero_le (show 0 ≤ W by omega)
  obtain ⟨bb, rfl⟩ := Int.eq_ofNat_of_zero_le (show 0 ≤ H by omega)
  obtain ⟨j, rfl⟩ := Int.eq_ofNat_of_zero_le (show 0 ≤ x by omega)
  obtain ⟨k, rfl⟩ := Int.eq_ofNat_of_zero_le (show 0 ≤ y by omega)
  have hj : j < a := by omega
  have hk : k < bb := by omega
  have hbig : cs.length ≤ 4000 := by
    have h5 := H55.out
    have hl := HLL.out
    omega
  have hlN : cs.length = bb * a := by
    have hl := HLL.out
    have h : ((bb * a : Nat) : Int) = (a : Int) * bb := by rw [Int.mul_comm]; simp
    omega
  obtain ⟨rb1, rb2⟩ := row_bd hk hj
  obtain ⟨p, hp⟩ : ∃ p, Hid (p = k * a) := ⟨_, rfl⟩
  obtain ⟨i, hi⟩ : ∃ i, Hid (i = p + j) := ⟨_, rfl⟩
  have hib : i < cs.length := by rw [hlN, hi.out, hp.out]; exact rb1
  have hpi : p ≤ i := by rw [hi.out]; omega
  have hcl := hbig
  have HR : Hid (gatR a bb cs j k = cs[i]) := by
    show _ = _
    rw [gatR, if_pos ⟨HG.out, ⟨⟨by omega, by omega⟩, ⟨by omega, by omega⟩⟩⟩]
    have e : ((k : Int) * (a : Int) + (j : Int)).toNat = i := by
      have h2 : ((k * a : Nat) : Int) = (k : Int) * (a : Int) := by simp
      rw [← h2, ← hp.out, hi.out]
      omega
    rw [e, List.getElem?_eq_getElem hib]
    rfl
  have e2 : wrap64 ((p : Int) + (j : Int)) = (i : Int) := (w64 (n := (p : Int) + (j : Int)) ⟨by omega, by omega⟩).trans (by have h := hi.out; omega)
  have e3 : (p : Int) + (j : Int) = (i : Int) := by have h := hi.out; omega
  have hib' : (i : Int) < cs.length := by omega
  have e1 := mul_nat hp.out (by omega)
  clear hlN rb1 rb2 hbig
  go_enter Try.func16, Try.ntmps16
  go_wp2_with fail
  refine (gridOk_spec a bb _ _ cs _ (ha.below hb0) h1).mono ?_
  rintro e w1 ⟨he, hb1⟩
  rw [HG.out] at he
  subst he
  obtain ⟨B1, q1, r1, z1⟩ := keep_blk hb1 (g := w.heap.size) (by repeat (first | assumption | exact heap_alloc_at _ (by first | rfl | (simp; done) | omega) | refine heap_alloc_of _ ?_ | refine heap_setCell_of _ (by first | omega | (simp; done) | (simp; omega)) ?_ | refine heap_setCell_same _ ?_ | exact heap_at1_same (by first | omega | (simp; done) | (simp; omega)) | refine heap_at1_of (by first | omega | (simp; done) | (simp; omega)) ?_))
  obtain ⟨C1, qq1, rr1, zz1⟩ := keep_blk hb1 (g := w.heap.size + 1) (by repeat (first | assumption | exact heap_alloc_at _ (by first | rfl | (simp; done) | omega) | refine heap_alloc_of _ ?_ | refine heap_setCell_of _ (by first | omega | (simp; done) | (simp; omega)) ?_ | refine heap_setCell_same _ ?_ | exact heap_at1_same (by first | omega | (simp; done) | (simp; omega)) | refine heap_at1_of (by first | omega | (simp; done) | (simp; omega)) ?_))
  have t1 := hb0.trans (hb1.mono hb0.size)
  obtain ⟨b, o, rfl, hbs, x0, x1, x2, x3, x4, x5⟩ := (ha.below t1).get hib
  go_wp2_with fail
  exact bodyPost_ret (v := cV cs[i]) (by simp [results, Try.results16, go_sem, *]) rfl ⟨by rw [HR.out], ((((((t1.setCell (by first | omega | (simp; done) | (simp; omega)) _).setCell (by first | omega | (simp; done) | (simp; omega)) _).setCell (by first | omega | (simp; done) | (simp; omega)) _).setCell (by first | omega | (simp; done) | (simp; omega)) _).setCell (by first | omega | (simp; done) | (simp; omega)) _).setCell (by first | omega | (simp; done) | (simp; omega)) _)⟩
end Go.Proofs.Ytdmhmelmoobekaa
