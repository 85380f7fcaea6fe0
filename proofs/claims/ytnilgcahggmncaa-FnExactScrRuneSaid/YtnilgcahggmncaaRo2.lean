/- Rows of a grid scrolled: the reference's way. -/
import Derived.Test.YtnilgcahggmncaaRq
namespace Go.Proofs.Ytnilgcahggmncaa
open Go.RowKit
set_option linter.unusedVariables false
set_option maxRecDepth 100000

set_option maxHeartbeats 8000000 in
theorem gridRoll_spec (W H : Int) (A : Option Addr) (c : Nat) (cs : List Cl) (x y n : Int) (w : World) (ha : Gs w A cs) (h1 : cs.length ≤ 1048576) :
    Calls Try.prog 101 #[gV W H A cs.length c, .int .i64 x, .int .i64 y, .int .i64 n] w (GridPost w (roR W H cs x y n).1 (roR W H cs x y n).2.1 (roR W H cs x y n).2.2) := by
  have hb0 : Below w.heap.size w ((w.alloc (.cells #[.int .i64 W, .int .i64 H, .slice A cs.length c] 29)).alloc (.cells #[.int .i64 0, .int .i64 0, .slice none 0 0] 29)) := by (repeat (first | exact Below.refl _ _ | (refine Below.alloc ?_ (by first | omega | (simp; done) | (simp; omega)) _) | (refine Below.drew ?_) | (refine below_drewN ?_ _) | (refine below_at1 ?_ (by first | omega | (simp; done) | (simp; omega))) | (refine Below.setCell ?_ (by first | omega | (simp; done) | (simp; omega)) _) | (refine Below.trans ?_ (Below.mono (by assumption) (by first | omega | (simp; done) | (simp; omega))))))
  by_cases hg : gridB W H cs = true
  case neg =>
    have HG : Hid (gridB W H cs = false) := by show _ = _; simpa using hg
    have HR := Lib.hid (ro_no (top := x) (bot := y) (n := n) (fun h => hg h.1))
    clear hg
    generalize roR W H cs x y n = R at HR ⊢
    go_enter Try.func101, Try.ntmps101
    go_wp2_with fail
    refine (gridOk_spec W H _ _ cs _ (ha.below hb0) h1).mono ?_
    rintro e w1 ⟨he, hb1⟩
    rw [HG.out] at he
    subst he
    obtain ⟨C1, qq1, rr1, zz1⟩ := keep_blk hb1 (g := w.heap.size + 1) (by repeat (first | assumption | exact heap_alloc_at _ (by first | rfl | (simp; done) | omega) | refine heap_alloc_of _ ?_ | refine heap_setCell_of _ (by first | omega | (simp; done) | (simp; omega)) ?_ | refine heap_setCell_same _ ?_ | exact heap_at1_same (by first | omega | (simp; done) | (simp; omega)) | refine heap_at1_of (by first | omega | (simp; done) | (simp; omega)) ?_))
    have t1 := hb0.trans (hb1.mono hb0.size)
    go_wp2_with fail
    exact bodyPost_ret (v := .agg #[.int .i64 0, .int .i64 0, .slice none 0 0]) (by simp [results, Try.results101, go_sem, *]) rfl (gp_nil (((t1.setCell (by first | omega | (simp; done) | (simp; omega)) _).setCell (by first | omega | (simp; done) | (simp; omega)) _).setCell (by first | omega | (simp; done) | (simp; omega)) _) R HR.out)
  obtain ⟨⟨s1, s2⟩, ⟨s3, s4⟩, s5, hl⟩ := grid_len hg
  have HG := Lib.hid hg
  have HLL := Lib.hid hl
  have H55 := Lib.hid s5
  clear hg hl s5
  by_cases k0 : x < 0
  · have HR := Lib.hid (ro_no (W := W) (H := H) (cs := cs) (top := x) (bot := y) (n := n) (fun h => by have h2 := h.2; clear h; omega))
    generalize roR W H cs x y n = R at HR ⊢
    go_enter Try.func101, Try.ntmps101
    go_wp2_with fail
    refine (gridOk_spec W H _ _ cs _ (ha.below hb0) h1).mono ?_
    rintro e w1 ⟨he, hb1⟩
    rw [HG.out] at he
    subst he
    obtain ⟨B1, q1, r1, z1⟩ := keep_blk hb1 (g := w.heap.size) (by repeat (first | assumption | exact heap_alloc_at _ (by first | rfl | (simp; done) | omega) | refine heap_alloc_of _ ?_ | refine heap_setCell_of _ (by first | omega | (simp; done) | (simp; omega)) ?_ | refine heap_setCell_same _ ?_ | exact heap_at1_same (by first | omega | (simp; done) | (simp; omega)) | refine heap_at1_of (by first | omega | (simp; done) | (simp; omega)) ?_))
    obtain ⟨C1, qq1, rr1, zz1⟩ := keep_blk hb1 (g := w.heap.size + 1) (by repeat (first | assumption | exact heap_alloc_at _ (by first | rfl | (simp; done) | omega) | refine heap_alloc_of _ ?_ | refine heap_setCell_of _ (by first | omega | (simp; done) | (simp; omega)) ?_ | refine heap_setCell_same _ ?_ | exact heap_at1_same (by first | omega | (simp; done) | (simp; omega)) | refine heap_at1_of (by first | omega | (simp; done) | (simp; omega)) ?_))
    have t1 := hb0.trans (hb1.mono hb0.size)
    go_wp2_with fail
    exact bodyPost_ret (v := .agg #[.int .i64 0, .int .i64 0, .slice none 0 0]) (by simp [results, Try.results101, go_sem, *]) rfl (gp_nil (((t1.setCell (by first | omega | (simp; done) | (simp; omega)) _).setCell (by first | omega | (simp; done) | (simp; omega)) _).setCell (by first | omega | (simp; done) | (simp; omega)) _) R HR.out)
  by_cases k1 : y < x
  · have HR := Lib.hid (ro_no (W := W) (H := H) (cs := cs) (top := x) (bot := y) (n := n) (fun h => by have h2 := h.2; clear h; omega))
    generalize roR W H cs x y n = R at HR ⊢
    go_enter Try.func101, Try.ntmps101
    go_wp2_with fail
    refine (gridOk_spec W H _ _ cs _ (ha.below hb0) h1).mono ?_
    rintro e w1 ⟨he, hb1⟩
    rw [HG.out] at he
    subst he
    obtain ⟨B1, q1, r1, z1⟩ := keep_blk hb1 (g := w.heap.size) (by repeat (first | assumption | exact heap_alloc_at _ (by first | rfl | (simp; done) | omega) | refine heap_alloc_of _ ?_ | refine heap_setCell_of _ (by first | omega | (simp; done) | (simp; omega)) ?_ | refine heap_setCell_same _ ?_ | exact heap_at1_same (by first | omega | (simp; done) | (simp; omega)) | refine heap_at1_of (by first | omega | (simp; done) | (simp; omega)) ?_))
    obtain ⟨C1, qq1, rr1, zz1⟩ := keep_blk hb1 (g := w.heap.size + 1) (by repeat (first | assumption | exact heap_alloc_at _ (by first | rfl | (simp; done) | omega) | refine heap_alloc_of _ ?_ | refine heap_setCell_of _ (by first | omega | (simp; done) | (simp; omega)) ?_ | refine heap_setCell_same _ ?_ | exact heap_at1_same (by first | omega | (simp; done) | (simp; omega)) | refine heap_at1_of (by first | omega | (simp; done) | (simp; omega)) ?_))
    have t1 := hb0.trans (hb1.mono hb0.size)
    go_wp2_with fail
    exact bodyPost_ret (v := .agg #[.int .i64 0, .int .i64 0, .slice none 0 0]) (by simp [results, Try.results101, go_sem, *]) rfl (gp_nil (((t1.setCell (by first | omega | (simp; done) | (simp; omega)) _).setCell (by first | omega | (simp; done) | (simp; omega)) _).setCell (by first | omega | (simp; done) | (simp; omega)) _) R HR.out)
  by_cases k2 : H ≤ y
  · have HR := Lib.hid (ro_no (W := W) (H := H) (cs := cs) (top := x) (bot := y) (n := n) (fun h => by have h2 := h.2; clear h; omega))
    generalize roR W H cs x y n = R at HR ⊢
    go_enter Try.func101, Try.ntmps101
    go_wp2_with fail
    refine (gridOk_spec W H _ _ cs _ (ha.below hb0) h1).mono ?_
    rintro e w1 ⟨he, hb1⟩
    rw [HG.out] at he
    subst he
    obtain ⟨B1, q1, r1, z1⟩ := keep_blk hb1 (g := w.heap.size) (by repeat (first | assumption | exact heap_alloc_at _ (by first | rfl | (simp; done) | omega) | refine heap_alloc_of _ ?_ | refine heap_setCell_of _ (by first | omega | (simp; done) | (simp; omega)) ?_ | refine heap_setCell_same _ ?_ | exact heap_at1_same (by first | omega | (simp; done) | (simp; omega)) | refine heap_at1_of (by first | omega | (simp; done) | (simp; omega)) ?_))
    obtain ⟨C1, qq1, rr1, zz1⟩ := keep_blk hb1 (g := w.heap.size + 1) (by repeat (first | assumption | exact heap_alloc_at _ (by first | rfl | (simp; done) | omega) | refine heap_alloc_of _ ?_ | refine heap_setCell_of _ (by first | omega | (simp; done) | (simp; omega)) ?_ | refine heap_setCell_same _ ?_ | exact heap_at1_same (by first | omega | (simp; done) | (simp; omega)) | refine heap_at1_of (by first | omega | (simp; done) | (simp; omega)) ?_))
    have t1 := hb0.trans (hb1.mono hb0.size)
    go_wp2_with fail
    exact bodyPost_ret (v := .agg #[.int .i64 0, .int .i64 0, .slice none 0 0]) (by simp [results, Try.results101, go_sem, *]) rfl (gp_nil (((t1.setCell (by first | omega | (simp; done) | (simp; omega)) _).setCell (by first | omega | (simp; done) | (simp; omega)) _).setCell (by first | omega | (simp; done) | (simp; omega)) _) R HR.out)
  obtain ⟨a, rfl⟩ := Int.eq_ofNat_of_zero_le (show 0 ≤ W by omega)
  obtain ⟨bb, rfl⟩ := Int.eq_ofNat_of_zero_le (show 0 ≤ H by omega)
  obtain ⟨j, rfl⟩ := Int.eq_ofNat_of_zero_le (show 0 ≤ x by omega)
  obtain ⟨k, rfl⟩ := Int.eq_ofNat_of_zero_le (show 0 ≤ y by omega)
  have ha1 : 0 < a := by omega
  have hk : k < bb := by omega
  have hjk : j ≤ k := by omega
  have hcl : cs.length ≤ 4000 := by
    have h5 := H55.out
    have hl := HLL.out
    omega
  have hlN : cs.length = bb * a := by
    have hl := HLL.out
    have h : ((bb * a : Nat) : Int) = (a : Int) * bb := by rw [Int.mul_comm]; simp
    omega
  have HN2 := Lib.hid hlN
  have hcl0 : 0 < cs.length := by rw [hlN]; exact Nat.mul_pos (by omega) ha1
  have HR : Hid (roR a bb cs j k n = ((a : Int), (bb : Int), roL cs a j k n)) := by
    show _ = _
    rw [roR, if_pos ⟨HG.out, by omega, by omega, by omega⟩]
    rfl
  rw [HR.out]
  show Calls _ _ _ _ (GridPost w (a : Int) (bb : Int) (roL cs a j k n))
  have HEA : Hid (wrap64 (-(bb : Int)) = -(bb : Int)) := w64 (n := -(bb : Int)) ⟨by omega, by omega⟩
  clear hlN HR
  by_cases c1 : (bb : Int) < n
  · have HQ := Lib.hid (ro_clamp (cs := cs) (top := j) (n := n) (m := (bb : Int)) ha1 hk (.inr (.inl ⟨by omega, by omega⟩)))
    obtain ⟨n0, hn0⟩ : ∃ n0 : Int, n0 = (bb : Int) := ⟨_, rfl⟩
    have hM1 : -120 ≤ ((bb : Int) : Int) := by omega
    have hM2 : ((bb : Int) : Int) ≤ 120 := by omega
    rw [show roL cs a j k n = roL cs a j k n0 by rw [hn0]; exact HQ.out]
    have HN0 := Lib.hid hn0
    clear hn0
    have ea := HEA.out
    go_enter Try.func101, Try.ntmps101
    go_wp2_with fail
    refine (gridOk_spec a bb _ _ cs _ (ha.below hb0) h1).mono ?_
    rintro e w1 ⟨he, hb1⟩
    rw [HG.out] at he
    subst he
    obtain ⟨B1, q1, r1, z1⟩ := keep_blk hb1 (g := w.heap.size) (by repeat (first | assumption | exact heap_alloc_at _ (by first | rfl | (simp; done) | omega) | refine heap_alloc_of _ ?_ | refine heap_setCell_of _ (by first | omega | (simp; done) | (simp; omega)) ?_ | refine heap_setCell_same _ ?_ | exact heap_at1_same (by first | omega | (simp; done) | (simp; omega)) | refine heap_at1_of (by first | omega | (simp; done) | (simp; omega)) ?_))
    obtain ⟨C1, qq1, rr1, zz1⟩ := keep_blk hb1 (g := w.heap.size + 1) (by repeat (first | assumption | exact heap_alloc_at _ (by first | rfl | (simp; done) | omega) | refine heap_alloc_of _ ?_ | refine heap_setCell_of _ (by first | omega | (simp; done) | (simp; omega)) ?_ | refine heap_setCell_same _ ?_ | exact heap_at1_same (by first | omega | (simp; done) | (simp; omega)) | refine heap_at1_of (by first | omega | (simp; done) | (simp; omega)) ?_))
    have t1 := hb0.trans (hb1.mono hb0.size)
    go_wp2_with fail
    refine (l07Copy_any a bb _ _ cs _ (ha.below t1) hcl0 h1).mono ?_
    rintro e w3 ⟨A3, c3, rfl, ho3, hs3, hi3, hb3⟩
    obtain ⟨B3, q3, r3, z3⟩ := keep_blk hb3 B1
    obtain ⟨C3, qq3, rr3, zz3⟩ := keep_blk hb3 C1
    clear B1 q1 r1 C1 qq1 rr1 hs3 hi3
    have t3 := t1.trans (hb3.mono t1.size)
    obtain ⟨g, rfl, hlo, hcm, hxc, _⟩ := ho3.fill hcl0
    have hgl := (ho3.lt g rfl).2
    go_wp2_with fail
    obtain ⟨w4, hw4⟩ : ∃ w4, w4 = w3.alloc (.cells #[.int .i64 a, .int .i64 bb, .slice (some ⟨g, 0, none⟩) cs.length c3] 29) := ⟨_, rfl⟩
    rw [← hw4]
    have HB4 : Hid (w4.heap[w.heap.size]? = (some (.cells #[.int .i64 a, .int .i64 bb, .slice A cs.length c] 29 (0, 0)))) := by subst hw4; exact heap_alloc_of _ B3
    have HC4 : Hid (w4.heap[w.heap.size + 1]? = (some (.cells #[.int .i64 0, .int .i64 0, .slice none 0 0] 29 (0, 0)))) := by subst hw4; exact heap_alloc_of _ C3
    have HD4 : Hid (w4.heap[w3.heap.size]? = (some (.cells #[.int .i64 a, .int .i64 bb, .slice (some ⟨g, 0, none⟩) cs.length c3] 29 (0, 0)))) := by subst hw4; exact heap_alloc_new _ _
    have ho4 : Og w4 w1.heap.size (some ⟨g, 0, none⟩) c3 cs := by subst hw4; exact ho3.alloc _
    have t4 : Below w.heap.size w w4 := by subst hw4; exact t3.alloc t3.size _
    have hsz : w3.heap.size < w4.heap.size := by subst hw4; simp
    have hgB : ¬ w.heap.size = g := by omega
    have hgD : ¬ w3.heap.size = g := by omega
    have hgC : ¬ w.heap.size + 1 = g := by omega
    clear hw4 B3 C3 q3 r3 qq3 rr3 hb0 hb1 hb3
    go_loopw [10] (fun i wr => ∃ yy : Nat, j ≤ yy ∧ yy ≤ k + 1 ∧ i = .int .i64 yy ∧ Og wr w1.heap.size (some ⟨g, 0, none⟩) c3 (upd cs (roF cs a j k n0) (j * a) (yy * a)) ∧ Hid (wr.heap[w.heap.size]? = (some (.cells #[.int .i64 a, .int .i64 bb, .slice A cs.length c] 29 (0, 0)))) ∧ Hid (wr.heap[w.heap.size + 1]? = (some (.cells #[.int .i64 0, .int .i64 0, .slice none 0 0] 29 (0, 0)))) ∧ Hid (wr.heap[w3.heap.size]? = (some (.cells #[.int .i64 a, .int .i64 bb, .slice (some ⟨g, 0, none⟩) cs.length c3] 29 (0, 0)))) ∧ Below w.heap.size w wr ∧ w4.heap.size ≤ wr.heap.size) (fun i _ => k + 1 - (intOf i).toNat)
    case atStart => exact ⟨j, Nat.le_refl _, by omega, rfl, by rw [upd_self]; exact ho4, HB4, HC4, HD4, t4, Nat.le_refl _⟩
    case round =>
      clear ho4 HB4 HC4 HD4 ea
      obtain ⟨yy, hy1, hy2, rfl, ho, hB, hC, hD, hb, hs⟩ := hrel
      by_cases hlty : yy < k + 1
      · obtain ⟨p, hpy⟩ : ∃ p, Hid (p = yy * a) := ⟨_, rfl⟩
        have hyb : yy < bb := by omega
        have hpa : p + a ≤ cs.length := by
          rw [HN2.out, hpy.out]
          exact (row_bd hyb ha1).2
        have hjp0 : Hid (j * a ≤ p) := by show _ ≤ _; rw [hpy.out]; exact Nat.mul_le_mul_right a hy1
        have HE1 := Lib.hid (mul_nat hpy.out (by omega))
        have HE1k := Lib.hid (mul_natk hpy.out (by omega))
        rw [← hpy.out] at ho
        have hlty' : (yy : Int) ≤ k := by omega
        go_wp2_with fail
        go_loopw [11] (fun i wr => ∃ xx : Nat, xx ≤ a ∧ i = .int .i64 xx ∧ Og wr w1.heap.size (some ⟨g, 0, none⟩) c3 (upd cs (roF cs a j k n0) (j * a) (p + xx)) ∧ Hid (wr.heap[w.heap.size]? = (some (.cells #[.int .i64 a, .int .i64 bb, .slice A cs.length c] 29 (0, 0)))) ∧ Hid (wr.heap[w.heap.size + 1]? = (some (.cells #[.int .i64 0, .int .i64 0, .slice none 0 0] 29 (0, 0)))) ∧ Hid (wr.heap[w3.heap.size]? = (some (.cells #[.int .i64 a, .int .i64 bb, .slice (some ⟨g, 0, none⟩) cs.length c3] 29 (0, 0)))) ∧ Below w.heap.size w wr ∧ w4.heap.size ≤ wr.heap.size) (fun i _ => a - (intOf i).toNat)
        case atStart => exact ⟨0, Nat.zero_le _, rfl, ho, hB, hC, hD, hb, hs⟩
        case round =>
          clear ho hB hC hD hb hs
          obtain ⟨xx, hx1, rfl, ho, hB, hC, hD, hb, hs⟩ := hrel
          have q0 : ∀ i, wr.cell? ⟨w.heap.size, i, none⟩ = _ := fun i => cell_of_row wr _ i _ _ (0, 0) hB.out
          have qd0 : ∀ i, wr.cell? ⟨w3.heap.size, i, none⟩ = _ := fun i => cell_of_row wr _ i _ _ (0, 0) hD.out
          have cB : wr.cell? ⟨w.heap.size, 0, none⟩ = some (.int .i64 a) := by rw [q0]; rfl
          have cD : wr.cell? ⟨w3.heap.size, 2, none⟩ = some (.slice (some ⟨g, 0, none⟩) cs.length c3) := by rw [qd0]; rfl
          by_cases hlt : xx < a
          · obtain ⟨i, hi⟩ : ∃ i, Hid (i = p + xx) := ⟨_, rfl⟩
            have hic : i < cs.length := by have := hi.out; omega
            have hjp : j * a ≤ i := by have := hi.out; have h2 := hjp0.out; omega
            have hkl : i < (upd cs (roF cs a j k n0) (j * a) (p + xx)).length := by rw [upd_len]; exact hic
            have hlt' : (xx : Int) < a := by omega
            have hic' : (i : Int) < cs.length := by omega
            have hi4 : i ≤ 1048576 := by omega
            have hi5 : -1048576 ≤ (i : Int) := by omega
            have hi6 : (i : Int) ≤ 1048576 := by omega
            have hi0 : (0 : Int) ≤ (i : Int) := Int.natCast_nonneg i
            have hn0 := HN0.out
            have hr : (j : Int) ≤ (yy : Int) + (bb : Int) := by omega
            have hr2 : ¬ (yy : Int) + (bb : Int) ≤ k := by omega
            have HF : Hid (roF cs a j k n0 (yy * a + xx) = bk) := by show _ = _; rw [hn0]; exact ro_out hlt (by omega)
            have hw1 : -1048576 ≤ (yy : Int) + (bb : Int) := by omega
            have hw2 : (yy : Int) + (bb : Int) ≤ 1048576 := by omega
            obtain ⟨eWk, eW⟩ := small_k hw1 hw2
            clear hn0
            obtain ⟨e2k, e2, e3⟩ := add_natk hi.out hi4
            obtain ⟨eik, eiw⟩ := small_k hi5 hi6
            have e1 := HE1.out
            have e1k := HE1k.out
            go_wp2_with fail
            go_region_held3 (fun w' => w'.cell? ⟨w.heap.size, 0, none⟩ = some (.int .i64 a) ∧ w'.cell? ⟨w3.heap.size, 2, none⟩ = some (.slice (some ⟨g, 0, none⟩) cs.length c3))
              (first | with_reducible assumption | exact ⟨cell_six kB hgB _ _ _ _ _ _, cell_six kD hgD _ _ _ _ _ _⟩ | exact ⟨by simpa using cB, by simpa using cD⟩)
              ((go_at_call 125; refine (l07Blank_any _).mono ?_; rintro e w5 ⟨rfl, hb5'⟩; have hb5 : Below wr.heap.size wr w5 := (Below.drew (Below.refl _ _)).trans hb5'; obtain ⟨B5, q5, r5, z5⟩ := keep_blk hb5 hB.out; obtain ⟨C5, qq5, rr5, zz5⟩ := keep_blk hb5 hC.out; obtain ⟨D5, qd5, rd5, zd5⟩ := keep_blk hb5 hD.out; have ho5 := ho.below hb5 (Nat.le_refl _); have v5 := hb.trans (hb5.mono hb.size); have zw5 := hb5.size; obtain ⟨⟨u0, x0⟩, ⟨u1, x1⟩, ⟨u2, x2⟩, ⟨u3, x3⟩, ⟨u4, x4⟩, ⟨u5, x5⟩, f0, f1, f2, f3, f4, f5⟩ := ho5.getB (k := i) hkl; have kB : w5.cell? ⟨w.heap.size, 0, none⟩ = some (.int .i64 a) := (by rw [q5]; rfl); have kD : w5.cell? ⟨w3.heap.size, 2, none⟩ = some (.slice (some ⟨g, 0, none⟩) cs.length c3) := (by rw [qd5]; rfl); have hkeep := And.intro kB kD))
            clear hkeep e1 e1k e2k e2 e3 eik eiw
            have ho6 := ho5.set (k := i) hkl bk
            have eU : (upd cs (roF cs a j k n0) (j * a) (p + xx)).set i bk = upd cs (roF cs a j k n0) (j * a) (p + (xx + 1)) := by
              rw [← HF.out, ← hpy.out, ← hi.out]
              have := upd_set (cs := cs) (f := roF cs a j k n0) (lo := j * a) (hi := i) hic hjp
              rw [this, hi.out]
              rfl
            rw [eU] at ho6
            go_wp2_with fail
            all_goals clear eW eWk
            all_goals try (exfalso; omega)
            refine ⟨⟨xx + 1, by omega, by go_num, ho6, Lib.hid (heap_six B5 (by omega) _ _ _ _ _ _), Lib.hid (heap_six C5 (by omega) _ _ _ _ _ _), Lib.hid (heap_six D5 (by omega) _ _ _ _ _ _), below_six v5 (by omega) _ _ _ _ _ _, by simp; omega⟩, ?_⟩
            simp [intOf]
            omega

          · have hlt' : ¬ (xx : Int) < a := by omega
            have hxa : xx = a := by omega
            have ho' : Og wr w1.heap.size (some ⟨g, 0, none⟩) c3 (upd cs (roF cs a j k n0) (j * a) ((yy + 1) * a)) := by
              rw [hxa, hpy.out, ← Nat.succ_mul] at ho
              exact ho
            clear hxa ho
            go_wp2_with fail
            refine ⟨⟨yy + 1, by omega, by omega, by go_num, ho', hB, hC, hD, hb, hs⟩, ?_⟩
            simp [intOf]
            omega

      · have hyk : yy = k + 1 := by omega
        have ho' : Og wr w1.heap.size (some ⟨g, 0, none⟩) c3 (roL cs a j k n0) := by rw [hyk] at ho; exact ho
        have hlty' : ¬ (yy : Int) ≤ k := by omega
        have qd0 : ∀ i, wr.cell? ⟨w3.heap.size, i, none⟩ = _ := fun i => cell_of_row wr _ i _ _ (0, 0) hD.out
        have qq0 : ∀ i, wr.cell? ⟨w.heap.size + 1, i, none⟩ = _ := fun i => cell_of_row wr _ i _ _ (0, 0) hC.out
        have rr0 : ∀ i, wr.frozen? ⟨w.heap.size + 1, i, none⟩ = false := fun i => by simp [World.frozen?, hC.out]
        have zr := (Array.getElem?_eq_some_iff.1 hC.out).1
        clear hyk ho
        go_wp2_with fail
        refine bodyPost_ret (v := gV a bb (some ⟨g, 0, none⟩) cs.length c3) (by simp [results, Try.results101, go_sem, *]) rfl ?_
        have hL : (roL cs a j k n0).length = cs.length := upd_len
        have ho2 := (((ho'.setCell (p := ⟨w.heap.size + 1, 0, none⟩) (by first | omega | (simp; done) | (simp; omega)) (.int .i64 a)).setCell (p := ⟨w.heap.size + 1, 1, none⟩) (by first | omega | (simp; done) | (simp; omega)) (.int .i64 bb)).setCell (p := ⟨w.heap.size + 1, 2, none⟩) (by first | omega | (simp; done) | (simp; omega)) (.slice (some ⟨g, 0, none⟩) cs.length c3))
        exact ⟨_, c3, by rw [hL], ho2.mono (by omega), ho2.gs, (ho2.mono (by omega)).inB, ((hb.setCell (by first | omega | (simp; done) | (simp; omega)) _).setCell (by first | omega | (simp; done) | (simp; omega)) _).setCell (by first | omega | (simp; done) | (simp; omega)) _⟩

  by_cases c2 : n < -(bb : Int)
  · have HQ := Lib.hid (ro_clamp (cs := cs) (top := j) (n := n) (m := -(bb : Int)) ha1 hk (.inr (.inr ⟨by omega, by omega⟩)))
    obtain ⟨n0, hn0⟩ : ∃ n0 : Int, n0 = -(bb : Int) := ⟨_, rfl⟩
    have hM1 : -120 ≤ (-(bb : Int) : Int) := by omega
    have hM2 : (-(bb : Int) : Int) ≤ 120 := by omega
    rw [show roL cs a j k n = roL cs a j k n0 by rw [hn0]; exact HQ.out]
    have HN0 := Lib.hid hn0
    clear hn0
    have ea := HEA.out
    go_enter Try.func101, Try.ntmps101
    go_wp2_with fail
    refine (gridOk_spec a bb _ _ cs _ (ha.below hb0) h1).mono ?_
    rintro e w1 ⟨he, hb1⟩
    rw [HG.out] at he
    subst he
    obtain ⟨B1, q1, r1, z1⟩ := keep_blk hb1 (g := w.heap.size) (by repeat (first | assumption | exact heap_alloc_at _ (by first | rfl | (simp; done) | omega) | refine heap_alloc_of _ ?_ | refine heap_setCell_of _ (by first | omega | (simp; done) | (simp; omega)) ?_ | refine heap_setCell_same _ ?_ | exact heap_at1_same (by first | omega | (simp; done) | (simp; omega)) | refine heap_at1_of (by first | omega | (simp; done) | (simp; omega)) ?_))
    obtain ⟨C1, qq1, rr1, zz1⟩ := keep_blk hb1 (g := w.heap.size + 1) (by repeat (first | assumption | exact heap_alloc_at _ (by first | rfl | (simp; done) | omega) | refine heap_alloc_of _ ?_ | refine heap_setCell_of _ (by first | omega | (simp; done) | (simp; omega)) ?_ | refine heap_setCell_same _ ?_ | exact heap_at1_same (by first | omega | (simp; done) | (simp; omega)) | refine heap_at1_of (by first | omega | (simp; done) | (simp; omega)) ?_))
    have t1 := hb0.trans (hb1.mono hb0.size)
    go_wp2_with fail
    refine (l07Copy_any a bb _ _ cs _ (ha.below t1) hcl0 h1).mono ?_
    rintro e w3 ⟨A3, c3, rfl, ho3, hs3, hi3, hb3⟩
    obtain ⟨B3, q3, r3, z3⟩ := keep_blk hb3 B1
    obtain ⟨C3, qq3, rr3, zz3⟩ := keep_blk hb3 C1
    clear B1 q1 r1 C1 qq1 rr1 hs3 hi3
    have t3 := t1.trans (hb3.mono t1.size)
    obtain ⟨g, rfl, hlo, hcm, hxc, _⟩ := ho3.fill hcl0
    have hgl := (ho3.lt g rfl).2
    go_wp2_with fail
    obtain ⟨w4, hw4⟩ : ∃ w4, w4 = w3.alloc (.cells #[.int .i64 a, .int .i64 bb, .slice (some ⟨g, 0, none⟩) cs.length c3] 29) := ⟨_, rfl⟩
    rw [← hw4]
    have HB4 : Hid (w4.heap[w.heap.size]? = (some (.cells #[.int .i64 a, .int .i64 bb, .slice A cs.length c] 29 (0, 0)))) := by subst hw4; exact heap_alloc_of _ B3
    have HC4 : Hid (w4.heap[w.heap.size + 1]? = (some (.cells #[.int .i64 0, .int .i64 0, .slice none 0 0] 29 (0, 0)))) := by subst hw4; exact heap_alloc_of _ C3
    have HD4 : Hid (w4.heap[w3.heap.size]? = (some (.cells #[.int .i64 a, .int .i64 bb, .slice (some ⟨g, 0, none⟩) cs.length c3] 29 (0, 0)))) := by subst hw4; exact heap_alloc_new _ _
    have ho4 : Og w4 w1.heap.size (some ⟨g, 0, none⟩) c3 cs := by subst hw4; exact ho3.alloc _
    have t4 : Below w.heap.size w w4 := by subst hw4; exact t3.alloc t3.size _
    have hsz : w3.heap.size < w4.heap.size := by subst hw4; simp
    have hgB : ¬ w.heap.size = g := by omega
    have hgD : ¬ w3.heap.size = g := by omega
    have hgC : ¬ w.heap.size + 1 = g := by omega
    clear hw4 B3 C3 q3 r3 qq3 rr3 hb0 hb1 hb3
    obtain ⟨m, hm⟩ : ∃ m : Int, -(bb : Int) = m := ⟨_, rfl⟩
    rw [hm]
    have hm1 : -120 ≤ m := by omega
    have hm2 : m ≤ 0 := by omega
    have HMM := Lib.hid hm.symm
    rw [hm] at HN0
    clear hm
    go_loopw [10] (fun i wr => ∃ yy : Nat, j ≤ yy ∧ yy ≤ k + 1 ∧ i = .int .i64 yy ∧ Og wr w1.heap.size (some ⟨g, 0, none⟩) c3 (upd cs (roF cs a j k n0) (j * a) (yy * a)) ∧ Hid (wr.heap[w.heap.size]? = (some (.cells #[.int .i64 a, .int .i64 bb, .slice A cs.length c] 29 (0, 0)))) ∧ Hid (wr.heap[w.heap.size + 1]? = (some (.cells #[.int .i64 0, .int .i64 0, .slice none 0 0] 29 (0, 0)))) ∧ Hid (wr.heap[w3.heap.size]? = (some (.cells #[.int .i64 a, .int .i64 bb, .slice (some ⟨g, 0, none⟩) cs.length c3] 29 (0, 0)))) ∧ Below w.heap.size w wr ∧ w4.heap.size ≤ wr.heap.size) (fun i _ => k + 1 - (intOf i).toNat)
    case atStart => exact ⟨j, Nat.le_refl _, by omega, rfl, by rw [upd_self]; exact ho4, HB4, HC4, HD4, t4, Nat.le_refl _⟩
    case round =>
      clear ho4 HB4 HC4 HD4 ea
      obtain ⟨yy, hy1, hy2, rfl, ho, hB, hC, hD, hb, hs⟩ := hrel
      by_cases hlty : yy < k + 1
      · obtain ⟨p, hpy⟩ : ∃ p, Hid (p = yy * a) := ⟨_, rfl⟩
        have hyb : yy < bb := by omega
        have hpa : p + a ≤ cs.length := by
          rw [HN2.out, hpy.out]
          exact (row_bd hyb ha1).2
        have hjp0 : Hid (j * a ≤ p) := by show _ ≤ _; rw [hpy.out]; exact Nat.mul_le_mul_right a hy1
        have HE1 := Lib.hid (mul_nat hpy.out (by omega))
        have HE1k := Lib.hid (mul_natk hpy.out (by omega))
        rw [← hpy.out] at ho
        have hlty' : (yy : Int) ≤ k := by omega
        go_wp2_with fail
        go_loopw [11] (fun i wr => ∃ xx : Nat, xx ≤ a ∧ i = .int .i64 xx ∧ Og wr w1.heap.size (some ⟨g, 0, none⟩) c3 (upd cs (roF cs a j k n0) (j * a) (p + xx)) ∧ Hid (wr.heap[w.heap.size]? = (some (.cells #[.int .i64 a, .int .i64 bb, .slice A cs.length c] 29 (0, 0)))) ∧ Hid (wr.heap[w.heap.size + 1]? = (some (.cells #[.int .i64 0, .int .i64 0, .slice none 0 0] 29 (0, 0)))) ∧ Hid (wr.heap[w3.heap.size]? = (some (.cells #[.int .i64 a, .int .i64 bb, .slice (some ⟨g, 0, none⟩) cs.length c3] 29 (0, 0)))) ∧ Below w.heap.size w wr ∧ w4.heap.size ≤ wr.heap.size) (fun i _ => a - (intOf i).toNat)
        case atStart => exact ⟨0, Nat.zero_le _, rfl, ho, hB, hC, hD, hb, hs⟩
        case round =>
          clear ho hB hC hD hb hs
          obtain ⟨xx, hx1, rfl, ho, hB, hC, hD, hb, hs⟩ := hrel
          have q0 : ∀ i, wr.cell? ⟨w.heap.size, i, none⟩ = _ := fun i => cell_of_row wr _ i _ _ (0, 0) hB.out
          have qd0 : ∀ i, wr.cell? ⟨w3.heap.size, i, none⟩ = _ := fun i => cell_of_row wr _ i _ _ (0, 0) hD.out
          have cB : wr.cell? ⟨w.heap.size, 0, none⟩ = some (.int .i64 a) := by rw [q0]; rfl
          have cD : wr.cell? ⟨w3.heap.size, 2, none⟩ = some (.slice (some ⟨g, 0, none⟩) cs.length c3) := by rw [qd0]; rfl
          by_cases hlt : xx < a
          · obtain ⟨i, hi⟩ : ∃ i, Hid (i = p + xx) := ⟨_, rfl⟩
            have hic : i < cs.length := by have := hi.out; omega
            have hjp : j * a ≤ i := by have := hi.out; have h2 := hjp0.out; omega
            have hkl : i < (upd cs (roF cs a j k n0) (j * a) (p + xx)).length := by rw [upd_len]; exact hic
            have hlt' : (xx : Int) < a := by omega
            have hic' : (i : Int) < cs.length := by omega
            have hi4 : i ≤ 1048576 := by omega
            have hi5 : -1048576 ≤ (i : Int) := by omega
            have hi6 : (i : Int) ≤ 1048576 := by omega
            have hi0 : (0 : Int) ≤ (i : Int) := Int.natCast_nonneg i
            have hn0 := HN0.out
            have hr : (yy : Int) + m < j := by have := HMM.out; omega
            have HF : Hid (roF cs a j k n0 (yy * a + xx) = bk) := by show _ = _; rw [hn0]; exact ro_out hlt (by omega)
            have hw1 : -1048576 ≤ (yy : Int) + m := by omega
            have hw2 : (yy : Int) + m ≤ 1048576 := by omega
            obtain ⟨eWk, eW⟩ := small_k hw1 hw2
            clear hn0
            obtain ⟨e2k, e2, e3⟩ := add_natk hi.out hi4
            obtain ⟨eik, eiw⟩ := small_k hi5 hi6
            have e1 := HE1.out
            have e1k := HE1k.out
            go_wp2_with fail
            go_region_held3 (fun w' => w'.cell? ⟨w.heap.size, 0, none⟩ = some (.int .i64 a) ∧ w'.cell? ⟨w3.heap.size, 2, none⟩ = some (.slice (some ⟨g, 0, none⟩) cs.length c3))
              (first | with_reducible assumption | exact ⟨cell_six kB hgB _ _ _ _ _ _, cell_six kD hgD _ _ _ _ _ _⟩ | exact ⟨by simpa using cB, by simpa using cD⟩)
              ((go_at_call 125; refine (l07Blank_any _).mono ?_; rintro e w5 ⟨rfl, hb5'⟩; have hb5 : Below wr.heap.size wr w5 := (Below.drew (Below.refl _ _)).trans hb5'; obtain ⟨B5, q5, r5, z5⟩ := keep_blk hb5 hB.out; obtain ⟨C5, qq5, rr5, zz5⟩ := keep_blk hb5 hC.out; obtain ⟨D5, qd5, rd5, zd5⟩ := keep_blk hb5 hD.out; have ho5 := ho.below hb5 (Nat.le_refl _); have v5 := hb.trans (hb5.mono hb.size); have zw5 := hb5.size; obtain ⟨⟨u0, x0⟩, ⟨u1, x1⟩, ⟨u2, x2⟩, ⟨u3, x3⟩, ⟨u4, x4⟩, ⟨u5, x5⟩, f0, f1, f2, f3, f4, f5⟩ := ho5.getB (k := i) hkl; have kB : w5.cell? ⟨w.heap.size, 0, none⟩ = some (.int .i64 a) := (by rw [q5]; rfl); have kD : w5.cell? ⟨w3.heap.size, 2, none⟩ = some (.slice (some ⟨g, 0, none⟩) cs.length c3) := (by rw [qd5]; rfl); have hkeep := And.intro kB kD))
            clear hkeep e1 e1k e2k e2 e3 eik eiw
            have ho6 := ho5.set (k := i) hkl bk
            have eU : (upd cs (roF cs a j k n0) (j * a) (p + xx)).set i bk = upd cs (roF cs a j k n0) (j * a) (p + (xx + 1)) := by
              rw [← HF.out, ← hpy.out, ← hi.out]
              have := upd_set (cs := cs) (f := roF cs a j k n0) (lo := j * a) (hi := i) hic hjp
              rw [this, hi.out]
              rfl
            rw [eU] at ho6
            go_wp2_with fail
            all_goals clear eW eWk
            all_goals try (exfalso; omega)
            refine ⟨⟨xx + 1, by omega, by go_num, ho6, Lib.hid (heap_six B5 (by omega) _ _ _ _ _ _), Lib.hid (heap_six C5 (by omega) _ _ _ _ _ _), Lib.hid (heap_six D5 (by omega) _ _ _ _ _ _), below_six v5 (by omega) _ _ _ _ _ _, by simp; omega⟩, ?_⟩
            simp [intOf]
            omega

          · have hlt' : ¬ (xx : Int) < a := by omega
            have hxa : xx = a := by omega
            have ho' : Og wr w1.heap.size (some ⟨g, 0, none⟩) c3 (upd cs (roF cs a j k n0) (j * a) ((yy + 1) * a)) := by
              rw [hxa, hpy.out, ← Nat.succ_mul] at ho
              exact ho
            clear hxa ho
            go_wp2_with fail
            refine ⟨⟨yy + 1, by omega, by omega, by go_num, ho', hB, hC, hD, hb, hs⟩, ?_⟩
            simp [intOf]
            omega

      · have hyk : yy = k + 1 := by omega
        have ho' : Og wr w1.heap.size (some ⟨g, 0, none⟩) c3 (roL cs a j k n0) := by rw [hyk] at ho; exact ho
        have hlty' : ¬ (yy : Int) ≤ k := by omega
        have qd0 : ∀ i, wr.cell? ⟨w3.heap.size, i, none⟩ = _ := fun i => cell_of_row wr _ i _ _ (0, 0) hD.out
        have qq0 : ∀ i, wr.cell? ⟨w.heap.size + 1, i, none⟩ = _ := fun i => cell_of_row wr _ i _ _ (0, 0) hC.out
        have rr0 : ∀ i, wr.frozen? ⟨w.heap.size + 1, i, none⟩ = false := fun i => by simp [World.frozen?, hC.out]
        have zr := (Array.getElem?_eq_some_iff.1 hC.out).1
        clear hyk ho
        go_wp2_with fail
        refine bodyPost_ret (v := gV a bb (some ⟨g, 0, none⟩) cs.length c3) (by simp [results, Try.results101, go_sem, *]) rfl ?_
        have hL : (roL cs a j k n0).length = cs.length := upd_len
        have ho2 := (((ho'.setCell (p := ⟨w.heap.size + 1, 0, none⟩) (by first | omega | (simp; done) | (simp; omega)) (.int .i64 a)).setCell (p := ⟨w.heap.size + 1, 1, none⟩) (by first | omega | (simp; done) | (simp; omega)) (.int .i64 bb)).setCell (p := ⟨w.heap.size + 1, 2, none⟩) (by first | omega | (simp; done) | (simp; omega)) (.slice (some ⟨g, 0, none⟩) cs.length c3))
        exact ⟨_, c3, by rw [hL], ho2.mono (by omega), ho2.gs, (ho2.mono (by omega)).inB, ((hb.setCell (by first | omega | (simp; done) | (simp; omega)) _).setCell (by first | omega | (simp; done) | (simp; omega)) _).setCell (by first | omega | (simp; done) | (simp; omega)) _⟩

  obtain ⟨n0, hn0⟩ : ∃ n0 : Int, n0 = n := ⟨_, rfl⟩
  have hM1 : -120 ≤ (n : Int) := by omega
  have hM2 : (n : Int) ≤ 120 := by omega
  rw [show roL cs a j k n = roL cs a j k n0 by rw [hn0]]
  have HN0 := Lib.hid hn0
  clear hn0
  have ea := HEA.out
  go_enter Try.func101, Try.ntmps101
  go_wp2_with fail
  refine (gridOk_spec a bb _ _ cs _ (ha.below hb0) h1).mono ?_
  rintro e w1 ⟨he, hb1⟩
  rw [HG.out] at he
  subst he
  obtain ⟨B1, q1, r1, z1⟩ := keep_blk hb1 (g := w.heap.size) (by repeat (first | assumption | exact heap_alloc_at _ (by first | rfl | (simp; done) | omega) | refine heap_alloc_of _ ?_ | refine heap_setCell_of _ (by first | omega | (simp; done) | (simp; omega)) ?_ | refine heap_setCell_same _ ?_ | exact heap_at1_same (by first | omega | (simp; done) | (simp; omega)) | refine heap_at1_of (by first | omega | (simp; done) | (simp; omega)) ?_))
  obtain ⟨C1, qq1, rr1, zz1⟩ := keep_blk hb1 (g := w.heap.size + 1) (by repeat (first | assumption | exact heap_alloc_at _ (by first | rfl | (simp; done) | omega) | refine heap_alloc_of _ ?_ | refine heap_setCell_of _ (by first | omega | (simp; done) | (simp; omega)) ?_ | refine heap_setCell_same _ ?_ | exact heap_at1_same (by first | omega | (simp; done) | (simp; omega)) | refine heap_at1_of (by first | omega | (simp; done) | (simp; omega)) ?_))
  have t1 := hb0.trans (hb1.mono hb0.size)
  go_wp2_with fail
  refine (l07Copy_any a bb _ _ cs _ (ha.below t1) hcl0 h1).mono ?_
  rintro e w3 ⟨A3, c3, rfl, ho3, hs3, hi3, hb3⟩
  obtain ⟨B3, q3, r3, z3⟩ := keep_blk hb3 B1
  obtain ⟨C3, qq3, rr3, zz3⟩ := keep_blk hb3 C1
  clear B1 q1 r1 C1 qq1 rr1 hs3 hi3
  have t3 := t1.trans (hb3.mono t1.size)
  obtain ⟨g, rfl, hlo, hcm, hxc, _⟩ := ho3.fill hcl0
  have hgl := (ho3.lt g rfl).2
  go_wp2_with fail
  obtain ⟨w4, hw4⟩ : ∃ w4, w4 = w3.alloc (.cells #[.int .i64 a, .int .i64 bb, .slice (some ⟨g, 0, none⟩) cs.length c3] 29) := ⟨_, rfl⟩
  rw [← hw4]
  have HB4 : Hid (w4.heap[w.heap.size]? = (some (.cells #[.int .i64 a, .int .i64 bb, .slice A cs.length c] 29 (0, 0)))) := by subst hw4; exact heap_alloc_of _ B3
  have HC4 : Hid (w4.heap[w.heap.size + 1]? = (some (.cells #[.int .i64 0, .int .i64 0, .slice none 0 0] 29 (0, 0)))) := by subst hw4; exact heap_alloc_of _ C3
  have HD4 : Hid (w4.heap[w3.heap.size]? = (some (.cells #[.int .i64 a, .int .i64 bb, .slice (some ⟨g, 0, none⟩) cs.length c3] 29 (0, 0)))) := by subst hw4; exact heap_alloc_new _ _
  have ho4 : Og w4 w1.heap.size (some ⟨g, 0, none⟩) c3 cs := by subst hw4; exact ho3.alloc _
  have t4 : Below w.heap.size w w4 := by subst hw4; exact t3.alloc t3.size _
  have hsz : w3.heap.size < w4.heap.size := by subst hw4; simp
  have hgB : ¬ w.heap.size = g := by omega
  have hgD : ¬ w3.heap.size = g := by omega
  have hgC : ¬ w.heap.size + 1 = g := by omega
  clear hw4 B3 C3 q3 r3 qq3 rr3 hb0 hb1 hb3
  go_loopw [10] (fun i wr => ∃ yy : Nat, j ≤ yy ∧ yy ≤ k + 1 ∧ i = .int .i64 yy ∧ Og wr w1.heap.size (some ⟨g, 0, none⟩) c3 (upd cs (roF cs a j k n0) (j * a) (yy * a)) ∧ Hid (wr.heap[w.heap.size]? = (some (.cells #[.int .i64 a, .int .i64 bb, .slice A cs.length c] 29 (0, 0)))) ∧ Hid (wr.heap[w.heap.size + 1]? = (some (.cells #[.int .i64 0, .int .i64 0, .slice none 0 0] 29 (0, 0)))) ∧ Hid (wr.heap[w3.heap.size]? = (some (.cells #[.int .i64 a, .int .i64 bb, .slice (some ⟨g, 0, none⟩) cs.length c3] 29 (0, 0)))) ∧ Below w.heap.size w wr ∧ w4.heap.size ≤ wr.heap.size) (fun i _ => k + 1 - (intOf i).toNat)
  case atStart => exact ⟨j, Nat.le_refl _, by omega, rfl, by rw [upd_self]; exact ho4, HB4, HC4, HD4, t4, Nat.le_refl _⟩
  case round =>
    clear ho4 HB4 HC4 HD4 ea
    obtain ⟨yy, hy1, hy2, rfl, ho, hB, hC, hD, hb, hs⟩ := hrel
    by_cases hlty : yy < k + 1
    · obtain ⟨p, hpy⟩ : ∃ p, Hid (p = yy * a) := ⟨_, rfl⟩
      have hyb : yy < bb := by omega
      have hpa : p + a ≤ cs.length := by
        rw [HN2.out, hpy.out]
        exact (row_bd hyb ha1).2
      have hjp0 : Hid (j * a ≤ p) := by show _ ≤ _; rw [hpy.out]; exact Nat.mul_le_mul_right a hy1
      have HE1 := Lib.hid (mul_nat hpy.out (by omega))
      have HE1k := Lib.hid (mul_natk hpy.out (by omega))
      rw [← hpy.out] at ho
      have hlty' : (yy : Int) ≤ k := by omega
      go_wp2_with fail
      go_loopw [11] (fun i wr => ∃ xx : Nat, xx ≤ a ∧ i = .int .i64 xx ∧ Og wr w1.heap.size (some ⟨g, 0, none⟩) c3 (upd cs (roF cs a j k n0) (j * a) (p + xx)) ∧ Hid (wr.heap[w.heap.size]? = (some (.cells #[.int .i64 a, .int .i64 bb, .slice A cs.length c] 29 (0, 0)))) ∧ Hid (wr.heap[w.heap.size + 1]? = (some (.cells #[.int .i64 0, .int .i64 0, .slice none 0 0] 29 (0, 0)))) ∧ Hid (wr.heap[w3.heap.size]? = (some (.cells #[.int .i64 a, .int .i64 bb, .slice (some ⟨g, 0, none⟩) cs.length c3] 29 (0, 0)))) ∧ Below w.heap.size w wr ∧ w4.heap.size ≤ wr.heap.size) (fun i _ => a - (intOf i).toNat)
      case atStart => exact ⟨0, Nat.zero_le _, rfl, ho, hB, hC, hD, hb, hs⟩
      case round =>
        clear ho hB hC hD hb hs
        obtain ⟨xx, hx1, rfl, ho, hB, hC, hD, hb, hs⟩ := hrel
        have q0 : ∀ i, wr.cell? ⟨w.heap.size, i, none⟩ = _ := fun i => cell_of_row wr _ i _ _ (0, 0) hB.out
        have qd0 : ∀ i, wr.cell? ⟨w3.heap.size, i, none⟩ = _ := fun i => cell_of_row wr _ i _ _ (0, 0) hD.out
        have cB : wr.cell? ⟨w.heap.size, 0, none⟩ = some (.int .i64 a) := by rw [q0]; rfl
        have cD : wr.cell? ⟨w3.heap.size, 2, none⟩ = some (.slice (some ⟨g, 0, none⟩) cs.length c3) := by rw [qd0]; rfl
        by_cases hlt : xx < a
        · obtain ⟨i, hi⟩ : ∃ i, Hid (i = p + xx) := ⟨_, rfl⟩
          have hic : i < cs.length := by have := hi.out; omega
          have hjp : j * a ≤ i := by have := hi.out; have h2 := hjp0.out; omega
          have hkl : i < (upd cs (roF cs a j k n0) (j * a) (p + xx)).length := by rw [upd_len]; exact hic
          have hlt' : (xx : Int) < a := by omega
          have hic' : (i : Int) < cs.length := by omega
          have hi4 : i ≤ 1048576 := by omega
          have hi5 : -1048576 ≤ (i : Int) := by omega
          have hi6 : (i : Int) ≤ 1048576 := by omega
          have hi0 : (0 : Int) ≤ (i : Int) := Int.natCast_nonneg i
          have hn0 := HN0.out
          by_cases hr : (yy : Int) + n < j
          · skip
            have HF : Hid (roF cs a j k n0 (yy * a + xx) = bk) := by show _ = _; rw [hn0]; exact ro_out hlt (by omega)
            have hw1 : -1048576 ≤ (yy : Int) + n := by omega
            have hw2 : (yy : Int) + n ≤ 1048576 := by omega
            obtain ⟨eWk, eW⟩ := small_k hw1 hw2
            clear hn0
            obtain ⟨e2k, e2, e3⟩ := add_natk hi.out hi4
            obtain ⟨eik, eiw⟩ := small_k hi5 hi6
            have e1 := HE1.out
            have e1k := HE1k.out
            go_wp2_with fail
            go_region_held3 (fun w' => w'.cell? ⟨w.heap.size, 0, none⟩ = some (.int .i64 a) ∧ w'.cell? ⟨w3.heap.size, 2, none⟩ = some (.slice (some ⟨g, 0, none⟩) cs.length c3))
              (first | with_reducible assumption | exact ⟨cell_six kB hgB _ _ _ _ _ _, cell_six kD hgD _ _ _ _ _ _⟩ | exact ⟨by simpa using cB, by simpa using cD⟩)
              ((go_at_call 125; refine (l07Blank_any _).mono ?_; rintro e w5 ⟨rfl, hb5'⟩; have hb5 : Below wr.heap.size wr w5 := (Below.drew (Below.refl _ _)).trans hb5'; obtain ⟨B5, q5, r5, z5⟩ := keep_blk hb5 hB.out; obtain ⟨C5, qq5, rr5, zz5⟩ := keep_blk hb5 hC.out; obtain ⟨D5, qd5, rd5, zd5⟩ := keep_blk hb5 hD.out; have ho5 := ho.below hb5 (Nat.le_refl _); have v5 := hb.trans (hb5.mono hb.size); have zw5 := hb5.size; obtain ⟨⟨u0, x0⟩, ⟨u1, x1⟩, ⟨u2, x2⟩, ⟨u3, x3⟩, ⟨u4, x4⟩, ⟨u5, x5⟩, f0, f1, f2, f3, f4, f5⟩ := ho5.getB (k := i) hkl; have kB : w5.cell? ⟨w.heap.size, 0, none⟩ = some (.int .i64 a) := (by rw [q5]; rfl); have kD : w5.cell? ⟨w3.heap.size, 2, none⟩ = some (.slice (some ⟨g, 0, none⟩) cs.length c3) := (by rw [qd5]; rfl); have hkeep := And.intro kB kD))
            clear hkeep e1 e1k e2k e2 e3 eik eiw
            have ho6 := ho5.set (k := i) hkl bk
            have eU : (upd cs (roF cs a j k n0) (j * a) (p + xx)).set i bk = upd cs (roF cs a j k n0) (j * a) (p + (xx + 1)) := by
              rw [← HF.out, ← hpy.out, ← hi.out]
              have := upd_set (cs := cs) (f := roF cs a j k n0) (lo := j * a) (hi := i) hic hjp
              rw [this, hi.out]
              rfl
            rw [eU] at ho6
            go_wp2_with fail
            all_goals clear eW eWk
            all_goals try (exfalso; omega)
            refine ⟨⟨xx + 1, by omega, by go_num, ho6, Lib.hid (heap_six B5 (by omega) _ _ _ _ _ _), Lib.hid (heap_six C5 (by omega) _ _ _ _ _ _), Lib.hid (heap_six D5 (by omega) _ _ _ _ _ _), below_six v5 (by omega) _ _ _ _ _ _, by simp; omega⟩, ?_⟩
            simp [intOf]
            omega

          by_cases hr2 : ¬ (yy : Int) + n ≤ k
          · skip
            have HF : Hid (roF cs a j k n0 (yy * a + xx) = bk) := by show _ = _; rw [hn0]; exact ro_out hlt (by omega)
            have hw1 : -1048576 ≤ (yy : Int) + n := by omega
            have hw2 : (yy : Int) + n ≤ 1048576 := by omega
            obtain ⟨eWk, eW⟩ := small_k hw1 hw2
            clear hn0
            obtain ⟨e2k, e2, e3⟩ := add_natk hi.out hi4
            obtain ⟨eik, eiw⟩ := small_k hi5 hi6
            have e1 := HE1.out
            have e1k := HE1k.out
            go_wp2_with fail
            go_region_held3 (fun w' => w'.cell? ⟨w.heap.size, 0, none⟩ = some (.int .i64 a) ∧ w'.cell? ⟨w3.heap.size, 2, none⟩ = some (.slice (some ⟨g, 0, none⟩) cs.length c3))
              (first | with_reducible assumption | exact ⟨cell_six kB hgB _ _ _ _ _ _, cell_six kD hgD _ _ _ _ _ _⟩ | exact ⟨by simpa using cB, by simpa using cD⟩)
              ((go_at_call 125; refine (l07Blank_any _).mono ?_; rintro e w5 ⟨rfl, hb5'⟩; have hb5 : Below wr.heap.size wr w5 := (Below.drew (Below.refl _ _)).trans hb5'; obtain ⟨B5, q5, r5, z5⟩ := keep_blk hb5 hB.out; obtain ⟨C5, qq5, rr5, zz5⟩ := keep_blk hb5 hC.out; obtain ⟨D5, qd5, rd5, zd5⟩ := keep_blk hb5 hD.out; have ho5 := ho.below hb5 (Nat.le_refl _); have v5 := hb.trans (hb5.mono hb.size); have zw5 := hb5.size; obtain ⟨⟨u0, x0⟩, ⟨u1, x1⟩, ⟨u2, x2⟩, ⟨u3, x3⟩, ⟨u4, x4⟩, ⟨u5, x5⟩, f0, f1, f2, f3, f4, f5⟩ := ho5.getB (k := i) hkl; have kB : w5.cell? ⟨w.heap.size, 0, none⟩ = some (.int .i64 a) := (by rw [q5]; rfl); have kD : w5.cell? ⟨w3.heap.size, 2, none⟩ = some (.slice (some ⟨g, 0, none⟩) cs.length c3) := (by rw [qd5]; rfl); have hkeep := And.intro kB kD))
            clear hkeep e1 e1k e2k e2 e3 eik eiw
            have ho6 := ho5.set (k := i) hkl bk
            have eU : (upd cs (roF cs a j k n0) (j * a) (p + xx)).set i bk = upd cs (roF cs a j k n0) (j * a) (p + (xx + 1)) := by
              rw [← HF.out, ← hpy.out, ← hi.out]
              have := upd_set (cs := cs) (f := roF cs a j k n0) (lo := j * a) (hi := i) hic hjp
              rw [this, hi.out]
              rfl
            rw [eU] at ho6
            go_wp2_with fail
            all_goals clear eW eWk
            all_goals try (exfalso; omega)
            refine ⟨⟨xx + 1, by omega, by go_num, ho6, Lib.hid (heap_six B5 (by omega) _ _ _ _ _ _), Lib.hid (heap_six C5 (by omega) _ _ _ _ _ _), Lib.hid (heap_six D5 (by omega) _ _ _ _ _ _), below_six v5 (by omega) _ _ _ _ _ _, by simp; omega⟩, ?_⟩
            simp [intOf]
            omega

          obtain ⟨r, er⟩ := Int.eq_ofNat_of_zero_le (show 0 ≤ (yy : Int) + n by omega)
          have hr1 : j ≤ r := by omega
          have hr3 : r ≤ k := by omega
          have hrb : r < bb := by omega
          obtain ⟨pr, hpr⟩ : ∃ pr, Hid (pr = r * a) := ⟨_, rfl⟩
          have hpra : pr + a ≤ cs.length := by
            rw [HN2.out, hpr.out]
            exact (row_bd hrb ha1).2
          obtain ⟨s, hs'⟩ : ∃ s, Hid (s = pr + xx) := ⟨_, rfl⟩
          have hsc : s < cs.length := by have := hs'.out; omega
          have hsc' : (s : Int) < cs.length := by omega
          have HF : Hid (roF cs a j k n0 (yy * a + xx) = cs[s]) := by
            show _ = _
            rw [hn0]
            have hss : s = r * a + xx := by rw [hs'.out, hpr.out]
            subst hss
            exact ro_in hlt er hr1 hr3 hsc
          have HEr := Lib.hid er
          have HE2 := Lib.hid (mul_nat hpr.out (by omega))
          have HE2k := Lib.hid (mul_natk hpr.out (by omega))
          have hs4 : s ≤ 1048576 := by omega
          have hs5 : -1048576 ≤ (s : Int) := by omega
          have hs6 : (s : Int) ≤ 1048576 := by omega
          have hr5 : -1048576 ≤ (r : Int) := by omega
          have hr6 : (r : Int) ≤ 1048576 := by omega
          have hs0 : (0 : Int) ≤ (s : Int) := Int.natCast_nonneg s
          have hr1' : (j : Int) ≤ r := by omega
          have hr3' : (r : Int) ≤ k := by omega
          clear hr hr2 hn0 er
          obtain ⟨e2k, e2, e3⟩ := add_natk hi.out hi4
          obtain ⟨eik, eiw⟩ := small_k hi5 hi6
          have e1 := HE1.out
          have e1k := HE1k.out
          go_wp2_with fail
          go_region_held3 (fun w' => w'.cell? ⟨w.heap.size, 0, none⟩ = some (.int .i64 a) ∧ w'.cell? ⟨w3.heap.size, 2, none⟩ = some (.slice (some ⟨g, 0, none⟩) cs.length c3))
            (first | with_reducible assumption | exact ⟨cell_six kB hgB _ _ _ _ _ _, cell_six kD hgD _ _ _ _ _ _⟩ | exact ⟨by simpa using cB, by simpa using cD⟩)
            ((go_at_call 125; refine (l07Blank_any _).mono ?_; rintro e w5 ⟨rfl, hb5'⟩; have hb5 : Below wr.heap.size wr w5 := (Below.drew (Below.refl _ _)).trans hb5'; obtain ⟨B5, q5, r5, z5⟩ := keep_blk hb5 hB.out; obtain ⟨C5, qq5, rr5, zz5⟩ := keep_blk hb5 hC.out; obtain ⟨D5, qd5, rd5, zd5⟩ := keep_blk hb5 hD.out; have ho5 := ho.below hb5 (Nat.le_refl _); have v5 := hb.trans (hb5.mono hb.size); have zw5 := hb5.size; obtain ⟨⟨u0, x0⟩, ⟨u1, x1⟩, ⟨u2, x2⟩, ⟨u3, x3⟩, ⟨u4, x4⟩, ⟨u5, x5⟩, f0, f1, f2, f3, f4, f5⟩ := ho5.getB (k := i) hkl; have kB : w5.cell? ⟨w.heap.size, 0, none⟩ = some (.int .i64 a) := (by rw [q5]; rfl); have kD : w5.cell? ⟨w3.heap.size, 2, none⟩ = some (.slice (some ⟨g, 0, none⟩) cs.length c3) := (by rw [qd5]; rfl); have hkeep := And.intro kB kD))
          clear hkeep e1 e1k e2k e2 e3 eik eiw

          have ho6 := ho5.set (k := i) hkl bk
          have v6 := below_six (o0 := i * 6) (o1 := i * 6 + 1) (o2 := i * 6 + 2) (o3 := i * 6 + 3) (o4 := i * 6 + 4) (o5 := i * 6 + 5) v5 (show w.heap.size ≤ g by omega) (.int .i64 32) (.int .i64 0) (.int .i64 0) (.bool false) (.bool false) (.bool false)
          have B6 := heap_six (o0 := i * 6) (o1 := i * 6 + 1) (o2 := i * 6 + 2) (o3 := i * 6 + 3) (o4 := i * 6 + 4) (o5 := i * 6 + 5) B5 hgB (.int .i64 32) (.int .i64 0) (.int .i64 0) (.bool false) (.bool false) (.bool false)
          have C6 := heap_six (o0 := i * 6) (o1 := i * 6 + 1) (o2 := i * 6 + 2) (o3 := i * 6 + 3) (o4 := i * 6 + 4) (o5 := i * 6 + 5) C5 hgC (.int .i64 32) (.int .i64 0) (.int .i64 0) (.bool false) (.bool false) (.bool false)
          have D6 := heap_six (o0 := i * 6) (o1 := i * 6 + 1) (o2 := i * 6 + 2) (o3 := i * 6 + 3) (o4 := i * 6 + 4) (o5 := i * 6 + 5) D5 hgD (.int .i64 32) (.int .i64 0) (.int .i64 0) (.bool false) (.bool false) (.bool false)
          obtain ⟨erk, erw⟩ := small_k hr5 hr6
          have er := HEr.out
          go_wp2_with fail
          clear erk erw er
          have zw6 : w5.heap.size = (((((((w5.setCell ⟨g, i * 6, none⟩ (.int .i64 32)).setCell ⟨g, i * 6 + 1, none⟩ (.int .i64 0)).setCell ⟨g, i * 6 + 2, none⟩ (.int .i64 0)).setCell ⟨g, i * 6 + 3, none⟩ (.bool false)).setCell ⟨g, i * 6 + 4, none⟩ (.bool false)).setCell ⟨g, i * 6 + 5, none⟩ (.bool false))).heap.size := by simp
          generalize ((((((w5.setCell ⟨g, i * 6, none⟩ (.int .i64 32)).setCell ⟨g, i * 6 + 1, none⟩ (.int .i64 0)).setCell ⟨g, i * 6 + 2, none⟩ (.int .i64 0)).setCell ⟨g, i * 6 + 3, none⟩ (.bool false)).setCell ⟨g, i * 6 + 4, none⟩ (.bool false)).setCell ⟨g, i * 6 + 5, none⟩ (.bool false)) = w6 at ho6 v6 B6 C6 D6 zw6 ⊢
          clear q5 r5 qq5 rr5 qd5 rd5 x0 x1 x2 x3 x4 x5 f0 f1 f2 f3 f4 f5 B5 C5 D5 kB kD ho5 cB cD q0 qd0
          have q6 : ∀ i, w6.cell? ⟨w.heap.size, i, none⟩ = _ := fun i => cell_of_row w6 _ i _ _ (0, 0) B6
          have qd6 : ∀ i, w6.cell? ⟨w3.heap.size, i, none⟩ = _ := fun i => cell_of_row w6 _ i _ _ (0, 0) D6
          have cB0 : w6.cell? ⟨w.heap.size, 0, none⟩ = some (.int .i64 a) := by rw [q6]; rfl
          have cB2 : w6.cell? ⟨w.heap.size, 2, none⟩ = some (.slice A cs.length c) := by rw [q6]; rfl
          have cD2 : w6.cell? ⟨w3.heap.size, 2, none⟩ = some (.slice (some ⟨g, 0, none⟩) cs.length c3) := by rw [qd6]; rfl
          have hkl7 : i < ((upd cs (roF cs a j k n0) (j * a) (p + xx)).set i bk).length := by rw [List.length_set]; exact hkl
          obtain ⟨⟨u0, x0⟩, ⟨u1, x1⟩, ⟨u2, x2⟩, ⟨u3, x3⟩, ⟨u4, x4⟩, ⟨u5, x5⟩, f0, f1, f2, f3, f4, f5⟩ := ho6.getB (k := i) hkl7
          obtain ⟨b, o, rfl, hbs, y0, y1, y2, y3, y4, y5⟩ := (ha.below v6).get hsc
          have hgb : ¬ b = g := by
            obtain ⟨b', o', hA', hb', _⟩ := ha.get hsc
            obtain ⟨rfl, rfl⟩ : b = b' ∧ o = o' := by simpa using hA'
            omega
          have kB0 : w6.drew.cell? ⟨w.heap.size, 0, none⟩ = some (.int .i64 a) := by simpa using cB0
          have kB2 : w6.drew.cell? ⟨w.heap.size, 2, none⟩ = some (.slice (some ⟨b, o, none⟩) cs.length c) := by simpa using cB2
          have kD2 : w6.drew.cell? ⟨w3.heap.size, 2, none⟩ = some (.slice (some ⟨g, 0, none⟩) cs.length c3) := by simpa using cD2
          have kY0 : w6.drew.cell? ⟨b, o + s * 6, none⟩ = some (.int .i64 cs[s].1) := by simpa using y0
          have kY1 : w6.drew.cell? ⟨b, o + s * 6 + 1, none⟩ = some (.int .i64 cs[s].2.1) := by simpa using y1
          have kY2 : w6.drew.cell? ⟨b, o + s * 6 + 2, none⟩ = some (.int .i64 cs[s].2.2.1) := by simpa using y2
          have kY3 : w6.drew.cell? ⟨b, o + s * 6 + 3, none⟩ = some (.bool cs[s].2.2.2.1) := by simpa using y3
          have kY4 : w6.drew.cell? ⟨b, o + s * 6 + 4, none⟩ = some (.bool cs[s].2.2.2.2.1) := by simpa using y4
          have kY5 : w6.drew.cell? ⟨b, o + s * 6 + 5, none⟩ = some (.bool cs[s].2.2.2.2.2) := by simpa using y5

          obtain ⟨e2k, e2, e3⟩ := add_natk hi.out hi4
          obtain ⟨eik, eiw⟩ := small_k hi5 hi6
          obtain ⟨f2k, f2, f3⟩ := add_natk hs'.out hs4
          obtain ⟨esk, esw⟩ := small_k hs5 hs6
          obtain ⟨erk, erw⟩ := small_k hr5 hr6
          have er := HEr.out
          have e1 := HE1.out
          have e1k := HE1k.out
          have g1 := HE2.out
          have g1k := HE2k.out
          go_region_held3 (fun w' => w'.cell? ⟨w.heap.size, 0, none⟩ = some (.int .i64 a) ∧ w'.cell? ⟨w.heap.size, 2, none⟩ = some (.slice (some ⟨b, o, none⟩) cs.length c) ∧ w'.cell? ⟨w3.heap.size, 2, none⟩ = some (.slice (some ⟨g, 0, none⟩) cs.length c3) ∧ w'.cell? ⟨b, o + s * 6, none⟩ = some (.int .i64 cs[s].1) ∧ w'.cell? ⟨b, o + s * 6 + 1, none⟩ = some (.int .i64 cs[s].2.1) ∧ w'.cell? ⟨b, o + s * 6 + 2, none⟩ = some (.int .i64 cs[s].2.2.1) ∧ w'.cell? ⟨b, o + s * 6 + 3, none⟩ = some (.bool cs[s].2.2.2.1) ∧ w'.cell? ⟨b, o + s * 6 + 4, none⟩ = some (.bool cs[s].2.2.2.2.1) ∧ w'.cell? ⟨b, o + s * 6 + 5, none⟩ = some (.bool cs[s].2.2.2.2.2))
            (first | with_reducible exact ⟨kB0, kB2, kD2, kY0, kY1, kY2, kY3, kY4, kY5⟩ | with_reducible assumption | with_reducible exact ⟨cell_sixd cB0 hgB _ _ _ _ _ _, cell_sixd cB2 hgB _ _ _ _ _ _, cell_sixd cD2 hgD _ _ _ _ _ _, cell_sixd y0 hgb _ _ _ _ _ _, cell_sixd y1 hgb _ _ _ _ _ _, cell_sixd y2 hgb _ _ _ _ _ _, cell_sixd y3 hgb _ _ _ _ _ _, cell_sixd y4 hgb _ _ _ _ _ _, cell_sixd y5 hgb _ _ _ _ _ _⟩)
            (fail)
          clear er erk erw f2k f2 f3 e2k e2 e3 eik eiw esk esw e1 e1k g1 g1k
          go_wp2_with fail
          have ho8 := ho6.set (k := i) hkl7 cs[s]
          have eU : ((upd cs (roF cs a j k n0) (j * a) (p + xx)).set i bk).set i cs[s] = upd cs (roF cs a j k n0) (j * a) (p + (xx + 1)) := by
            rw [List.set_set, ← HF.out, ← hpy.out, ← hi.out]
            have := upd_set (cs := cs) (f := roF cs a j k n0) (lo := j * a) (hi := i) hic hjp
            rw [this, hi.out]
            rfl
          rw [eU] at ho8
          refine ⟨⟨xx + 1, by omega, by go_num, ho8.drew, Lib.hid (heap_drew (heap_six B6 hgB _ _ _ _ _ _)), Lib.hid (heap_drew (heap_six C6 hgC _ _ _ _ _ _)), Lib.hid (heap_drew (heap_six D6 hgD _ _ _ _ _ _)), (below_six v6 (by omega) _ _ _ _ _ _).drew, by simp; omega⟩, ?_⟩
          simp [intOf]
          omega

        · have hlt' : ¬ (xx : Int) < a := by omega
          have hxa : xx = a := by omega
          have ho' : Og wr w1.heap.size (some ⟨g, 0, none⟩) c3 (upd cs (roF cs a j k n0) (j * a) ((yy + 1) * a)) := by
            rw [hxa, hpy.out, ← Nat.succ_mul] at ho
            exact ho
          clear hxa ho
          go_wp2_with fail
          refine ⟨⟨yy + 1, by omega, by omega, by go_num, ho', hB, hC, hD, hb, hs⟩, ?_⟩
          simp [intOf]
          omega

    · have hyk : yy = k + 1 := by omega
      have ho' : Og wr w1.heap.size (some ⟨g, 0, none⟩) c3 (roL cs a j k n0) := by rw [hyk] at ho; exact ho
      have hlty' : ¬ (yy : Int) ≤ k := by omega
      have qd0 : ∀ i, wr.cell? ⟨w3.heap.size, i, none⟩ = _ := fun i => cell_of_row wr _ i _ _ (0, 0) hD.out
      have qq0 : ∀ i, wr.cell? ⟨w.heap.size + 1, i, none⟩ = _ := fun i => cell_of_row wr _ i _ _ (0, 0) hC.out
      have rr0 : ∀ i, wr.frozen? ⟨w.heap.size + 1, i, none⟩ = false := fun i => by simp [World.frozen?, hC.out]
      have zr := (Array.getElem?_eq_some_iff.1 hC.out).1
      clear hyk ho
      go_wp2_with fail
      refine bodyPost_ret (v := gV a bb (some ⟨g, 0, none⟩) cs.length c3) (by simp [results, Try.results101, go_sem, *]) rfl ?_
      have hL : (roL cs a j k n0).length = cs.length := upd_len
      have ho2 := (((ho'.setCell (p := ⟨w.heap.size + 1, 0, none⟩) (by first | omega | (simp; done) | (simp; omega)) (.int .i64 a)).setCell (p := ⟨w.heap.size + 1, 1, none⟩) (by first | omega | (simp; done) | (simp; omega)) (.int .i64 bb)).setCell (p := ⟨w.heap.size + 1, 2, none⟩) (by first | omega | (simp; done) | (simp; omega)) (.slice (some ⟨g, 0, none⟩) cs.length c3))
      exact ⟨_, c3, by rw [hL], ho2.mono (by omega), ho2.gs, (ho2.mono (by omega)).inB, ((hb.setCell (by first | omega | (simp; done) | (simp; omega)) _).setCell (by first | omega | (simp; done) | (simp; omega)) _).setCell (by first | omega | (simp; done) | (simp; omega)) _⟩
end Go.Proofs.Ytnilgcahggmncaa
