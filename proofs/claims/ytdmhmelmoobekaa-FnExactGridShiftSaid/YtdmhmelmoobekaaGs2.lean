/- A row of a grid shifted: the reference's way. -/
import Derived.Test.YtdmhmelmoobekaaGw
namespace Go.Proofs.Ytdmhmelmoobekaa
open Go.RowKit
set_option linter.unusedVariables false
set_option maxRecDepth 100000

set_option maxHeartbeats 8000000 in
theorem gridShift_spec (W H : Int) (A : Option Addr) (c : Nat) (cs : List Cl) (x y n : Int) (w : World) (ha : Gs w A cs) (h1 : cs.length ≤ 1048576) :
    Calls Try.prog 43 #[gV W H A cs.length c, .int .i64 x, .int .i64 y, .int .i64 n] w (GridPost w (shR W H cs x y n).1 (shR W H cs x y n).2.1 (shR W H cs x y n).2.2) := by
  have hb0 : Below w.heap.size w ((w.alloc (.cells #[.int .i64 W, .int .i64 H, .slice A cs.length c] 33)).alloc (.cells #[.int .i64 0, .int .i64 0, .slice none 0 0] 33)) := by (repeat (first | exact Below.refl _ _ | (refine Below.alloc ?_ (by first | omega | (simp; done) | (simp; omega)) _) | (refine Below.drew ?_) | (refine below_drewN ?_ _) | (refine below_at1 ?_ (by first | omega | (simp; done) | (simp; omega))) | (refine Below.setCell ?_ (by first | omega | (simp; done) | (simp; omega)) _) | (refine Below.trans ?_ (Below.mono (by assumption) (by first | omega | (simp; done) | (simp; omega))))))
  by_cases hg : gridB W H cs = true
  case neg =>
    have HG : Hid (gridB W H cs = false) := by show _ = _; simpa using hg
    have HR := Lib.hid (sh_no (x := x) (y := y) (n := n) (fun h => hg h.1))
    clear hg
    generalize shR W H cs x y n = R at HR ⊢
    go_enter Try.func43, Try.ntmps43
    go_wp2_with fail
    refine (gridOk_spec W H _ _ cs _ (ha.below hb0) h1).mono ?_
    rintro e w1 ⟨he, hb1⟩
    rw [HG.out] at he
    subst he
    obtain ⟨C1, qq1, rr1, zz1⟩ := keep_blk hb1 (g := w.heap.size + 1) (by repeat (first | assumption | exact heap_alloc_at _ (by first | rfl | (simp; done) | omega) | refine heap_alloc_of _ ?_ | refine heap_setCell_of _ (by first | omega | (simp; done) | (simp; omega)) ?_ | refine heap_setCell_same _ ?_ | exact heap_at1_same (by first | omega | (simp; done) | (simp; omega)) | refine heap_at1_of (by first | omega | (simp; done) | (simp; omega)) ?_))
    have t1 := hb0.trans (hb1.mono hb0.size)
    go_wp2_with fail
    exact bodyPost_ret (v := .agg #[.int .i64 0, .int .i64 0, .slice none 0 0]) (by simp [results, Try.results43, go_sem, *]) rfl (gp_nil (((t1.setCell (by first | omega | (simp; done) | (simp; omega)) _).setCell (by first | omega | (simp; done) | (simp; omega)) _).setCell (by first | omega | (simp; done) | (simp; omega)) _) R HR.out)
  obtain ⟨⟨s1, s2⟩, ⟨s3, s4⟩, s5, hl⟩ := grid_len hg
  have HG := Lib.hid hg
  have HLL := Lib.hid hl
  have H55 := Lib.hid s5
  clear hg hl s5
  by_cases k0 : x < 0
  · have HR := Lib.hid (sh_no (W := W) (H := H) (cs := cs) (x := x) (y := y) (n := n) (fun h => by have h2 := h.2; clear h; omega))
    generalize shR W H cs x y n = R at HR ⊢
    go_enter Try.func43, Try.ntmps43
    go_wp2_with fail
    refine (gridOk_spec W H _ _ cs _ (ha.below hb0) h1).mono ?_
    rintro e w1 ⟨he, hb1⟩
    rw [HG.out] at he
    subst he
    obtain ⟨B1, q1, r1, z1⟩ := keep_blk hb1 (g := w.heap.size) (by repeat (first | assumption | exact heap_alloc_at _ (by first | rfl | (simp; done) | omega) | refine heap_alloc_of _ ?_ | refine heap_setCell_of _ (by first | omega | (simp; done) | (simp; omega)) ?_ | refine heap_setCell_same _ ?_ | exact heap_at1_same (by first | omega | (simp; done) | (simp; omega)) | refine heap_at1_of (by first | omega | (simp; done) | (simp; omega)) ?_))
    obtain ⟨C1, qq1, rr1, zz1⟩ := keep_blk hb1 (g := w.heap.size + 1) (by repeat (first | assumption | exact heap_alloc_at _ (by first | rfl | (simp; done) | omega) | refine heap_alloc_of _ ?_ | refine heap_setCell_of _ (by first | omega | (simp; done) | (simp; omega)) ?_ | refine heap_setCell_same _ ?_ | exact heap_at1_same (by first | omega | (simp; done) | (simp; omega)) | refine heap_at1_of (by first | omega | (simp; done) | (simp; omega)) ?_))
    have t1 := hb0.trans (hb1.mono hb0.size)
    go_wp2_with fail
    exact bodyPost_ret (v := .agg #[.int .i64 0, .int .i64 0, .slice none 0 0]) (by simp [results, Try.results43, go_sem, *]) rfl (gp_nil (((t1.setCell (by first | omega | (simp; done) | (simp; omega)) _).setCell (by first | omega | (simp; done) | (simp; omega)) _).setCell (by first | omega | (simp; done) | (simp; omega)) _) R HR.out)
  by_cases k1 : W ≤ x
  · have HR := Lib.hid (sh_no (W := W) (H := H) (cs := cs) (x := x) (y := y) (n := n) (fun h => by have h2 := h.2; clear h; omega))
    generalize shR W H cs x y n = R at HR ⊢
    go_enter Try.func43, Try.ntmps43
    go_wp2_with fail
    refine (gridOk_spec W H _ _ cs _ (ha.below hb0) h1).mono ?_
    rintro e w1 ⟨he, hb1⟩
    rw [HG.out] at he
    subst he
    obtain ⟨B1, q1, r1, z1⟩ := keep_blk hb1 (g := w.heap.size) (by repeat (first | assumption | exact heap_alloc_at _ (by first | rfl | (simp; done) | omega) | refine heap_alloc_of _ ?_ | refine heap_setCell_of _ (by first | omega | (simp; done) | (simp; omega)) ?_ | refine heap_setCell_same _ ?_ | exact heap_at1_same (by first | omega | (simp; done) | (simp; omega)) | refine heap_at1_of (by first | omega | (simp; done) | (simp; omega)) ?_))
    obtain ⟨C1, qq1, rr1, zz1⟩ := keep_blk hb1 (g := w.heap.size + 1) (by repeat (first | assumption | exact heap_alloc_at _ (by first | rfl | (simp; done) | omega) | refine heap_alloc_of _ ?_ | refine heap_setCell_of _ (by first | omega | (simp; done) | (simp; omega)) ?_ | refine heap_setCell_same _ ?_ | exact heap_at1_same (by first | omega | (simp; done) | (simp; omega)) | refine heap_at1_of (by first | omega | (simp; done) | (simp; omega)) ?_))
    have t1 := hb0.trans (hb1.mono hb0.size)
    go_wp2_with fail
    exact bodyPost_ret (v := .agg #[.int .i64 0, .int .i64 0, .slice none 0 0]) (by simp [results, Try.results43, go_sem, *]) rfl (gp_nil (((t1.setCell (by first | omega | (simp; done) | (simp; omega)) _).setCell (by first | omega | (simp; done) | (simp; omega)) _).setCell (by first | omega | (simp; done) | (simp; omega)) _) R HR.out)
  by_cases k2 : y < 0
  · have HR := Lib.hid (sh_no (W := W) (H := H) (cs := cs) (x := x) (y := y) (n := n) (fun h => by have h2 := h.2; clear h; omega))
    generalize shR W H cs x y n = R at HR ⊢
    go_enter Try.func43, Try.ntmps43
    go_wp2_with fail
    refine (gridOk_spec W H _ _ cs _ (ha.below hb0) h1).mono ?_
    rintro e w1 ⟨he, hb1⟩
    rw [HG.out] at he
    subst he
    obtain ⟨B1, q1, r1, z1⟩ := keep_blk hb1 (g := w.heap.size) (by repeat (first | assumption | exact heap_alloc_at _ (by first | rfl | (simp; done) | omega) | refine heap_alloc_of _ ?_ | refine heap_setCell_of _ (by first | omega | (simp; done) | (simp; omega)) ?_ | refine heap_setCell_same _ ?_ | exact heap_at1_same (by first | omega | (simp; done) | (simp; omega)) | refine heap_at1_of (by first | omega | (simp; done) | (simp; omega)) ?_))
    obtain ⟨C1, qq1, rr1, zz1⟩ := keep_blk hb1 (g := w.heap.size + 1) (by repeat (first | assumption | exact heap_alloc_at _ (by first | rfl | (simp; done) | omega) | refine heap_alloc_of _ ?_ | refine heap_setCell_of _ (by first | omega | (simp; done) | (simp; omega)) ?_ | refine heap_setCell_same _ ?_ | exact heap_at1_same (by first | omega | (simp; done) | (simp; omega)) | refine heap_at1_of (by first | omega | (simp; done) | (simp; omega)) ?_))
    have t1 := hb0.trans (hb1.mono hb0.size)
    go_wp2_with fail
    exact bodyPost_ret (v := .agg #[.int .i64 0, .int .i64 0, .slice none 0 0]) (by simp [results, Try.results43, go_sem, *]) rfl (gp_nil (((t1.setCell (by first | omega | (simp; done) | (simp; omega)) _).setCell (by first | omega | (simp; done) | (simp; omega)) _).setCell (by first | omega | (simp; done) | (simp; omega)) _) R HR.out)
  by_cases k3 : H ≤ y
  · have HR := Lib.hid (sh_no (W := W) (H := H) (cs := cs) (x := x) (y := y) (n := n) (fun h => by have h2 := h.2; clear h; omega))
    generalize shR W H cs x y n = R at HR ⊢
    go_enter Try.func43, Try.ntmps43
    go_wp2_with fail
    refine (gridOk_spec W H _ _ cs _ (ha.below hb0) h1).mono ?_
    rintro e w1 ⟨he, hb1⟩
    rw [HG.out] at he
    subst he
    obtain ⟨B1, q1, r1, z1⟩ := keep_blk hb1 (g := w.heap.size) (by repeat (first | assumption | exact heap_alloc_at _ (by first | rfl | (simp; done) | omega) | refine heap_alloc_of _ ?_ | refine heap_setCell_of _ (by first | omega | (simp; done) | (simp; omega)) ?_ | refine heap_setCell_same _ ?_ | exact heap_at1_same (by first | omega | (simp; done) | (simp; omega)) | refine heap_at1_of (by first | omega | (simp; done) | (simp; omega)) ?_))
    obtain ⟨C1, qq1, rr1, zz1⟩ := keep_blk hb1 (g := w.heap.size + 1) (by repeat (first | assumption | exact heap_alloc_at _ (by first | rfl | (simp; done) | omega) | refine heap_alloc_of _ ?_ | refine heap_setCell_of _ (by first | omega | (simp; done) | (simp; omega)) ?_ | refine heap_setCell_same _ ?_ | exact heap_at1_same (by first | omega | (simp; done) | (simp; omega)) | refine heap_at1_of (by first | omega | (simp; done) | (simp; omega)) ?_))
    have t1 := hb0.trans (hb1.mono hb0.size)
    go_wp2_with fail
    exact bodyPost_ret (v := .agg #[.int .i64 0, .int .i64 0, .slice none 0 0]) (by simp [results, Try.results43, go_sem, *]) rfl (gp_nil (((t1.setCell (by first | omega | (simp; done) | (simp; omega)) _).setCell (by first | omega | (simp; done) | (simp; omega)) _).setCell (by first | omega | (simp; done) | (simp; omega)) _) R HR.out)
  obtain ⟨a, rfl⟩ := Int.eq_ofNat_of_zero_le (show 0 ≤ W by omega)
  obtain ⟨bb, rfl⟩ := Int.eq_ofNat_of_zero_le (show 0 ≤ H by omega)
  obtain ⟨j, rfl⟩ := Int.eq_ofNat_of_zero_le (show 0 ≤ x by omega)
  obtain ⟨k, rfl⟩ := Int.eq_ofNat_of_zero_le (show 0 ≤ y by omega)
  have hj : j < a := by omega
  have hk : k < bb := by omega
  have hcl : cs.length ≤ 4000 := by
    have h5 := H55.out
    have hl := HLL.out
    omega
  have hlN : cs.length = bb * a := by
    have hl := HLL.out
    have h : ((bb * a : Nat) : Int) = (a : Int) * bb := by rw [Int.mul_comm]; simp
    omega
  obtain ⟨rb1, rb2⟩ := row_bd hk hj
  obtain ⟨p, hp⟩ : ∃ p, Hid (p = k * a) := ⟨_, rfl⟩
  have hpa : p + a ≤ cs.length := by rw [hlN, hp.out]; exact rb2
  have hcl0 : 0 < cs.length := by omega
  have HR : Hid (shR a bb cs j k n = ((a : Int), (bb : Int), shL cs p j a n)) := by
    show _ = _
    rw [shR, if_pos ⟨HG.out, ⟨⟨by omega, by omega⟩, ⟨by omega, by omega⟩⟩⟩]
    have e : ((k : Int) * (a : Int)).toNat = p := by
      have h2 : ((k * a : Nat) : Int) = (k : Int) * (a : Int) := by simp
      rw [← h2, ← hp.out]
      omega
    rw [e]
    rfl
  rw [HR.out]
  show Calls _ _ _ _ (GridPost w (a : Int) (bb : Int) (shL cs p j a n))
  have HE1 := Lib.hid (mul_nat hp.out (by omega))
  have HE1k := Lib.hid (mul_natk hp.out (by omega))
  have HEA : Hid (wrap64 (-(a : Int)) = -(a : Int)) := w64 (n := -(a : Int)) ⟨by omega, by omega⟩
  clear hlN rb1 rb2 HR
  by_cases c1 : (a : Int) < n
  · have HQ := Lib.hid (sh_clamp (cs := cs) (p := p) (j := j) (a := a) (n := n) (m := (a : Int)) (.inr (.inl ⟨by omega, by omega⟩)))
    obtain ⟨n0, hn0⟩ : ∃ n0 : Int, n0 = (a : Int) := ⟨_, rfl⟩
    have hM1 : -120 ≤ ((a : Int) : Int) := by omega
    have hM2 : ((a : Int) : Int) ≤ 120 := by omega
    rw [show shL cs p j a n = shL cs p j a n0 by rw [hn0]; exact HQ.out]
    have HN0 := Lib.hid hn0
    clear hn0
    have ea := HEA.out
    go_enter Try.func43, Try.ntmps43
    go_wp2_with fail
    refine (gridOk_spec a bb _ _ cs _ (ha.below hb0) h1).mono ?_
    rintro e w1 ⟨he, hb1⟩
    rw [HG.out] at he
    subst he
    obtain ⟨B1, q1, r1, z1⟩ := keep_blk hb1 (g := w.heap.size) (by repeat (first | assumption | exact heap_alloc_at _ (by first | rfl | (simp; done) | omega) | refine heap_alloc_of _ ?_ | refine heap_setCell_of _ (by first | omega | (simp; done) | (simp; omega)) ?_ | refine heap_setCell_same _ ?_ | exact heap_at1_same (by first | omega | (simp; done) | (simp; omega)) | refine heap_at1_of (by first | omega | (simp; done) | (simp; omega)) ?_))
    obtain ⟨C1, qq1, rr1, zz1⟩ := keep_blk hb1 (g := w.heap.size + 1) (by repeat (first | assumption | exact heap_alloc_at _ (by first | rfl | (simp; done) | omega) | refine heap_alloc_of _ ?_ | refine heap_setCell_of _ (by first | omega | (simp; done) | (simp; omega)) ?_ | refine heap_setCell_same _ ?_ | exact heap_at1_same (by first | omega | (simp; done) | (simp; omega)) | refine heap_at1_of (by first | omega | (simp; done) | (simp; omega)) ?_))
    have t1 := hb0.trans (hb1.mono hb0.size)
    go_wp2_with fail
    refine (l07Copy_any a bb _ _ cs _ (ha.below t1) hcl0 h1).mono ?_
    rintro e w3 ⟨A3, c3, rfl, ho3, hs3, hi3, hb3⟩
    obtain ⟨B3, q3, r3, z3⟩ := keep_blk hb3 B1
    obtain ⟨C3, qq3, rr3, zz3⟩ := keep_blk hb3 C1
    clear B1 q1 r1 C1 qq1 rr1 hs3 hi3
    have t3 := t1.trans (hb3.mono t1.size)
    obtain ⟨g, rfl, hlo, hcm, hxc, _⟩ := ho3.fill hcl0
    have hgl := (ho3.lt g rfl).2
    go_wp2_with fail
    obtain ⟨w4, hw4⟩ : ∃ w4, w4 = w3.alloc (.cells #[.int .i64 a, .int .i64 bb, .slice (some ⟨g, 0, none⟩) cs.length c3] 33) := ⟨_, rfl⟩
    rw [← hw4]
    have HB4 : Hid (w4.heap[w.heap.size]? = (some (.cells #[.int .i64 a, .int .i64 bb, .slice A cs.length c] 33 (0, 0)))) := by subst hw4; exact heap_alloc_of _ B3
    have HC4 : Hid (w4.heap[w.heap.size + 1]? = (some (.cells #[.int .i64 0, .int .i64 0, .slice none 0 0] 33 (0, 0)))) := by subst hw4; exact heap_alloc_of _ C3
    have HD4 : Hid (w4.heap[w3.heap.size]? = some (.cells #[.int .i64 a, .int .i64 bb, .slice (some ⟨g, 0, none⟩) cs.length c3] 33 (0, 0))) := by subst hw4; exact heap_alloc_new _ _
    have ho4 : Og w4 w1.heap.size (some ⟨g, 0, none⟩) c3 cs := by subst hw4; exact ho3.alloc _
    have t4 : Below w.heap.size w w4 := by subst hw4; exact t3.alloc t3.size _
    have hsz : w3.heap.size < w4.heap.size := by subst hw4; simp
    clear hw4 B3 C3 q3 r3 qq3 rr3 hb0 hb1 hb3
    go_loopw [10] (fun i wr => ∃ kk : Nat, j ≤ kk ∧ kk ≤ a ∧ i = .int .i64 kk ∧ Og wr w1.heap.size (some ⟨g, 0, none⟩) c3 (upd cs (shF cs p j a n0) (p + j) (p + kk)) ∧ Hid (wr.heap[w.heap.size]? = (some (.cells #[.int .i64 a, .int .i64 bb, .slice A cs.length c] 33 (0, 0)))) ∧ Hid (wr.heap[w.heap.size + 1]? = (some (.cells #[.int .i64 0, .int .i64 0, .slice none 0 0] 33 (0, 0)))) ∧ Hid (wr.heap[w3.heap.size]? = (some (.cells #[.int .i64 a, .int .i64 bb, .slice (some ⟨g, 0, none⟩) cs.length c3] 33 (0, 0)))) ∧ Below w.heap.size w wr ∧ w4.heap.size ≤ wr.heap.size) (fun i _ => a - (intOf i).toNat)
    case atStart => exact ⟨j, Nat.le_refl _, by omega, rfl, by rw [upd_self]; exact ho4, HB4, HC4, HD4, t4, Nat.le_refl _⟩
    case round =>
      clear ho4 HB4 HC4 HD4 ea
      obtain ⟨kk, hk1, hk2, rfl, ho, hB, hC, hD, hb, hs⟩ := hrel
      have q0 : ∀ i, wr.cell? ⟨w.heap.size, i, none⟩ = _ := fun i => cell_of_row wr _ i _ _ (0, 0) hB.out
      have qd0 : ∀ i, wr.cell? ⟨w3.heap.size, i, none⟩ = _ := fun i => cell_of_row wr _ i _ _ (0, 0) hD.out
      have cB : wr.cell? ⟨w.heap.size, 0, none⟩ = some (.int .i64 a) := by rw [q0]; rfl
      have cD : wr.cell? ⟨w3.heap.size, 2, none⟩ = some (.slice (some ⟨g, 0, none⟩) cs.length c3) := by rw [qd0]; rfl
      have hgB : ¬ w.heap.size = g := by omega
      have hgD : ¬ w3.heap.size = g := by omega
      have hgC : ¬ w.heap.size + 1 = g := by omega
      by_cases hlt : kk < a
      · obtain ⟨i, hi⟩ : ∃ i, Hid (i = p + kk) := ⟨_, rfl⟩
        have hic : i < cs.length := by have := hi.out; omega
        have hkl : i < (upd cs (shF cs p j a n0) (p + j) (p + kk)).length := by rw [upd_len]; exact hic
        have hlt' : (kk : Int) < a := by omega
        have hic' : (i : Int) < cs.length := by omega
        have hi4 : i ≤ 1048576 := by omega
        have hi5 : -1048576 ≤ (i : Int) := by omega
        have hi6 : (i : Int) ≤ 1048576 := by omega
        have hi0 : (0 : Int) ≤ (i : Int) := Int.natCast_nonneg i
        have hn0 := HN0.out
        have hr : (kk : Int) - (a : Int) < j := by omega
        have HF : Hid (shF cs p j a n0 (p + kk) = bk) := by show _ = _; rw [hn0]; exact sh_out (by omega)
        have hw1 : -1048576 ≤ (kk : Int) - (a : Int) := by omega
        have hw2 : (kk : Int) - (a : Int) ≤ 1048576 := by omega
        obtain ⟨eWk, eW⟩ := small_k hw1 hw2
        clear hn0
        obtain ⟨e2k, e2, e3⟩ := add_natk hi.out hi4
        obtain ⟨eik, eiw⟩ := small_k hi5 hi6
        have e1 := HE1.out
        have e1k := HE1k.out
        go_wp2_with fail
        go_region_held3 (fun w' => w'.cell? ⟨w.heap.size, 0, none⟩ = some (.int .i64 a) ∧ w'.cell? ⟨w3.heap.size, 2, none⟩ = some (.slice (some ⟨g, 0, none⟩) cs.length c3))
          (first | with_reducible assumption | exact ⟨cell_six kB hgB _ _ _ _ _ _, cell_six kD hgD _ _ _ _ _ _⟩ | exact ⟨by simpa using cB, by simpa using cD⟩)
          ((go_at_call 63; refine (l07Blank_any _).mono ?_; rintro e w5 ⟨rfl, hb5'⟩; have hb5 : Below wr.heap.size wr w5 := (Below.drew (Below.refl _ _)).trans hb5'; obtain ⟨B5, q5, r5, z5⟩ := keep_blk hb5 hB.out; obtain ⟨C5, qq5, rr5, zz5⟩ := keep_blk hb5 hC.out; obtain ⟨D5, qd5, rd5, zd5⟩ := keep_blk hb5 hD.out; have ho5 := ho.below hb5 (Nat.le_refl _); have v5 := hb.trans (hb5.mono hb.size); have zw5 := hb5.size; obtain ⟨⟨u0, x0⟩, ⟨u1, x1⟩, ⟨u2, x2⟩, ⟨u3, x3⟩, ⟨u4, x4⟩, ⟨u5, x5⟩, f0, f1, f2, f3, f4, f5⟩ := ho5.getB (k := i) hkl; have kB : w5.cell? ⟨w.heap.size, 0, none⟩ = some (.int .i64 a) := (by rw [q5]; rfl); have kD : w5.cell? ⟨w3.heap.size, 2, none⟩ = some (.slice (some ⟨g, 0, none⟩) cs.length c3) := (by rw [qd5]; rfl); have hkeep := And.intro kB kD))
        clear hkeep e1 e1k e2k e2 e3 eik eiw
        have ho6 := ho5.set (k := i) hkl bk
        have eU : (upd cs (shF cs p j a n0) (p + j) (p + kk)).set i bk = upd cs (shF cs p j a n0) (p + j) (p + (kk + 1)) := by
          rw [← HF.out, hi.out]
          exact upd_set (by omega) (by omega)
        rw [eU] at ho6
        go_wp2_with fail
        clear eW eWk
        go_roundw
        case rel => exact ⟨kk + 1, by omega, by omega, by go_num, ho6, Lib.hid (heap_six B5 (by omega) _ _ _ _ _ _), Lib.hid (heap_six C5 (by omega) _ _ _ _ _ _), Lib.hid (heap_six D5 (by omega) _ _ _ _ _ _), below_six v5 (by omega) _ _ _ _ _ _, by simp; omega⟩
        case measure => simp [intOf]; omega

      · have hkk : kk = a := by omega
        have ho' : Og wr w1.heap.size (some ⟨g, 0, none⟩) c3 (shL cs p j a n0) := by rw [hkk] at ho; exact ho
        have hlt' : ¬ (kk : Int) < a := by omega
        have qq0 : ∀ i, wr.cell? ⟨w.heap.size + 1, i, none⟩ = _ := fun i => cell_of_row wr _ i _ _ (0, 0) hC.out
        have rr0 : ∀ i, wr.frozen? ⟨w.heap.size + 1, i, none⟩ = false := fun i => by simp [World.frozen?, hC.out]
        have zr := (Array.getElem?_eq_some_iff.1 hC.out).1
        clear hkk ho
        go_wp2_with fail
        refine bodyPost_ret (v := gV a bb (some ⟨g, 0, none⟩) cs.length c3) (by simp [results, Try.results43, go_sem, *]) rfl ?_
        have hL : (shL cs p j a n0).length = cs.length := upd_len
        have ho2 := (((ho'.setCell (p := ⟨w.heap.size + 1, 0, none⟩) (by first | omega | (simp; done) | (simp; omega)) (.int .i64 a)).setCell (p := ⟨w.heap.size + 1, 1, none⟩) (by first | omega | (simp; done) | (simp; omega)) (.int .i64 bb)).setCell (p := ⟨w.heap.size + 1, 2, none⟩) (by first | omega | (simp; done) | (simp; omega)) (.slice (some ⟨g, 0, none⟩) cs.length c3))
        exact ⟨_, c3, by rw [hL], ho2.mono (by omega), ho2.gs, (ho2.mono (by omega)).inB, ((hb.setCell (by first | omega | (simp; done) | (simp; omega)) _).setCell (by first | omega | (simp; done) | (simp; omega)) _).setCell (by first | omega | (simp; done) | (simp; omega)) _⟩

  by_cases c2 : n < -(a : Int)
  · have HQ := Lib.hid (sh_clamp (cs := cs) (p := p) (j := j) (a := a) (n := n) (m := -(a : Int)) (.inr (.inr ⟨by omega, by omega⟩)))
    obtain ⟨n0, hn0⟩ : ∃ n0 : Int, n0 = -(a : Int) := ⟨_, rfl⟩
    have hM1 : -120 ≤ (-(a : Int) : Int) := by omega
    have hM2 : (-(a : Int) : Int) ≤ 120 := by omega
    rw [show shL cs p j a n = shL cs p j a n0 by rw [hn0]; exact HQ.out]
    have HN0 := Lib.hid hn0
    clear hn0
    have ea := HEA.out
    go_enter Try.func43, Try.ntmps43
    go_wp2_with fail
    refine (gridOk_spec a bb _ _ cs _ (ha.below hb0) h1).mono ?_
    rintro e w1 ⟨he, hb1⟩
    rw [HG.out] at he
    subst he
    obtain ⟨B1, q1, r1, z1⟩ := keep_blk hb1 (g := w.heap.size) (by repeat (first | assumption | exact heap_alloc_at _ (by first | rfl | (simp; done) | omega) | refine heap_alloc_of _ ?_ | refine heap_setCell_of _ (by first | omega | (simp; done) | (simp; omega)) ?_ | refine heap_setCell_same _ ?_ | exact heap_at1_same (by first | omega | (simp; done) | (simp; omega)) | refine heap_at1_of (by first | omega | (simp; done) | (simp; omega)) ?_))
    obtain ⟨C1, qq1, rr1, zz1⟩ := keep_blk hb1 (g := w.heap.size + 1) (by repeat (first | assumption | exact heap_alloc_at _ (by first | rfl | (simp; done) | omega) | refine heap_alloc_of _ ?_ | refine heap_setCell_of _ (by first | omega | (simp; done) | (simp; omega)) ?_ | refine heap_setCell_same _ ?_ | exact heap_at1_same (by first | omega | (simp; done) | (simp; omega)) | refine heap_at1_of (by first | omega | (simp; done) | (simp; omega)) ?_))
    have t1 := hb0.trans (hb1.mono hb0.size)
    go_wp2_with fail
    refine (l07Copy_any a bb _ _ cs _ (ha.below t1) hcl0 h1).mono ?_
    rintro e w3 ⟨A3, c3, rfl, ho3, hs3, hi3, hb3⟩
    obtain ⟨B3, q3, r3, z3⟩ := keep_blk hb3 B1
    obtain ⟨C3, qq3, rr3, zz3⟩ := keep_blk hb3 C1
    clear B1 q1 r1 C1 qq1 rr1 hs3 hi3
    have t3 := t1.trans (hb3.mono t1.size)
    obtain ⟨g, rfl, hlo, hcm, hxc, _⟩ := ho3.fill hcl0
    have hgl := (ho3.lt g rfl).2
    go_wp2_with fail
    obtain ⟨w4, hw4⟩ : ∃ w4, w4 = w3.alloc (.cells #[.int .i64 a, .int .i64 bb, .slice (some ⟨g, 0, none⟩) cs.length c3] 33) := ⟨_, rfl⟩
    rw [← hw4]
    have HB4 : Hid (w4.heap[w.heap.size]? = (some (.cells #[.int .i64 a, .int .i64 bb, .slice A cs.length c] 33 (0, 0)))) := by subst hw4; exact heap_alloc_of _ B3
    have HC4 : Hid (w4.heap[w.heap.size + 1]? = (some (.cells #[.int .i64 0, .int .i64 0, .slice none 0 0] 33 (0, 0)))) := by subst hw4; exact heap_alloc_of _ C3
    have HD4 : Hid (w4.heap[w3.heap.size]? = some (.cells #[.int .i64 a, .int .i64 bb, .slice (some ⟨g, 0, none⟩) cs.length c3] 33 (0, 0))) := by subst hw4; exact heap_alloc_new _ _
    have ho4 : Og w4 w1.heap.size (some ⟨g, 0, none⟩) c3 cs := by subst hw4; exact ho3.alloc _
    have t4 : Below w.heap.size w w4 := by subst hw4; exact t3.alloc t3.size _
    have hsz : w3.heap.size < w4.heap.size := by subst hw4; simp
    clear hw4 B3 C3 q3 r3 qq3 rr3 hb0 hb1 hb3
    obtain ⟨m, hm⟩ : ∃ m : Int, -(a : Int) = m := ⟨_, rfl⟩
    rw [hm]
    have hm1 : -120 ≤ m := by omega
    have hm2 : m ≤ 0 := by omega
    have HMM := Lib.hid hm.symm
    rw [hm] at HN0
    clear hm
    go_loopw [10] (fun i wr => ∃ kk : Nat, j ≤ kk ∧ kk ≤ a ∧ i = .int .i64 kk ∧ Og wr w1.heap.size (some ⟨g, 0, none⟩) c3 (upd cs (shF cs p j a n0) (p + j) (p + kk)) ∧ Hid (wr.heap[w.heap.size]? = (some (.cells #[.int .i64 a, .int .i64 bb, .slice A cs.length c] 33 (0, 0)))) ∧ Hid (wr.heap[w.heap.size + 1]? = (some (.cells #[.int .i64 0, .int .i64 0, .slice none 0 0] 33 (0, 0)))) ∧ Hid (wr.heap[w3.heap.size]? = (some (.cells #[.int .i64 a, .int .i64 bb, .slice (some ⟨g, 0, none⟩) cs.length c3] 33 (0, 0)))) ∧ Below w.heap.size w wr ∧ w4.heap.size ≤ wr.heap.size) (fun i _ => a - (intOf i).toNat)
    case atStart => exact ⟨j, Nat.le_refl _, by omega, rfl, by rw [upd_self]; exact ho4, HB4, HC4, HD4, t4, Nat.le_refl _⟩
    case round =>
      clear ho4 HB4 HC4 HD4 ea
      obtain ⟨kk, hk1, hk2, rfl, ho, hB, hC, hD, hb, hs⟩ := hrel
      have q0 : ∀ i, wr.cell? ⟨w.heap.size, i, none⟩ = _ := fun i => cell_of_row wr _ i _ _ (0, 0) hB.out
      have qd0 : ∀ i, wr.cell? ⟨w3.heap.size, i, none⟩ = _ := fun i => cell_of_row wr _ i _ _ (0, 0) hD.out
      have cB : wr.cell? ⟨w.heap.size, 0, none⟩ = some (.int .i64 a) := by rw [q0]; rfl
      have cD : wr.cell? ⟨w3.heap.size, 2, none⟩ = some (.slice (some ⟨g, 0, none⟩) cs.length c3) := by rw [qd0]; rfl
      have hgB : ¬ w.heap.size = g := by omega
      have hgD : ¬ w3.heap.size = g := by omega
      have hgC : ¬ w.heap.size + 1 = g := by omega
      by_cases hlt : kk < a
      · obtain ⟨i, hi⟩ : ∃ i, Hid (i = p + kk) := ⟨_, rfl⟩
        have hic : i < cs.length := by have := hi.out; omega
        have hkl : i < (upd cs (shF cs p j a n0) (p + j) (p + kk)).length := by rw [upd_len]; exact hic
        have hlt' : (kk : Int) < a := by omega
        have hic' : (i : Int) < cs.length := by omega
        have hi4 : i ≤ 1048576 := by omega
        have hi5 : -1048576 ≤ (i : Int) := by omega
        have hi6 : (i : Int) ≤ 1048576 := by omega
        have hi0 : (0 : Int) ≤ (i : Int) := Int.natCast_nonneg i
        have hn0 := HN0.out
        have hr : (j : Int) ≤ (kk : Int) - m := by have := HMM.out; omega
        have hr2 : (a : Int) ≤ (kk : Int) - m := by have := HMM.out; omega
        have HF : Hid (shF cs p j a n0 (p + kk) = bk) := by show _ = _; rw [hn0]; exact sh_out (by omega)
        have hw1 : -1048576 ≤ (kk : Int) - m := by omega
        have hw2 : (kk : Int) - m ≤ 1048576 := by omega
        obtain ⟨eWk, eW⟩ := small_k hw1 hw2
        clear hn0
        obtain ⟨e2k, e2, e3⟩ := add_natk hi.out hi4
        obtain ⟨eik, eiw⟩ := small_k hi5 hi6
        have e1 := HE1.out
        have e1k := HE1k.out
        go_wp2_with fail
        go_region_held3 (fun w' => w'.cell? ⟨w.heap.size, 0, none⟩ = some (.int .i64 a) ∧ w'.cell? ⟨w3.heap.size, 2, none⟩ = some (.slice (some ⟨g, 0, none⟩) cs.length c3))
          (first | with_reducible assumption | exact ⟨cell_six kB hgB _ _ _ _ _ _, cell_six kD hgD _ _ _ _ _ _⟩ | exact ⟨by simpa using cB, by simpa using cD⟩)
          ((go_at_call 63; refine (l07Blank_any _).mono ?_; rintro e w5 ⟨rfl, hb5'⟩; have hb5 : Below wr.heap.size wr w5 := (Below.drew (Below.refl _ _)).trans hb5'; obtain ⟨B5, q5, r5, z5⟩ := keep_blk hb5 hB.out; obtain ⟨C5, qq5, rr5, zz5⟩ := keep_blk hb5 hC.out; obtain ⟨D5, qd5, rd5, zd5⟩ := keep_blk hb5 hD.out; have ho5 := ho.below hb5 (Nat.le_refl _); have v5 := hb.trans (hb5.mono hb.size); have zw5 := hb5.size; obtain ⟨⟨u0, x0⟩, ⟨u1, x1⟩, ⟨u2, x2⟩, ⟨u3, x3⟩, ⟨u4, x4⟩, ⟨u5, x5⟩, f0, f1, f2, f3, f4, f5⟩ := ho5.getB (k := i) hkl; have kB : w5.cell? ⟨w.heap.size, 0, none⟩ = some (.int .i64 a) := (by rw [q5]; rfl); have kD : w5.cell? ⟨w3.heap.size, 2, none⟩ = some (.slice (some ⟨g, 0, none⟩) cs.length c3) := (by rw [qd5]; rfl); have hkeep := And.intro kB kD))
        clear hkeep e1 e1k e2k e2 e3 eik eiw
        have ho6 := ho5.set (k := i) hkl bk
        have eU : (upd cs (shF cs p j a n0) (p + j) (p + kk)).set i bk = upd cs (shF cs p j a n0) (p + j) (p + (kk + 1)) := by
          rw [← HF.out, hi.out]
          exact upd_set (by omega) (by omega)
        rw [eU] at ho6
        go_wp2_with fail
        clear eW eWk
        go_roundw
        case rel => exact ⟨kk + 1, by omega, by omega, by go_num, ho6, Lib.hid (heap_six B5 (by omega) _ _ _ _ _ _), Lib.hid (heap_six C5 (by omega) _ _ _ _ _ _), Lib.hid (heap_six D5 (by omega) _ _ _ _ _ _), below_six v5 (by omega) _ _ _ _ _ _, by simp; omega⟩
        case measure => simp [intOf]; omega

      · have hkk : kk = a := by omega
        have ho' : Og wr w1.heap.size (some ⟨g, 0, none⟩) c3 (shL cs p j a n0) := by rw [hkk] at ho; exact ho
        have hlt' : ¬ (kk : Int) < a := by omega
        have qq0 : ∀ i, wr.cell? ⟨w.heap.size + 1, i, none⟩ = _ := fun i => cell_of_row wr _ i _ _ (0, 0) hC.out
        have rr0 : ∀ i, wr.frozen? ⟨w.heap.size + 1, i, none⟩ = false := fun i => by simp [World.frozen?, hC.out]
        have zr := (Array.getElem?_eq_some_iff.1 hC.out).1
        clear hkk ho
        go_wp2_with fail
        refine bodyPost_ret (v := gV a bb (some ⟨g, 0, none⟩) cs.length c3) (by simp [results, Try.results43, go_sem, *]) rfl ?_
        have hL : (shL cs p j a n0).length = cs.length := upd_len
        have ho2 := (((ho'.setCell (p := ⟨w.heap.size + 1, 0, none⟩) (by first | omega | (simp; done) | (simp; omega)) (.int .i64 a)).setCell (p := ⟨w.heap.size + 1, 1, none⟩) (by first | omega | (simp; done) | (simp; omega)) (.int .i64 bb)).setCell (p := ⟨w.heap.size + 1, 2, none⟩) (by first | omega | (simp; done) | (simp; omega)) (.slice (some ⟨g, 0, none⟩) cs.length c3))
        exact ⟨_, c3, by rw [hL], ho2.mono (by omega), ho2.gs, (ho2.mono (by omega)).inB, ((hb.setCell (by first | omega | (simp; done) | (simp; omega)) _).setCell (by first | omega | (simp; done) | (simp; omega)) _).setCell (by first | omega | (simp; done) | (simp; omega)) _⟩

  obtain ⟨n0, hn0⟩ : ∃ n0 : Int, n0 = n := ⟨_, rfl⟩
  have hM1 : -120 ≤ (n : Int) := by omega
  have hM2 : (n : Int) ≤ 120 := by omega
  rw [show shL cs p j a n = shL cs p j a n0 by rw [hn0]]
  have HN0 := Lib.hid hn0
  clear hn0
  have ea := HEA.out
  go_enter Try.func43, Try.ntmps43
  go_wp2_with fail
  refine (gridOk_spec a bb _ _ cs _ (ha.below hb0) h1).mono ?_
  rintro e w1 ⟨he, hb1⟩
  rw [HG.out] at he
  subst he
  obtain ⟨B1, q1, r1, z1⟩ := keep_blk hb1 (g := w.heap.size) (by repeat (first | assumption | exact heap_alloc_at _ (by first | rfl | (simp; done) | omega) | refine heap_alloc_of _ ?_ | refine heap_setCell_of _ (by first | omega | (simp; done) | (simp; omega)) ?_ | refine heap_setCell_same _ ?_ | exact heap_at1_same (by first | omega | (simp; done) | (simp; omega)) | refine heap_at1_of (by first | omega | (simp; done) | (simp; omega)) ?_))
  obtain ⟨C1, qq1, rr1, zz1⟩ := keep_blk hb1 (g := w.heap.size + 1) (by repeat (first | assumption | exact heap_alloc_at _ (by first | rfl | (simp; done) | omega) | refine heap_alloc_of _ ?_ | refine heap_setCell_of _ (by first | omega | (simp; done) | (simp; omega)) ?_ | refine heap_setCell_same _ ?_ | exact heap_at1_same (by first | omega | (simp; done) | (simp; omega)) | refine heap_at1_of (by first | omega | (simp; done) | (simp; omega)) ?_))
  have t1 := hb0.trans (hb1.mono hb0.size)
  go_wp2_with fail
  refine (l07Copy_any a bb _ _ cs _ (ha.below t1) hcl0 h1).mono ?_
  rintro e w3 ⟨A3, c3, rfl, ho3, hs3, hi3, hb3⟩
  obtain ⟨B3, q3, r3, z3⟩ := keep_blk hb3 B1
  obtain ⟨C3, qq3, rr3, zz3⟩ := keep_blk hb3 C1
  clear B1 q1 r1 C1 qq1 rr1 hs3 hi3
  have t3 := t1.trans (hb3.mono t1.size)
  obtain ⟨g, rfl, hlo, hcm, hxc, _⟩ := ho3.fill hcl0
  have hgl := (ho3.lt g rfl).2
  go_wp2_with fail
  obtain ⟨w4, hw4⟩ : ∃ w4, w4 = w3.alloc (.cells #[.int .i64 a, .int .i64 bb, .slice (some ⟨g, 0, none⟩) cs.length c3] 33) := ⟨_, rfl⟩
  rw [← hw4]
  have HB4 : Hid (w4.heap[w.heap.size]? = (some (.cells #[.int .i64 a, .int .i64 bb, .slice A cs.length c] 33 (0, 0)))) := by subst hw4; exact heap_alloc_of _ B3
  have HC4 : Hid (w4.heap[w.heap.size + 1]? = (some (.cells #[.int .i64 0, .int .i64 0, .slice none 0 0] 33 (0, 0)))) := by subst hw4; exact heap_alloc_of _ C3
  have HD4 : Hid (w4.heap[w3.heap.size]? = some (.cells #[.int .i64 a, .int .i64 bb, .slice (some ⟨g, 0, none⟩) cs.length c3] 33 (0, 0))) := by subst hw4; exact heap_alloc_new _ _
  have ho4 : Og w4 w1.heap.size (some ⟨g, 0, none⟩) c3 cs := by subst hw4; exact ho3.alloc _
  have t4 : Below w.heap.size w w4 := by subst hw4; exact t3.alloc t3.size _
  have hsz : w3.heap.size < w4.heap.size := by subst hw4; simp
  clear hw4 B3 C3 q3 r3 qq3 rr3 hb0 hb1 hb3
  go_loopw [10] (fun i wr => ∃ kk : Nat, j ≤ kk ∧ kk ≤ a ∧ i = .int .i64 kk ∧ Og wr w1.heap.size (some ⟨g, 0, none⟩) c3 (upd cs (shF cs p j a n0) (p + j) (p + kk)) ∧ Hid (wr.heap[w.heap.size]? = (some (.cells #[.int .i64 a, .int .i64 bb, .slice A cs.length c] 33 (0, 0)))) ∧ Hid (wr.heap[w.heap.size + 1]? = (some (.cells #[.int .i64 0, .int .i64 0, .slice none 0 0] 33 (0, 0)))) ∧ Hid (wr.heap[w3.heap.size]? = (some (.cells #[.int .i64 a, .int .i64 bb, .slice (some ⟨g, 0, none⟩) cs.length c3] 33 (0, 0)))) ∧ Below w.heap.size w wr ∧ w4.heap.size ≤ wr.heap.size) (fun i _ => a - (intOf i).toNat)
  case atStart => exact ⟨j, Nat.le_refl _, by omega, rfl, by rw [upd_self]; exact ho4, HB4, HC4, HD4, t4, Nat.le_refl _⟩
  case round =>
    clear ho4 HB4 HC4 HD4 ea
    obtain ⟨kk, hk1, hk2, rfl, ho, hB, hC, hD, hb, hs⟩ := hrel
    have q0 : ∀ i, wr.cell? ⟨w.heap.size, i, none⟩ = _ := fun i => cell_of_row wr _ i _ _ (0, 0) hB.out
    have qd0 : ∀ i, wr.cell? ⟨w3.heap.size, i, none⟩ = _ := fun i => cell_of_row wr _ i _ _ (0, 0) hD.out
    have cB : wr.cell? ⟨w.heap.size, 0, none⟩ = some (.int .i64 a) := by rw [q0]; rfl
    have cD : wr.cell? ⟨w3.heap.size, 2, none⟩ = some (.slice (some ⟨g, 0, none⟩) cs.length c3) := by rw [qd0]; rfl
    have hgB : ¬ w.heap.size = g := by omega
    have hgD : ¬ w3.heap.size = g := by omega
    have hgC : ¬ w.heap.size + 1 = g := by omega
    by_cases hlt : kk < a
    · obtain ⟨i, hi⟩ : ∃ i, Hid (i = p + kk) := ⟨_, rfl⟩
      have hic : i < cs.length := by have := hi.out; omega
      have hkl : i < (upd cs (shF cs p j a n0) (p + j) (p + kk)).length := by rw [upd_len]; exact hic
      have hlt' : (kk : Int) < a := by omega
      have hic' : (i : Int) < cs.length := by omega
      have hi4 : i ≤ 1048576 := by omega
      have hi5 : -1048576 ≤ (i : Int) := by omega
      have hi6 : (i : Int) ≤ 1048576 := by omega
      have hi0 : (0 : Int) ≤ (i : Int) := Int.natCast_nonneg i
      have hn0 := HN0.out
      by_cases hr : (kk : Int) - n < j
      · skip
        have HF : Hid (shF cs p j a n0 (p + kk) = bk) := by show _ = _; rw [hn0]; exact sh_out (by omega)
        have hw1 : -1048576 ≤ (kk : Int) - n := by omega
        have hw2 : (kk : Int) - n ≤ 1048576 := by omega
        obtain ⟨eWk, eW⟩ := small_k hw1 hw2
        clear hn0
        obtain ⟨e2k, e2, e3⟩ := add_natk hi.out hi4
        obtain ⟨eik, eiw⟩ := small_k hi5 hi6
        have e1 := HE1.out
        have e1k := HE1k.out
        go_wp2_with fail
        go_region_held3 (fun w' => w'.cell? ⟨w.heap.size, 0, none⟩ = some (.int .i64 a) ∧ w'.cell? ⟨w3.heap.size, 2, none⟩ = some (.slice (some ⟨g, 0, none⟩) cs.length c3))
          (first | with_reducible assumption | exact ⟨cell_six kB hgB _ _ _ _ _ _, cell_six kD hgD _ _ _ _ _ _⟩ | exact ⟨by simpa using cB, by simpa using cD⟩)
          ((go_at_call 63; refine (l07Blank_any _).mono ?_; rintro e w5 ⟨rfl, hb5'⟩; have hb5 : Below wr.heap.size wr w5 := (Below.drew (Below.refl _ _)).trans hb5'; obtain ⟨B5, q5, r5, z5⟩ := keep_blk hb5 hB.out; obtain ⟨C5, qq5, rr5, zz5⟩ := keep_blk hb5 hC.out; obtain ⟨D5, qd5, rd5, zd5⟩ := keep_blk hb5 hD.out; have ho5 := ho.below hb5 (Nat.le_refl _); have v5 := hb.trans (hb5.mono hb.size); have zw5 := hb5.size; obtain ⟨⟨u0, x0⟩, ⟨u1, x1⟩, ⟨u2, x2⟩, ⟨u3, x3⟩, ⟨u4, x4⟩, ⟨u5, x5⟩, f0, f1, f2, f3, f4, f5⟩ := ho5.getB (k := i) hkl; have kB : w5.cell? ⟨w.heap.size, 0, none⟩ = some (.int .i64 a) := (by rw [q5]; rfl); have kD : w5.cell? ⟨w3.heap.size, 2, none⟩ = some (.slice (some ⟨g, 0, none⟩) cs.length c3) := (by rw [qd5]; rfl); have hkeep := And.intro kB kD))
        clear hkeep e1 e1k e2k e2 e3 eik eiw
        have ho6 := ho5.set (k := i) hkl bk
        have eU : (upd cs (shF cs p j a n0) (p + j) (p + kk)).set i bk = upd cs (shF cs p j a n0) (p + j) (p + (kk + 1)) := by
          rw [← HF.out, hi.out]
          exact upd_set (by omega) (by omega)
        rw [eU] at ho6
        go_wp2_with fail
        clear eW eWk
        go_roundw
        case rel => exact ⟨kk + 1, by omega, by omega, by go_num, ho6, Lib.hid (heap_six B5 (by omega) _ _ _ _ _ _), Lib.hid (heap_six C5 (by omega) _ _ _ _ _ _), Lib.hid (heap_six D5 (by omega) _ _ _ _ _ _), below_six v5 (by omega) _ _ _ _ _ _, by simp; omega⟩
        case measure => simp [intOf]; omega

      by_cases hr2 : (a : Int) ≤ (kk : Int) - n
      · skip
        have HF : Hid (shF cs p j a n0 (p + kk) = bk) := by show _ = _; rw [hn0]; exact sh_out (by omega)
        have hw1 : -1048576 ≤ (kk : Int) - n := by omega
        have hw2 : (kk : Int) - n ≤ 1048576 := by omega
        obtain ⟨eWk, eW⟩ := small_k hw1 hw2
        clear hn0
        obtain ⟨e2k, e2, e3⟩ := add_natk hi.out hi4
        obtain ⟨eik, eiw⟩ := small_k hi5 hi6
        have e1 := HE1.out
        have e1k := HE1k.out
        go_wp2_with fail
        go_region_held3 (fun w' => w'.cell? ⟨w.heap.size, 0, none⟩ = some (.int .i64 a) ∧ w'.cell? ⟨w3.heap.size, 2, none⟩ = some (.slice (some ⟨g, 0, none⟩) cs.length c3))
          (first | with_reducible assumption | exact ⟨cell_six kB hgB _ _ _ _ _ _, cell_six kD hgD _ _ _ _ _ _⟩ | exact ⟨by simpa using cB, by simpa using cD⟩)
          ((go_at_call 63; refine (l07Blank_any _).mono ?_; rintro e w5 ⟨rfl, hb5'⟩; have hb5 : Below wr.heap.size wr w5 := (Below.drew (Below.refl _ _)).trans hb5'; obtain ⟨B5, q5, r5, z5⟩ := keep_blk hb5 hB.out; obtain ⟨C5, qq5, rr5, zz5⟩ := keep_blk hb5 hC.out; obtain ⟨D5, qd5, rd5, zd5⟩ := keep_blk hb5 hD.out; have ho5 := ho.below hb5 (Nat.le_refl _); have v5 := hb.trans (hb5.mono hb.size); have zw5 := hb5.size; obtain ⟨⟨u0, x0⟩, ⟨u1, x1⟩, ⟨u2, x2⟩, ⟨u3, x3⟩, ⟨u4, x4⟩, ⟨u5, x5⟩, f0, f1, f2, f3, f4, f5⟩ := ho5.getB (k := i) hkl; have kB : w5.cell? ⟨w.heap.size, 0, none⟩ = some (.int .i64 a) := (by rw [q5]; rfl); have kD : w5.cell? ⟨w3.heap.size, 2, none⟩ = some (.slice (some ⟨g, 0, none⟩) cs.length c3) := (by rw [qd5]; rfl); have hkeep := And.intro kB kD))
        clear hkeep e1 e1k e2k e2 e3 eik eiw
        have ho6 := ho5.set (k := i) hkl bk
        have eU : (upd cs (shF cs p j a n0) (p + j) (p + kk)).set i bk = upd cs (shF cs p j a n0) (p + j) (p + (kk + 1)) := by
          rw [← HF.out, hi.out]
          exact upd_set (by omega) (by omega)
        rw [eU] at ho6
        go_wp2_with fail
        clear eW eWk
        go_roundw
        case rel => exact ⟨kk + 1, by omega, by omega, by go_num, ho6, Lib.hid (heap_six B5 (by omega) _ _ _ _ _ _), Lib.hid (heap_six C5 (by omega) _ _ _ _ _ _), Lib.hid (heap_six D5 (by omega) _ _ _ _ _ _), below_six v5 (by omega) _ _ _ _ _ _, by simp; omega⟩
        case measure => simp [intOf]; omega

      obtain ⟨r, er⟩ := Int.eq_ofNat_of_zero_le (show 0 ≤ (kk : Int) - n by omega)
      have hr1 : j ≤ r := by omega
      have hr3 : r < a := by omega
      obtain ⟨s, hs'⟩ : ∃ s, Hid (s = p + r) := ⟨_, rfl⟩
      have hsc : s < cs.length := by have := hs'.out; omega
      have hsc' : (s : Int) < cs.length := by omega
      have HF : Hid (shF cs p j a n0 (p + kk) = cs[s]) := by
        show _ = _
        rw [hn0]
        have e := sh_in (p := p) hr1 hr3 er (by have := hs'.out; omega : p + r < cs.length)
        rw [e]
        congr 1
        exact hs'.out.symm
      have er2 : (i : Int) - n = (s : Int) := by have h := hi.out; have h2 := hs'.out; omega
      have ER2 := Lib.hid er2
      clear er2
      have hs5 : -1048576 ≤ (s : Int) := by omega
      have hs6 : (s : Int) ≤ 1048576 := by omega
      have hr5 : -1048576 ≤ (r : Int) := by omega
      have hr6 : (r : Int) ≤ 1048576 := by omega
      have hs0 : (0 : Int) ≤ (s : Int) := Int.natCast_nonneg s
      have hr1' : (j : Int) ≤ r := by omega
      have hr3' : (r : Int) < a := by omega
      clear hr hr2 hn0
      obtain ⟨e2k, e2, e3⟩ := add_natk hi.out hi4
      obtain ⟨eik, eiw⟩ := small_k hi5 hi6
      have e1 := HE1.out
      have e1k := HE1k.out
      go_wp2_with fail
      go_region_held3 (fun w' => w'.cell? ⟨w.heap.size, 0, none⟩ = some (.int .i64 a) ∧ w'.cell? ⟨w3.heap.size, 2, none⟩ = some (.slice (some ⟨g, 0, none⟩) cs.length c3))
        (first | with_reducible assumption | exact ⟨cell_six kB hgB _ _ _ _ _ _, cell_six kD hgD _ _ _ _ _ _⟩ | exact ⟨by simpa using cB, by simpa using cD⟩)
        ((go_at_call 63; refine (l07Blank_any _).mono ?_; rintro e w5 ⟨rfl, hb5'⟩; have hb5 : Below wr.heap.size wr w5 := (Below.drew (Below.refl _ _)).trans hb5'; obtain ⟨B5, q5, r5, z5⟩ := keep_blk hb5 hB.out; obtain ⟨C5, qq5, rr5, zz5⟩ := keep_blk hb5 hC.out; obtain ⟨D5, qd5, rd5, zd5⟩ := keep_blk hb5 hD.out; have ho5 := ho.below hb5 (Nat.le_refl _); have v5 := hb.trans (hb5.mono hb.size); have zw5 := hb5.size; obtain ⟨⟨u0, x0⟩, ⟨u1, x1⟩, ⟨u2, x2⟩, ⟨u3, x3⟩, ⟨u4, x4⟩, ⟨u5, x5⟩, f0, f1, f2, f3, f4, f5⟩ := ho5.getB (k := i) hkl; have kB : w5.cell? ⟨w.heap.size, 0, none⟩ = some (.int .i64 a) := (by rw [q5]; rfl); have kD : w5.cell? ⟨w3.heap.size, 2, none⟩ = some (.slice (some ⟨g, 0, none⟩) cs.length c3) := (by rw [qd5]; rfl); have hkeep := And.intro kB kD))
      clear hkeep e1 e1k e2k e2 e3 eik eiw

      have ho6 := ho5.set (k := i) hkl bk
      have v6 := below_six (o0 := i * 6) (o1 := i * 6 + 1) (o2 := i * 6 + 2) (o3 := i * 6 + 3) (o4 := i * 6 + 4) (o5 := i * 6 + 5) v5 (show w.heap.size ≤ g by omega) (.int .i64 32) (.int .i64 0) (.int .i64 0) (.bool false) (.bool false) (.bool false)
      have B6 := heap_six (o0 := i * 6) (o1 := i * 6 + 1) (o2 := i * 6 + 2) (o3 := i * 6 + 3) (o4 := i * 6 + 4) (o5 := i * 6 + 5) B5 hgB (.int .i64 32) (.int .i64 0) (.int .i64 0) (.bool false) (.bool false) (.bool false)
      have C6 := heap_six (o0 := i * 6) (o1 := i * 6 + 1) (o2 := i * 6 + 2) (o3 := i * 6 + 3) (o4 := i * 6 + 4) (o5 := i * 6 + 5) C5 hgC (.int .i64 32) (.int .i64 0) (.int .i64 0) (.bool false) (.bool false) (.bool false)
      have D6 := heap_six (o0 := i * 6) (o1 := i * 6 + 1) (o2 := i * 6 + 2) (o3 := i * 6 + 3) (o4 := i * 6 + 4) (o5 := i * 6 + 5) D5 hgD (.int .i64 32) (.int .i64 0) (.int .i64 0) (.bool false) (.bool false) (.bool false)
      obtain ⟨erk, erw⟩ := small_k hr5 hr6
      go_wp2_with fail
      clear erk erw
      have zw6 : w5.heap.size = (((((((w5.setCell ⟨g, i * 6, none⟩ (.int .i64 32)).setCell ⟨g, i * 6 + 1, none⟩ (.int .i64 0)).setCell ⟨g, i * 6 + 2, none⟩ (.int .i64 0)).setCell ⟨g, i * 6 + 3, none⟩ (.bool false)).setCell ⟨g, i * 6 + 4, none⟩ (.bool false)).setCell ⟨g, i * 6 + 5, none⟩ (.bool false))).heap.size := by simp
      generalize ((((((w5.setCell ⟨g, i * 6, none⟩ (.int .i64 32)).setCell ⟨g, i * 6 + 1, none⟩ (.int .i64 0)).setCell ⟨g, i * 6 + 2, none⟩ (.int .i64 0)).setCell ⟨g, i * 6 + 3, none⟩ (.bool false)).setCell ⟨g, i * 6 + 4, none⟩ (.bool false)).setCell ⟨g, i * 6 + 5, none⟩ (.bool false)) = w6 at ho6 v6 B6 C6 D6 zw6 ⊢
      clear q5 r5 qq5 rr5 qd5 rd5 x0 x1 x2 x3 x4 x5 f0 f1 f2 f3 f4 f5 B5 C5 D5 kB kD ho5 cB cD q0 qd0
      have q6 : ∀ i, w6.cell? ⟨w.heap.size, i, none⟩ = _ := fun i => cell_of_row w6 _ i _ _ (0, 0) B6
      have qd6 : ∀ i, w6.cell? ⟨w3.heap.size, i, none⟩ = _ := fun i => cell_of_row w6 _ i _ _ (0, 0) D6
      have cB0 : w6.cell? ⟨w.heap.size, 0, none⟩ = some (.int .i64 a) := by rw [q6]; rfl
      have cB2 : w6.cell? ⟨w.heap.size, 2, none⟩ = some (.slice A cs.length c) := by rw [q6]; rfl
      have cD2 : w6.cell? ⟨w3.heap.size, 2, none⟩ = some (.slice (some ⟨g, 0, none⟩) cs.length c3) := by rw [qd6]; rfl
      have hkl7 : i < ((upd cs (shF cs p j a n0) (p + j) (p + kk)).set i bk).length := by rw [List.length_set]; exact hkl
      obtain ⟨⟨u0, x0⟩, ⟨u1, x1⟩, ⟨u2, x2⟩, ⟨u3, x3⟩, ⟨u4, x4⟩, ⟨u5, x5⟩, f0, f1, f2, f3, f4, f5⟩ := ho6.getB (k := i) hkl7
      obtain ⟨b, o, rfl, hbs, y0, y1, y2, y3, y4, y5⟩ := (ha.below v6).get hsc
      obtain ⟨e2k, e2, e3⟩ := add_natk hi.out hi4
      obtain ⟨eik, eiw⟩ := small_k hi5 hi6
      obtain ⟨esk, esw⟩ := small_k hs5 hs6
      have er2 := ER2.out
      have e1 := HE1.out
      have e1k := HE1k.out
      have hgb : ¬ b = g := by
        obtain ⟨b', o', hA', hb', _⟩ := ha.get hsc
        obtain ⟨rfl, rfl⟩ : b = b' ∧ o = o' := by simpa using hA'
        omega
      have kB0 : w6.drew.cell? ⟨w.heap.size, 0, none⟩ = some (.int .i64 a) := by simpa using cB0
      have kB2 : w6.drew.cell? ⟨w.heap.size, 2, none⟩ = some (.slice (some ⟨b, o, none⟩) cs.length c) := by simpa using cB2
      have kD2 : w6.drew.cell? ⟨w3.heap.size, 2, none⟩ = some (.slice (some ⟨g, 0, none⟩) cs.length c3) := by simpa using cD2
      have kY0 : w6.drew.cell? ⟨b, o + s * 6, none⟩ = some (.int .i64 cs[s].1) := by simpa using y0
      have kY1 : w6.drew.cell? ⟨b, o + s * 6 + 1, none⟩ = some (.int .i64 cs[s].2.1) := by simpa using y1
      have kY2 : w6.drew.cell? ⟨b, o + s * 6 + 2, none⟩ = some (.int .i64 cs[s].2.2.1) := by simpa using y2
      have kY3 : w6.drew.cell? ⟨b, o + s * 6 + 3, none⟩ = some (.bool cs[s].2.2.2.1) := by simpa using y3
      have kY4 : w6.drew.cell? ⟨b, o + s * 6 + 4, none⟩ = some (.bool cs[s].2.2.2.2.1) := by simpa using y4
      have kY5 : w6.drew.cell? ⟨b, o + s * 6 + 5, none⟩ = some (.bool cs[s].2.2.2.2.2) := by simpa using y5
      go_region_held3 (fun w' => w'.cell? ⟨w.heap.size, 0, none⟩ = some (.int .i64 a) ∧ w'.cell? ⟨w.heap.size, 2, none⟩ = some (.slice (some ⟨b, o, none⟩) cs.length c) ∧ w'.cell? ⟨w3.heap.size, 2, none⟩ = some (.slice (some ⟨g, 0, none⟩) cs.length c3) ∧ w'.cell? ⟨b, o + s * 6, none⟩ = some (.int .i64 cs[s].1) ∧ w'.cell? ⟨b, o + s * 6 + 1, none⟩ = some (.int .i64 cs[s].2.1) ∧ w'.cell? ⟨b, o + s * 6 + 2, none⟩ = some (.int .i64 cs[s].2.2.1) ∧ w'.cell? ⟨b, o + s * 6 + 3, none⟩ = some (.bool cs[s].2.2.2.1) ∧ w'.cell? ⟨b, o + s * 6 + 4, none⟩ = some (.bool cs[s].2.2.2.2.1) ∧ w'.cell? ⟨b, o + s * 6 + 5, none⟩ = some (.bool cs[s].2.2.2.2.2))
        (first | with_reducible exact ⟨kB0, kB2, kD2, kY0, kY1, kY2, kY3, kY4, kY5⟩ | with_reducible assumption | with_reducible exact ⟨cell_sixd cB0 hgB _ _ _ _ _ _, cell_sixd cB2 hgB _ _ _ _ _ _, cell_sixd cD2 hgD _ _ _ _ _ _, cell_sixd y0 hgb _ _ _ _ _ _, cell_sixd y1 hgb _ _ _ _ _ _, cell_sixd y2 hgb _ _ _ _ _ _, cell_sixd y3 hgb _ _ _ _ _ _, cell_sixd y4 hgb _ _ _ _ _ _, cell_sixd y5 hgb _ _ _ _ _ _⟩)
        (fail)
      clear er er2 e2k e2 e3 eik eiw esk esw e1 e1k
      go_wp2_with fail
      have ho8 := ho6.set (k := i) hkl7 cs[s]
      have eU : ((upd cs (shF cs p j a n0) (p + j) (p + kk)).set i bk).set i cs[s] = upd cs (shF cs p j a n0) (p + j) (p + (kk + 1)) := by
        rw [List.set_set, ← HF.out, hi.out]
        exact upd_set (by omega) (by omega)
      rw [eU] at ho8
      go_roundw
      case rel => exact ⟨kk + 1, by omega, by omega, by go_num, ho8.drew, Lib.hid (heap_drew (heap_six B6 hgB _ _ _ _ _ _)), Lib.hid (heap_drew (heap_six C6 hgC _ _ _ _ _ _)), Lib.hid (heap_drew (heap_six D6 hgD _ _ _ _ _ _)), (below_six v6 (by omega) _ _ _ _ _ _).drew, by simp; omega⟩
      case measure => simp [intOf]; omega

    · have hkk : kk = a := by omega
      have ho' : Og wr w1.heap.size (some ⟨g, 0, none⟩) c3 (shL cs p j a n0) := by rw [hkk] at ho; exact ho
      have hlt' : ¬ (kk : Int) < a := by omega
      have qq0 : ∀ i, wr.cell? ⟨w.heap.size + 1, i, none⟩ = _ := fun i => cell_of_row wr _ i _ _ (0, 0) hC.out
      have rr0 : ∀ i, wr.frozen? ⟨w.heap.size + 1, i, none⟩ = false := fun i => by simp [World.frozen?, hC.out]
      have zr := (Array.getElem?_eq_some_iff.1 hC.out).1
      clear hkk ho
      go_wp2_with fail
      refine bodyPost_ret (v := gV a bb (some ⟨g, 0, none⟩) cs.length c3) (by simp [results, Try.results43, go_sem, *]) rfl ?_
      have hL : (shL cs p j a n0).length = cs.length := upd_len
      have ho2 := (((ho'.setCell (p := ⟨w.heap.size + 1, 0, none⟩) (by first | omega | (simp; done) | (simp; omega)) (.int .i64 a)).setCell (p := ⟨w.heap.size + 1, 1, none⟩) (by first | omega | (simp; done) | (simp; omega)) (.int .i64 bb)).setCell (p := ⟨w.heap.size + 1, 2, none⟩) (by first | omega | (simp; done) | (simp; omega)) (.slice (some ⟨g, 0, none⟩) cs.length c3))
      exact ⟨_, c3, by rw [hL], ho2.mono (by omega), ho2.gs, (ho2.mono (by omega)).inB, ((hb.setCell (by first | omega | (simp; done) | (simp; omega)) _).setCell (by first | omega | (simp; done) | (simp; omega)) _).setCell (by first | omega | (simp; done) | (simp; omega)) _⟩
end Go.Proofs.Ytdmhmelmoobekaa
