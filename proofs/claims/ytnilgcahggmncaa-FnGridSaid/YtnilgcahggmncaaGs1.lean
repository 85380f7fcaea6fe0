/- A row of a grid shifted: the program's way. -/
import Derived.Test.YtnilgcahggmncaaGw
namespace Go.Proofs.Ytnilgcahggmncaa
open Go.RowKit
set_option linter.unusedVariables false
set_option maxRecDepth 100000

set_option maxHeartbeats 4000000 in
theorem gridShift_impl (W H : Int) (A : Option Addr) (c : Nat) (cs : List Cl) (x y n : Int) (w : World) (ha : Gs w A cs) (hc : cs.length ≤ c) (h1 : cs.length ≤ 1048576) :
    Calls Try.prog 21 #[gV W H A cs.length c, .int .i64 x, .int .i64 y, .int .i64 n] w (GridPost w (shR W H cs x y n).1 (shR W H cs x y n).2.1 (shR W H cs x y n).2.2) := by
  have hb0 : Below w.heap.size w ((w.alloc (.cells #[.int .i64 W, .int .i64 H, .slice A cs.length c] 29)).alloc (.cells #[.int .i64 0, .int .i64 0, .slice none 0 0] 29)) := by (repeat (first | exact Below.refl _ _ | (refine Below.alloc ?_ (by first | omega | (simp; done) | (simp; omega)) _) | (refine Below.drew ?_) | (refine below_drewN ?_ _) | (refine below_at1 ?_ (by first | omega | (simp; done) | (simp; omega))) | (refine Below.setCell ?_ (by first | omega | (simp; done) | (simp; omega)) _) | (refine Below.trans ?_ (Below.mono (by assumption) (by first | omega | (simp; done) | (simp; omega))))))
  by_cases hg : gridB W H cs = true
  case neg =>
    have HG : Hid (gridB W H cs = false) := by show _ = _; simpa using hg
    have HR := Lib.hid (sh_no (x := x) (y := y) (n := n) (fun h => hg h.1))
    clear hg
    generalize shR W H cs x y n = R at HR ⊢
    go_enter Try.func21, Try.ntmps21
    go_wp2_with fail
    refine (gridOk_impl W H _ _ cs _ (ha.below hb0) h1).mono ?_
    rintro e w1 ⟨he, hb1⟩
    rw [HG.out] at he
    subst he
    obtain ⟨C1, qq1, rr1, zz1⟩ := keep_blk hb1 (g := w.heap.size + 1) (by repeat (first | assumption | exact heap_alloc_at _ (by first | rfl | (simp; done) | omega) | refine heap_alloc_of _ ?_ | refine heap_setCell_of _ (by first | omega | (simp; done) | (simp; omega)) ?_ | refine heap_setCell_same _ ?_ | exact heap_at1_same (by first | omega | (simp; done) | (simp; omega)) | refine heap_at1_of (by first | omega | (simp; done) | (simp; omega)) ?_))
    have t1 := hb0.trans (hb1.mono hb0.size)
    go_wp2_with fail
    exact bodyPost_ret (v := .agg #[.int .i64 0, .int .i64 0, .slice none 0 0]) (by simp [results, Try.results21, go_sem, *]) rfl (gp_nil (((t1.setCell (by first | omega | (simp; done) | (simp; omega)) _).setCell (by first | omega | (simp; done) | (simp; omega)) _).setCell (by first | omega | (simp; done) | (simp; omega)) _) R HR.out)
  obtain ⟨⟨s1, s2⟩, ⟨s3, s4⟩, s5, hl⟩ := grid_len hg
  have HG := Lib.hid hg
  clear hg
  by_cases hin : (0 ≤ x ∧ x < W) ∧ (0 ≤ y ∧ y < H)
  case neg =>
    have HI : Hid (decide ((0 ≤ x ∧ x < W) ∧ (0 ≤ y ∧ y < H)) = false) := decide_eq_false hin
    have HR := Lib.hid (sh_no (W := W) (H := H) (cs := cs) (x := x) (y := y) (n := n) (fun h => hin h.2))
    clear hin hl
    generalize shR W H cs x y n = R at HR ⊢
    go_enter Try.func21, Try.ntmps21
    go_wp2_with fail
    refine (gridOk_impl W H _ _ cs _ (ha.below hb0) h1).mono ?_
    rintro e w1 ⟨he, hb1⟩
    rw [HG.out] at he
    subst he
    obtain ⟨B1, q1, r1, z1⟩ := keep_blk hb1 (g := w.heap.size) (by repeat (first | assumption | exact heap_alloc_at _ (by first | rfl | (simp; done) | omega) | refine heap_alloc_of _ ?_ | refine heap_setCell_of _ (by first | omega | (simp; done) | (simp; omega)) ?_ | refine heap_setCell_same _ ?_ | exact heap_at1_same (by first | omega | (simp; done) | (simp; omega)) | refine heap_at1_of (by first | omega | (simp; done) | (simp; omega)) ?_))
    obtain ⟨C1, qq1, rr1, zz1⟩ := keep_blk hb1 (g := w.heap.size + 1) (by repeat (first | assumption | exact heap_alloc_at _ (by first | rfl | (simp; done) | omega) | refine heap_alloc_of _ ?_ | refine heap_setCell_of _ (by first | omega | (simp; done) | (simp; omega)) ?_ | refine heap_setCell_same _ ?_ | exact heap_at1_same (by first | omega | (simp; done) | (simp; omega)) | refine heap_at1_of (by first | omega | (simp; done) | (simp; omega)) ?_))
    go_wp2_with fail
    refine (has_any W H _ _ _ x y _ ⟨by omega, by omega⟩ ⟨by omega, by omega⟩).mono ?_
    rintro e w2 ⟨he, hb2⟩
    rw [HI.out] at he
    subst he
    obtain ⟨C2, qq2, rr2, zz2⟩ := keep_blk hb2 C1
    clear C1 qq1 rr1
    have t2 := hb0.trans ((hb1.trans (hb2.mono hb1.size)).mono hb0.size)
    go_wp2_with fail
    exact bodyPost_ret (v := .agg #[.int .i64 0, .int .i64 0, .slice none 0 0]) (by simp [results, Try.results21, go_sem, *]) rfl (gp_nil (((t2.setCell (by first | omega | (simp; done) | (simp; omega)) _).setCell (by first | omega | (simp; done) | (simp; omega)) _).setCell (by first | omega | (simp; done) | (simp; omega)) _) R HR.out)
  obtain ⟨a, rfl⟩ := Int.eq_ofNat_of_zero_le (show 0 ≤ W by omega)
  obtain ⟨bb, rfl⟩ := Int.eq_ofNat_of_zero_le (show 0 ≤ H by omega)
  obtain ⟨j, rfl⟩ := Int.eq_ofNat_of_zero_le (show 0 ≤ x by omega)
  obtain ⟨k, rfl⟩ := Int.eq_ofNat_of_zero_le (show 0 ≤ y by omega)
  have HI : Hid (decide ((0 ≤ (j : Int) ∧ (j : Int) < a) ∧ (0 ≤ (k : Int) ∧ (k : Int) < bb)) = true) := decide_eq_true hin
  have hj : j < a := by omega
  have hk : k < bb := by omega
  have hlN : cs.length = bb * a := by
    have h : ((bb * a : Nat) : Int) = (a : Int) * bb := by rw [Int.mul_comm]; simp
    omega
  obtain ⟨rb1, rb2⟩ := row_bd hk hj
  obtain ⟨p, hp⟩ : ∃ p, Hid (p = k * a) := ⟨_, rfl⟩
  obtain ⟨q, hq⟩ : ∃ q, Hid (q = (k + 1) * a) := ⟨_, rfl⟩
  have hqp : q = p + a := by rw [hp.out, hq.out, Nat.succ_mul]
  have hqb : q ≤ cs.length := by rw [hlN, hqp, hp.out]; exact rb2
  have hcl : cs.length ≤ 4000 := by omega
  have HR : Hid (shR a bb cs j k n = ((a : Int), (bb : Int), shL cs p j a n)) := by
    show _ = _
    rw [shR, if_pos ⟨HG.out, hin⟩]
    have e : ((k : Int) * (a : Int)).toNat = p := by
      have h2 : ((k * a : Nat) : Int) = (k : Int) * (a : Int) := by simp
      rw [← h2, ← hp.out]
      omega
    rw [e]
    rfl
  have hcl0 : 0 < cs.length := by omega
  have HQ := Lib.hid hqp
  have HL := Lib.hid hlN
  have hpa : p + a ≤ cs.length := by omega
  clear hin hl hlN hqp rb1 rb2
  rw [HR.out]
  show Calls _ _ _ _ (GridPost w (a : Int) (bb : Int) (shL cs p j a n))
  go_enter Try.func21, Try.ntmps21
  go_wp2_with fail
  refine (gridOk_impl a bb _ _ cs _ (ha.below hb0) h1).mono ?_
  rintro e w1 ⟨he, hb1⟩
  rw [HG.out] at he
  subst he
  obtain ⟨B1, q1, r1, z1⟩ := keep_blk hb1 (g := w.heap.size) (by repeat (first | assumption | exact heap_alloc_at _ (by first | rfl | (simp; done) | omega) | refine heap_alloc_of _ ?_ | refine heap_setCell_of _ (by first | omega | (simp; done) | (simp; omega)) ?_ | refine heap_setCell_same _ ?_ | exact heap_at1_same (by first | omega | (simp; done) | (simp; omega)) | refine heap_at1_of (by first | omega | (simp; done) | (simp; omega)) ?_))
  obtain ⟨C1, qq1, rr1, zz1⟩ := keep_blk hb1 (g := w.heap.size + 1) (by repeat (first | assumption | exact heap_alloc_at _ (by first | rfl | (simp; done) | omega) | refine heap_alloc_of _ ?_ | refine heap_setCell_of _ (by first | omega | (simp; done) | (simp; omega)) ?_ | refine heap_setCell_same _ ?_ | exact heap_at1_same (by first | omega | (simp; done) | (simp; omega)) | refine heap_at1_of (by first | omega | (simp; done) | (simp; omega)) ?_))
  go_wp2_with fail
  refine (has_any a bb _ _ _ j k _ ⟨by omega, by omega⟩ ⟨by omega, by omega⟩).mono ?_
  rintro e w2 ⟨he, hb2⟩
  rw [HI.out] at he
  subst he
  obtain ⟨B2, q2, r2, z2⟩ := keep_blk hb2 B1
  obtain ⟨C2, qq2, rr2, zz2⟩ := keep_blk hb2 C1
  clear B1 q1 r1 C1 qq1 rr1
  have t2 : Below w.heap.size w w2 := hb0.trans ((hb1.trans (hb2.mono hb1.size)).mono hb0.size)
  go_wp2_with fail
  refine (copyGrid_any a bb _ _ cs _ (ha.below t2) hcl0 h1).mono ?_
  rintro e w3 ⟨A3, c3, rfl, ho3, hs3, hi3, hb3⟩
  obtain ⟨B3, q3, r3, z3⟩ := keep_blk hb3 B2
  obtain ⟨C3, qq3, rr3, zz3⟩ := keep_blk hb3 C2
  clear B2 q2 r2 C2 qq2 rr2 hs3 hi3
  have t3 := t2.trans (hb3.mono t2.size)
  obtain ⟨g, rfl, hlo, hcm, hxc, _⟩ := ho3.fill hcl0
  have hgl := (ho3.lt g rfl).2
  go_wp2_with fail
  refine (row_any a bb _ _ _ k p q _ hp hq (by have := HQ.out; omega) hqb ho3.cap hcl (by omega)).mono ?_
  rintro e w4 ⟨rfl, hb4⟩
  obtain ⟨B4, q4, r4, z4⟩ := keep_blk hb4 (g := w.heap.size) (by repeat (first | assumption | exact heap_alloc_at _ (by first | rfl | (simp; done) | omega) | refine heap_alloc_of _ ?_ | refine heap_setCell_of _ (by first | omega | (simp; done) | (simp; omega)) ?_ | refine heap_setCell_same _ ?_ | exact heap_at1_same (by first | omega | (simp; done) | (simp; omega)) | refine heap_at1_of (by first | omega | (simp; done) | (simp; omega)) ?_))
  obtain ⟨C4, qq4, rr4, zz4⟩ := keep_blk hb4 (g := w.heap.size + 1) (by repeat (first | assumption | exact heap_alloc_at _ (by first | rfl | (simp; done) | omega) | refine heap_alloc_of _ ?_ | refine heap_setCell_of _ (by first | omega | (simp; done) | (simp; omega)) ?_ | refine heap_setCell_same _ ?_ | exact heap_at1_same (by first | omega | (simp; done) | (simp; omega)) | refine heap_at1_of (by first | omega | (simp; done) | (simp; omega)) ?_))
  obtain ⟨D4, qd4, rd4, zd4⟩ := keep_blk hb4 (g := w3.heap.size) (by repeat (first | assumption | exact heap_alloc_at _ (by first | rfl | (simp; done) | omega) | refine heap_alloc_of _ ?_ | refine heap_setCell_of _ (by first | omega | (simp; done) | (simp; omega)) ?_ | refine heap_setCell_same _ ?_ | exact heap_at1_same (by first | omega | (simp; done) | (simp; omega)) | refine heap_at1_of (by first | omega | (simp; done) | (simp; omega)) ?_))
  have u3 : Below w3.heap.size w3 _ := (Below.refl w3.heap.size w3).alloc (Nat.le_refl _) (.cells #[.int .i64 a, .int .i64 bb, .slice (some ⟨g, 0, none⟩) cs.length c3] 29)
  have ho4 := (ho3.below (u3.trans (hb4.mono u3.size)) (Nat.le_refl _))
  have t4 := t3.trans ((u3.trans (hb4.mono u3.size)).mono t3.size)
  have hA : (some (⟨g, 0, none⟩ : Addr)).map (·.add (p * 6)) = some ⟨g, p * 6, none⟩ := by simp [Addr.add_lit]
  rw [hA, HQ.out, Nat.add_sub_cancel_left]
  clear B3 q3 r3 C3 qq3 rr3 hA
  go_wp2_with fail
  clear u3 hb4 hb3 hb2 hb1 hb0
  have hsz : w3.heap.size < w4.heap.size := zd4
  have HB4 := Lib.hid B4
  have HC4 := Lib.hid C4
  have HD4 := Lib.hid D4
  clear B4 C4 D4
  go_loopw [11] (fun i wr => ∃ kk : Nat, j ≤ kk ∧ kk ≤ a ∧ i = .int .i64 kk ∧ Og wr w2.heap.size (some ⟨g, 0, none⟩) c3 (upd cs (shF cs p j a n) (p + j) (p + kk)) ∧ Hid (wr.heap[w.heap.size]? = (some (.cells #[.int .i64 a, .int .i64 bb, .slice A cs.length c] 29 (0, 0)))) ∧ Hid (wr.heap[w.heap.size + 1]? = (some (.cells #[.int .i64 0, .int .i64 0, .slice none 0 0] 29 (0, 0)))) ∧ Hid (wr.heap[w3.heap.size]? = (some (.cells #[.int .i64 a, .int .i64 bb, .slice (some ⟨g, 0, none⟩) cs.length c3] 29 (0, 0)))) ∧ Below w.heap.size w wr ∧ w4.heap.size ≤ wr.heap.size) (fun i _ => a - (intOf i).toNat)
  case atStart => exact ⟨j, Nat.le_refl _, by omega, rfl, by rw [upd_self]; exact ho4, HB4, HC4, HD4, t4, Nat.le_refl _⟩
  case round =>
    clear q4 r4 qq4 rr4 qd4 rd4 ho4
    obtain ⟨kk, hk1, hk2, rfl, ho, hB, hC, hD, hb, hs⟩ := hrel
    have q0 : ∀ i, wr.cell? ⟨w.heap.size, i, none⟩ = _ := fun i => cell_of_row wr _ i _ _ (0, 0) hB.out
    have hkl : p + kk < (upd cs (shF cs p j a n) (p + j) (p + kk)).length ∨ ¬ kk < a := by rw [upd_len]; omega
    by_cases hlt : kk < a
    · have hkl := hkl.resolve_right (by omega)
      have hlt' : (kk : Int) < a := by omega
      have hltl : (kk : Int) < ((a : Nat) : Int) := hlt'
      by_cases hn : withinB n (-120) 120 = true
      case neg =>
        have HN : Hid (withinB n (-120) 120 = false) := by show _ = _; simpa using hn
        have HF : Hid (shF cs p j a n (p + kk) = bk) := sh_out (by simp [withinB] at hn; omega)
        clear hn
        go_wp2_with (first | (go_at_call 62; refine (blank_any _).mono ?_; rintro e w5 ⟨rfl, hb5⟩; obtain ⟨B5, q5, r5, z5⟩ := keep_blk hb5 hB.out; obtain ⟨C5, qq5, rr5, zz5⟩ := keep_blk hb5 hC.out; obtain ⟨D5, qd5, rd5, zd5⟩ := keep_blk hb5 hD.out; have ho5 := ho.below hb5 (Nat.le_refl _); have v5 := hb.trans (hb5.mono hb.size); have zw5 := hb5.size; obtain ⟨⟨u0, x0⟩, ⟨u1, x1⟩, ⟨u2, x2⟩, ⟨u3, x3⟩, ⟨u4, x4⟩, ⟨u5, x5⟩, f0, f1, f2, f3, f4, f5⟩ := ho5.getA (p := p) (k := kk) hkl) | (go_at_call 63; refine (within_any _ _ _ _).mono ?_; rintro e w6 ⟨he, rfl⟩; rw [HN.out] at he; subst he))
        have ho6 := ho5.setA (p := p) (k := kk) hkl bk
        have eU : (upd cs (shF cs p j a n) (p + j) (p + kk)).set (p + kk) bk = upd cs (shF cs p j a n) (p + j) (p + (kk + 1)) := by
          rw [← HF.out]
          exact upd_set (by omega) (by omega)
        rw [eU] at ho6
        go_roundw
        case rel => exact ⟨kk + 1, by omega, by omega, by go_num, ho6, Lib.hid (heap_six B5 (by omega) _ _ _ _ _ _), Lib.hid (heap_six C5 (by omega) _ _ _ _ _ _), Lib.hid (heap_six D5 (by omega) _ _ _ _ _ _), below_six v5 (by omega) _ _ _ _ _ _, by simp; omega⟩
        case measure => simp [intOf]; omega
      have HN := Lib.hid hn
      have hn2 : -120 ≤ n ∧ n ≤ 120 := by simpa [withinB] using hn
      obtain ⟨hn3, hn4⟩ := hn2
      clear hn
      have eW : wrap64 ((kk : Int) - n) = (kk : Int) - n := w64 (n := (kk : Int) - n) ⟨by omega, by omega⟩
      by_cases hr : (j : Int) ≤ (kk : Int) - n ∧ (kk : Int) - n < a
      case neg =>
        have HX : Hid (withinB ((kk : Int) - n) j ((a : Int) - 1) = false) := by show _ = _; simp [withinB]; omega
        have HF : Hid (shF cs p j a n (p + kk) = bk) := sh_out hr
        clear hr
        go_wp2_with (first | (go_at_call 62; refine (blank_any _).mono ?_; rintro e w5 ⟨rfl, hb5⟩; obtain ⟨B5, q5, r5, z5⟩ := keep_blk hb5 hB.out; obtain ⟨C5, qq5, rr5, zz5⟩ := keep_blk hb5 hC.out; obtain ⟨D5, qd5, rd5, zd5⟩ := keep_blk hb5 hD.out; have ho5 := ho.below hb5 (Nat.le_refl _); have v5 := hb.trans (hb5.mono hb.size); have zw5 := hb5.size; obtain ⟨⟨u0, x0⟩, ⟨u1, x1⟩, ⟨u2, x2⟩, ⟨u3, x3⟩, ⟨u4, x4⟩, ⟨u5, x5⟩, f0, f1, f2, f3, f4, f5⟩ := ho5.getA (p := p) (k := kk) hkl) | (go_at_call 63; refine (within_any _ _ _ _).mono ?_; rintro e w6 ⟨he, rfl⟩; (first | rw [HN.out] at he | rw [HX.out] at he); subst he))
        have ho6 := ho5.setA (p := p) (k := kk) hkl bk
        have eU : (upd cs (shF cs p j a n) (p + j) (p + kk)).set (p + kk) bk = upd cs (shF cs p j a n) (p + j) (p + (kk + 1)) := by
          rw [← HF.out]
          exact upd_set (by omega) (by omega)
        rw [eU] at ho6
        go_roundw
        case rel => exact ⟨kk + 1, by omega, by omega, by go_num, ho6, Lib.hid (heap_six B5 (by omega) _ _ _ _ _ _), Lib.hid (heap_six C5 (by omega) _ _ _ _ _ _), Lib.hid (heap_six D5 (by omega) _ _ _ _ _ _), below_six v5 (by omega) _ _ _ _ _ _, by simp; omega⟩
        case measure => simp [intOf]; omega
      obtain ⟨r, er⟩ := Int.eq_ofNat_of_zero_le (show 0 ≤ (kk : Int) - n by omega)
      have hr1 : j ≤ r := by omega
      have hr2 : r < a := by omega
      have hpr : p + r < cs.length := by omega
      have HF : Hid (shF cs p j a n (p + kk) = cs[p + r]) := sh_in hr1 hr2 er hpr
      have HX : Hid (withinB (r : Int) j ((a : Int) - 1) = true) := by show _ = _; simp [withinB]; omega
      have hra : (r : Int) < a := by omega
      rw [er] at eW
      clear hr hn3 hn4
      obtain ⟨b, o, rfl, _⟩ := ha.get hpr
      have hA : (some (⟨b, o, none⟩ : Addr)).map (·.add (p * 6)) = some ⟨b, o + p * 6, none⟩ := by simp [Addr.add_lit]
      go_wp2_with (first | (go_at_call 62; refine (blank_any _).mono ?_; rintro e w5 ⟨rfl, hb5⟩; obtain ⟨B5, q5, r5, z5⟩ := keep_blk hb5 hB.out; obtain ⟨C5, qq5, rr5, zz5⟩ := keep_blk hb5 hC.out; obtain ⟨D5, qd5, rd5, zd5⟩ := keep_blk hb5 hD.out; have ho5 := ho.below hb5 (Nat.le_refl _); have v5 := hb.trans (hb5.mono hb.size); have zw5 := hb5.size; obtain ⟨⟨u0, x0⟩, ⟨u1, x1⟩, ⟨u2, x2⟩, ⟨u3, x3⟩, ⟨u4, x4⟩, ⟨u5, x5⟩, f0, f1, f2, f3, f4, f5⟩ := ho5.getA (p := p) (k := kk) hkl) | (go_at_call 63; refine (within_any _ _ _ _).mono ?_; rintro e w6 ⟨he, rfl⟩; (first | rw [HN.out] at he | rw [HX.out] at he); subst he) | (go_at_call 53; refine (row_any a bb _ _ _ k p q _ hp hq (by have := HQ.out; omega) hqb hc hcl (by omega)).mono ?_; rintro e w7 ⟨rfl, hb7⟩; rw [hA, HQ.out, Nat.add_sub_cancel_left]; have s6 := ho5.setA (p := p) (k := kk) hkl bk; have hkl7 : p + kk < ((upd cs (shF cs p j a n) (p + j) (p + kk)).set (p + kk) bk).length := (by rw [List.length_set]; exact hkl); have ho7 := s6.below hb7 (Nat.le_refl _); have v6 := below_six (o0 := p * 6 + kk * 6) (o1 := p * 6 + kk * 6 + 1) (o2 := p * 6 + kk * 6 + 2) (o3 := p * 6 + kk * 6 + 3) (o4 := p * 6 + kk * 6 + 4) (o5 := p * 6 + kk * 6 + 5) v5 (show w.heap.size ≤ g by omega) (.int .i64 32) (.int .i64 0) (.int .i64 0) (.bool false) (.bool false) (.bool false); have v7 := v6.trans (hb7.mono v6.size); have zw7 := hb7.size; have B7 := (hb7.block w.heap.size (by simp; omega)).trans (heap_six B5 (by omega) _ _ _ _ _ _); have C7 := (hb7.block (w.heap.size + 1) (by simp; omega)).trans (heap_six C5 (by omega) _ _ _ _ _ _); have D7 := (hb7.block w3.heap.size (by simp; omega)).trans (heap_six D5 (by omega) _ _ _ _ _ _); obtain ⟨b', o', hA', _, y0, y1, y2, y3, y4, y5⟩ := (ha.below v7).get hpr; obtain ⟨rfl, rfl⟩ : b = b' ∧ o = o' := (by simpa using hA'); rw [show o + (p + r) * 6 = o + p * 6 + r * 6 by omega] at y0 y1 y2 y3 y4 y5; obtain ⟨⟨m0, l0⟩, ⟨m1, l1⟩, ⟨m2, l2⟩, ⟨m3, l3⟩, ⟨m4, l4⟩, ⟨m5, l5⟩, k0, k1, k2, k3, k4, k5⟩ := ho7.getA (p := p) (k := kk) hkl7))
      have ho8 := ho7.setA (p := p) (k := kk) hkl7 cs[p + r]
      have eU : ((upd cs (shF cs p j a n) (p + j) (p + kk)).set (p + kk) bk).set (p + kk) cs[p + r] = upd cs (shF cs p j a n) (p + j) (p + (kk + 1)) := by
        rw [List.set_set, ← HF.out]
        exact upd_set (by omega) (by omega)
      rw [eU] at ho8
      simp at zw7
      go_roundw
      case rel => exact ⟨kk + 1, by omega, by omega, by go_num, ho8, Lib.hid (heap_six B7 (by omega) _ _ _ _ _ _), Lib.hid (heap_six C7 (by omega) _ _ _ _ _ _), Lib.hid (heap_six D7 (by omega) _ _ _ _ _ _), below_six v7 (by omega) _ _ _ _ _ _, by simp; omega⟩
      case measure => simp [intOf]; omega
    · have hkk : kk = a := by omega
      have ho' : Og wr w2.heap.size (some ⟨g, 0, none⟩) c3 (shL cs p j a n) := by rw [hkk] at ho; exact ho
      have hlt' : ¬ (kk : Int) < a := by omega
      have qq0 : ∀ i, wr.cell? ⟨w.heap.size + 1, i, none⟩ = _ := fun i => cell_of_row wr _ i _ _ (0, 0) hC.out
      have rr0 : ∀ i, wr.frozen? ⟨w.heap.size + 1, i, none⟩ = false := fun i => by simp [World.frozen?, hC.out]
      have qd0 : ∀ i, wr.cell? ⟨w3.heap.size, i, none⟩ = _ := fun i => cell_of_row wr _ i _ _ (0, 0) hD.out
      have zr := (Array.getElem?_eq_some_iff.1 hC.out).1
      clear hkk ho hkl
      go_wp2_with fail
      refine bodyPost_ret (v := gV a bb (some ⟨g, 0, none⟩) cs.length c3) (by simp [results, Try.results21, go_sem, *]) rfl ?_
      have hL : (shL cs p j a n).length = cs.length := upd_len
      have ho2 := (((ho'.setCell (p := ⟨w.heap.size + 1, 0, none⟩) (by first | omega | (simp; done) | (simp; omega)) (.int .i64 a)).setCell (p := ⟨w.heap.size + 1, 1, none⟩) (by first | omega | (simp; done) | (simp; omega)) (.int .i64 bb)).setCell (p := ⟨w.heap.size + 1, 2, none⟩) (by first | omega | (simp; done) | (simp; omega)) (.slice (some ⟨g, 0, none⟩) cs.length c3))
      exact ⟨_, c3, by rw [hL], ho2.mono (by omega), ho2.gs, (ho2.mono (by omega)).inB, ((hb.setCell (by first | omega | (simp; done) | (simp; omega)) _).setCell (by first | omega | (simp; done) | (simp; omega)) _).setCell (by first | omega | (simp; done) | (simp; omega)) _⟩
end Go.Proofs.Ytnilgcahggmncaa
