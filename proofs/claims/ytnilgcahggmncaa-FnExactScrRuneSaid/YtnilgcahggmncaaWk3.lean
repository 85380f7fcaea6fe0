/- A screen is valid: the program's way (part 3). -/
import Derived.Test.YtnilgcahggmncaaWe
import Derived.Test.YtnilgcahggmncaaZb
namespace Go.Proofs.Ytnilgcahggmncaa
open Go.RowKit
set_option linter.unusedVariables false
set_option maxRecDepth 100000

set_option maxHeartbeats 4000000 in
theorem ib_d3 (s : Sc) (mA : Option Addr) (mc : Nat) (ms : List Cl) (aA : Option Addr) (ac : Nat) (xs : List Cl) (tA : Option Addr) (tc : Nat) (ts : List Int) (bA : Option Addr) (bc : Nat) (bs : List Rw) (w : World) (g1 : Gs w mA ms) (l1 : ms.length ≤ 1048576) (g2 : Gs w aA xs) (l2 : xs.length ≤ 1048576) (HM : Hid (gridB s.mW s.mH ms = true)) (fn1 : (s.mW != s.W) = false) (fn2 : (s.mH != s.H) = false) (HA : Hid (gridB s.aW s.aH xs = true)) (fn3 : (s.aW != s.W) = false) (fn4 : (s.aH != s.H) = false) (w2c : 1 ≤ s.W) (w2d : s.W ≤ 120) (w2e : 1 ≤ s.H) (w2f : s.H ≤ 120) (MW : Hid (0 ≤ s.mW ∧ s.mW ≤ 1000)) (MH : Hid (0 ≤ s.mH ∧ s.mH ≤ 1000)) (HH1 : Hid (decide ((0 ≤ s.X ∧ s.X < s.mW) ∧ (0 ≤ s.Y ∧ s.Y < s.mH)) = true)) (HH2 : Hid (decide ((0 ≤ s.sX ∧ s.sX < s.mW) ∧ (0 ≤ s.sY ∧ s.sY < s.mH)) = true)) (fw : s.wrap = false ∨ s.wrap = true ∧ (s.X != s.W - 1) = false) (HT1 : Hid (attrOkB s.A.1 s.A.2.1 = true)) (HT2 : Hid (attrOkB s.sA.1 s.sA.2.1 = true)) (fd1 : ¬ s.top < 0) (fb : s.bot < s.top) :
    Calls Try.prog 34 #[sV s (mA, mc, ms) (aA, ac, xs) (tA, tc, ts) (bA, bc, bs)] w fun e w' => e = .returned (.bool false) ∧ Below w.heap.size w w' := by
  have t0 : Below w.heap.size w (((w.alloc (.cells (sC s (mA, mc, ms) (aA, ac, xs) (tA, tc, ts) (bA, bc, bs)) 49)).alloc (.cells #[.int .i64 s.mW, .int .i64 s.mH, .slice mA ms.length mc, .int .i64 s.aW, .int .i64 s.aH, .slice aA xs.length ac] 29)).alloc (.cells #[.int .i64 s.mW, .int .i64 s.mH, .slice mA ms.length mc] 29)) := (((Below.refl _ _).alloc (Nat.le_refl _) _).alloc (by simp) _).alloc (by simp; omega) _
  rcases fw with fw1 | ⟨fw1, fw2⟩
  all_goals
    go_enter Try.func34, Try.ntmps34
    go_wp2_with fail
    dsimp only [tv, bv, rv]
    refine wp_loop_rounds 3 ?_
    rw [rounds_succ]
    go_wp2_with fail
    refine (gridOk_impl s.mW s.mH _ _ ms _ (g1.below t0) l1).mono ?_
    rintro e w1 ⟨he, hb1⟩
    rw [HM.out] at he
    subst he
    obtain ⟨B1, q1, r1, z1⟩ := keep_blk hb1 (g := w.heap.size) (by repeat (first | assumption | exact heap_alloc_at _ (by first | rfl | (simp; done) | omega) | refine heap_alloc_of _ ?_ | refine heap_setCell_of _ (by first | omega | (simp; done) | (simp; omega)) ?_ | refine heap_setCell_same _ ?_ | exact heap_at1_same (by first | omega | (simp; done) | (simp; omega)) | refine heap_at1_of (by first | omega | (simp; done) | (simp; omega)) ?_))
    obtain ⟨C1, qc1, rc1, zc1⟩ := keep_blk hb1 (g := w.heap.size + 1) (by repeat (first | assumption | exact heap_alloc_at _ (by first | rfl | (simp; done) | omega) | refine heap_alloc_of _ ?_ | refine heap_setCell_of _ (by first | omega | (simp; done) | (simp; omega)) ?_ | refine heap_setCell_same _ ?_ | exact heap_at1_same (by first | omega | (simp; done) | (simp; omega)) | refine heap_at1_of (by first | omega | (simp; done) | (simp; omega)) ?_))
    obtain ⟨D1, qd1, rd1, zd1⟩ := keep_blk hb1 (g := w.heap.size + 1 + 1) (by repeat (first | assumption | exact heap_alloc_at _ (by first | rfl | (simp; done) | omega) | refine heap_alloc_of _ ?_ | refine heap_setCell_of _ (by first | omega | (simp; done) | (simp; omega)) ?_ | refine heap_setCell_same _ ?_ | exact heap_at1_same (by first | omega | (simp; done) | (simp; omega)) | refine heap_at1_of (by first | omega | (simp; done) | (simp; omega)) ?_))
    dsimp only [sC, tv, bv, rv] at q1
    have t1 := t0.trans (hb1.mono t0.size)
    go_wp2_with fail
    rw [rounds_succ]
    go_wp2_with fail
    have t1' : Below w.heap.size w (w1.alloc (.cells #[.int .i64 s.aW, .int .i64 s.aH, .slice aA xs.length ac] 29)) := t1.alloc t1.size _
    refine (gridOk_impl s.aW s.aH _ _ xs _ (g2.below t1') l2).mono ?_
    rintro e w2 ⟨he, hb2⟩
    rw [HA.out] at he
    subst he
    obtain ⟨B2, q2, r2, z2⟩ := keep_blk hb2 (heap_alloc_of _ B1)
    obtain ⟨D2, qd2, rd2, zd2⟩ := keep_blk hb2 (g := w1.heap.size) (heap_alloc_new _ _)
    dsimp only [sC, tv, bv, rv] at q2
    clear B1 q1 r1 C1 qc1 rc1 D1 qd1 rd1
    have t2 := t1'.trans (hb2.mono t1'.size)
    go_wp2_with fail
    rw [rounds_succ]
    go_wp2_with fail
    refine (has_any s.mW s.mH _ _ _ s.X s.Y _ MW.out MH.out).mono ?_
    rintro e w3 ⟨he, hb3⟩
    rw [HH1.out] at he
    subst he
    obtain ⟨B3, q3, r3, z3⟩ := keep_blk hb3 B2
    dsimp only [sC, tv, bv, rv] at q3
    clear B2 q2 r2
    have t3 := t2.trans (hb3.mono t2.size)
    go_wp2_with fail
    refine (has_any s.mW s.mH _ _ _ s.sX s.sY _ MW.out MH.out).mono ?_
    rintro e w4 ⟨he, hb4⟩
    rw [HH2.out] at he
    subst he
    obtain ⟨B4, q4, r4, z4⟩ := keep_blk hb4 B3
    dsimp only [sC, tv, bv, rv] at q4
    clear B3 q3 r3
    have t4 := t3.trans (hb4.mono t3.size)
    go_wp2_with fail
    refine (attrOk_impl s.A.1 s.A.2.1 s.A.2.2.1 s.A.2.2.2.1 s.A.2.2.2.2 _).mono ?_
    rintro e w5 ⟨he, o5, hw5⟩
    have hb5 : Below w4.heap.size w4 w5 := by rw [← hw5]; exact (Below.refl _ _).alloc (Nat.le_refl _) _
    clear hw5
    rw [HT1.out] at he
    subst he
    obtain ⟨B5, q5, r5, z5⟩ := keep_blk hb5 B4
    dsimp only [sC, tv, bv, rv] at q5
    clear B4 q4 r4
    have t5 := t4.trans (hb5.mono t4.size)
    go_wp2_with fail
    refine (attrOk_impl s.sA.1 s.sA.2.1 s.sA.2.2.1 s.sA.2.2.2.1 s.sA.2.2.2.2 _).mono ?_
    rintro e w6 ⟨he, o6, hw6⟩
    have hb6 : Below w5.heap.size w5 w6 := by rw [← hw6]; exact (Below.refl _ _).alloc (Nat.le_refl _) _
    clear hw6
    rw [HT2.out] at he
    subst he
    obtain ⟨B6, q6, r6, z6⟩ := keep_blk hb6 B5
    dsimp only [sC, tv, bv, rv] at q6
    clear B5 q5 r5
    have t6 := t5.trans (hb6.mono t5.size)
    go_wp2_with fail
    all_goals (go_ret; exact ⟨rfl, t6⟩)
set_option maxHeartbeats 4000000 in
theorem ib_d2 (s : Sc) (mA : Option Addr) (mc : Nat) (ms : List Cl) (aA : Option Addr) (ac : Nat) (xs : List Cl) (tA : Option Addr) (tc : Nat) (ts : List Int) (bA : Option Addr) (bc : Nat) (bs : List Rw) (w : World) (g1 : Gs w mA ms) (l1 : ms.length ≤ 1048576) (g2 : Gs w aA xs) (l2 : xs.length ≤ 1048576) (HM : Hid (gridB s.mW s.mH ms = true)) (fn1 : (s.mW != s.W) = false) (fn2 : (s.mH != s.H) = false) (HA : Hid (gridB s.aW s.aH xs = true)) (fn3 : (s.aW != s.W) = false) (fn4 : (s.aH != s.H) = false) (w2c : 1 ≤ s.W) (w2d : s.W ≤ 120) (w2e : 1 ≤ s.H) (w2f : s.H ≤ 120) (MW : Hid (0 ≤ s.mW ∧ s.mW ≤ 1000)) (MH : Hid (0 ≤ s.mH ∧ s.mH ≤ 1000)) (HH1 : Hid (decide ((0 ≤ s.X ∧ s.X < s.mW) ∧ (0 ≤ s.Y ∧ s.Y < s.mH)) = true)) (HH2 : Hid (decide ((0 ≤ s.sX ∧ s.sX < s.mW) ∧ (0 ≤ s.sY ∧ s.sY < s.mH)) = true)) (fw : s.wrap = false ∨ s.wrap = true ∧ (s.X != s.W - 1) = false) (HT1 : Hid (attrOkB s.A.1 s.A.2.1 = true)) (HT2 : Hid (attrOkB s.sA.1 s.sA.2.1 = true)) (fd1 : ¬ s.top < 0) (fd3 : ¬ s.bot < s.top) (fb : s.H ≤ s.bot) :
    Calls Try.prog 34 #[sV s (mA, mc, ms) (aA, ac, xs) (tA, tc, ts) (bA, bc, bs)] w fun e w' => e = .returned (.bool false) ∧ Below w.heap.size w w' := by
  have t0 : Below w.heap.size w (((w.alloc (.cells (sC s (mA, mc, ms) (aA, ac, xs) (tA, tc, ts) (bA, bc, bs)) 49)).alloc (.cells #[.int .i64 s.mW, .int .i64 s.mH, .slice mA ms.length mc, .int .i64 s.aW, .int .i64 s.aH, .slice aA xs.length ac] 29)).alloc (.cells #[.int .i64 s.mW, .int .i64 s.mH, .slice mA ms.length mc] 29)) := (((Below.refl _ _).alloc (Nat.le_refl _) _).alloc (by simp) _).alloc (by simp; omega) _
  rcases fw with fw1 | ⟨fw1, fw2⟩
  all_goals
    go_enter Try.func34, Try.ntmps34
    go_wp2_with fail
    dsimp only [tv, bv, rv]
    refine wp_loop_rounds 3 ?_
    rw [rounds_succ]
    go_wp2_with fail
    refine (gridOk_impl s.mW s.mH _ _ ms _ (g1.below t0) l1).mono ?_
    rintro e w1 ⟨he, hb1⟩
    rw [HM.out] at he
    subst he
    obtain ⟨B1, q1, r1, z1⟩ := keep_blk hb1 (g := w.heap.size) (by repeat (first | assumption | exact heap_alloc_at _ (by first | rfl | (simp; done) | omega) | refine heap_alloc_of _ ?_ | refine heap_setCell_of _ (by first | omega | (simp; done) | (simp; omega)) ?_ | refine heap_setCell_same _ ?_ | exact heap_at1_same (by first | omega | (simp; done) | (simp; omega)) | refine heap_at1_of (by first | omega | (simp; done) | (simp; omega)) ?_))
    obtain ⟨C1, qc1, rc1, zc1⟩ := keep_blk hb1 (g := w.heap.size + 1) (by repeat (first | assumption | exact heap_alloc_at _ (by first | rfl | (simp; done) | omega) | refine heap_alloc_of _ ?_ | refine heap_setCell_of _ (by first | omega | (simp; done) | (simp; omega)) ?_ | refine heap_setCell_same _ ?_ | exact heap_at1_same (by first | omega | (simp; done) | (simp; omega)) | refine heap_at1_of (by first | omega | (simp; done) | (simp; omega)) ?_))
    obtain ⟨D1, qd1, rd1, zd1⟩ := keep_blk hb1 (g := w.heap.size + 1 + 1) (by repeat (first | assumption | exact heap_alloc_at _ (by first | rfl | (simp; done) | omega) | refine heap_alloc_of _ ?_ | refine heap_setCell_of _ (by first | omega | (simp; done) | (simp; omega)) ?_ | refine heap_setCell_same _ ?_ | exact heap_at1_same (by first | omega | (simp; done) | (simp; omega)) | refine heap_at1_of (by first | omega | (simp; done) | (simp; omega)) ?_))
    dsimp only [sC, tv, bv, rv] at q1
    have t1 := t0.trans (hb1.mono t0.size)
    go_wp2_with fail
    rw [rounds_succ]
    go_wp2_with fail
    have t1' : Below w.heap.size w (w1.alloc (.cells #[.int .i64 s.aW, .int .i64 s.aH, .slice aA xs.length ac] 29)) := t1.alloc t1.size _
    refine (gridOk_impl s.aW s.aH _ _ xs _ (g2.below t1') l2).mono ?_
    rintro e w2 ⟨he, hb2⟩
    rw [HA.out] at he
    subst he
    obtain ⟨B2, q2, r2, z2⟩ := keep_blk hb2 (heap_alloc_of _ B1)
    obtain ⟨D2, qd2, rd2, zd2⟩ := keep_blk hb2 (g := w1.heap.size) (heap_alloc_new _ _)
    dsimp only [sC, tv, bv, rv] at q2
    clear B1 q1 r1 C1 qc1 rc1 D1 qd1 rd1
    have t2 := t1'.trans (hb2.mono t1'.size)
    go_wp2_with fail
    rw [rounds_succ]
    go_wp2_with fail
    refine (has_any s.mW s.mH _ _ _ s.X s.Y _ MW.out MH.out).mono ?_
    rintro e w3 ⟨he, hb3⟩
    rw [HH1.out] at he
    subst he
    obtain ⟨B3, q3, r3, z3⟩ := keep_blk hb3 B2
    dsimp only [sC, tv, bv, rv] at q3
    clear B2 q2 r2
    have t3 := t2.trans (hb3.mono t2.size)
    go_wp2_with fail
    refine (has_any s.mW s.mH _ _ _ s.sX s.sY _ MW.out MH.out).mono ?_
    rintro e w4 ⟨he, hb4⟩
    rw [HH2.out] at he
    subst he
    obtain ⟨B4, q4, r4, z4⟩ := keep_blk hb4 B3
    dsimp only [sC, tv, bv, rv] at q4
    clear B3 q3 r3
    have t4 := t3.trans (hb4.mono t3.size)
    go_wp2_with fail
    refine (attrOk_impl s.A.1 s.A.2.1 s.A.2.2.1 s.A.2.2.2.1 s.A.2.2.2.2 _).mono ?_
    rintro e w5 ⟨he, o5, hw5⟩
    have hb5 : Below w4.heap.size w4 w5 := by rw [← hw5]; exact (Below.refl _ _).alloc (Nat.le_refl _) _
    clear hw5
    rw [HT1.out] at he
    subst he
    obtain ⟨B5, q5, r5, z5⟩ := keep_blk hb5 B4
    dsimp only [sC, tv, bv, rv] at q5
    clear B4 q4 r4
    have t5 := t4.trans (hb5.mono t4.size)
    go_wp2_with fail
    refine (attrOk_impl s.sA.1 s.sA.2.1 s.sA.2.2.1 s.sA.2.2.2.1 s.sA.2.2.2.2 _).mono ?_
    rintro e w6 ⟨he, o6, hw6⟩
    have hb6 : Below w5.heap.size w5 w6 := by rw [← hw6]; exact (Below.refl _ _).alloc (Nat.le_refl _) _
    clear hw6
    rw [HT2.out] at he
    subst he
    obtain ⟨B6, q6, r6, z6⟩ := keep_blk hb6 B5
    dsimp only [sC, tv, bv, rv] at q6
    clear B5 q5 r5
    have t6 := t5.trans (hb6.mono t5.size)
    go_wp2_with fail
    all_goals (go_ret; exact ⟨rfl, t6⟩)
set_option maxHeartbeats 4000000 in
theorem ib_d4 (s : Sc) (mA : Option Addr) (mc : Nat) (ms : List Cl) (aA : Option Addr) (ac : Nat) (xs : List Cl) (tA : Option Addr) (tc : Nat) (ts : List Int) (bA : Option Addr) (bc : Nat) (bs : List Rw) (w : World) (g1 : Gs w mA ms) (l1 : ms.length ≤ 1048576) (g2 : Gs w aA xs) (l2 : xs.length ≤ 1048576) (HM : Hid (gridB s.mW s.mH ms = true)) (fn1 : (s.mW != s.W) = false) (fn2 : (s.mH != s.H) = false) (HA : Hid (gridB s.aW s.aH xs = true)) (fn3 : (s.aW != s.W) = false) (fn4 : (s.aH != s.H) = false) (w2c : 1 ≤ s.W) (w2d : s.W ≤ 120) (w2e : 1 ≤ s.H) (w2f : s.H ≤ 120) (MW : Hid (0 ≤ s.mW ∧ s.mW ≤ 1000)) (MH : Hid (0 ≤ s.mH ∧ s.mH ≤ 1000)) (HH1 : Hid (decide ((0 ≤ s.X ∧ s.X < s.mW) ∧ (0 ≤ s.Y ∧ s.Y < s.mH)) = true)) (HH2 : Hid (decide ((0 ≤ s.sX ∧ s.sX < s.mW) ∧ (0 ≤ s.sY ∧ s.sY < s.mH)) = true)) (fw : s.wrap = false ∨ s.wrap = true ∧ (s.X != s.W - 1) = false) (HT1 : Hid (attrOkB s.A.1 s.A.2.1 = true)) (HT2 : Hid (attrOkB s.sA.1 s.sA.2.1 = true)) (fd1 : ¬ s.top < 0) (fd3 : ¬ s.bot < s.top) (fd2 : ¬ s.H ≤ s.bot) (fb1 : (s.top == s.bot) = true) (fb2 : (s.H != 1) = true) :
    Calls Try.prog 34 #[sV s (mA, mc, ms) (aA, ac, xs) (tA, tc, ts) (bA, bc, bs)] w fun e w' => e = .returned (.bool false) ∧ Below w.heap.size w w' := by
  have t0 : Below w.heap.size w (((w.alloc (.cells (sC s (mA, mc, ms) (aA, ac, xs) (tA, tc, ts) (bA, bc, bs)) 49)).alloc (.cells #[.int .i64 s.mW, .int .i64 s.mH, .slice mA ms.length mc, .int .i64 s.aW, .int .i64 s.aH, .slice aA xs.length ac] 29)).alloc (.cells #[.int .i64 s.mW, .int .i64 s.mH, .slice mA ms.length mc] 29)) := (((Below.refl _ _).alloc (Nat.le_refl _) _).alloc (by simp) _).alloc (by simp; omega) _
  rcases fw with fw1 | ⟨fw1, fw2⟩
  all_goals
    go_enter Try.func34, Try.ntmps34
    go_wp2_with fail
    dsimp only [tv, bv, rv]
    refine wp_loop_rounds 3 ?_
    rw [rounds_succ]
    go_wp2_with fail
    refine (gridOk_impl s.mW s.mH _ _ ms _ (g1.below t0) l1).mono ?_
    rintro e w1 ⟨he, hb1⟩
    rw [HM.out] at he
    subst he
    obtain ⟨B1, q1, r1, z1⟩ := keep_blk hb1 (g := w.heap.size) (by repeat (first | assumption | exact heap_alloc_at _ (by first | rfl | (simp; done) | omega) | refine heap_alloc_of _ ?_ | refine heap_setCell_of _ (by first | omega | (simp; done) | (simp; omega)) ?_ | refine heap_setCell_same _ ?_ | exact heap_at1_same (by first | omega | (simp; done) | (simp; omega)) | refine heap_at1_of (by first | omega | (simp; done) | (simp; omega)) ?_))
    obtain ⟨C1, qc1, rc1, zc1⟩ := keep_blk hb1 (g := w.heap.size + 1) (by repeat (first | assumption | exact heap_alloc_at _ (by first | rfl | (simp; done) | omega) | refine heap_alloc_of _ ?_ | refine heap_setCell_of _ (by first | omega | (simp; done) | (simp; omega)) ?_ | refine heap_setCell_same _ ?_ | exact heap_at1_same (by first | omega | (simp; done) | (simp; omega)) | refine heap_at1_of (by first | omega | (simp; done) | (simp; omega)) ?_))
    obtain ⟨D1, qd1, rd1, zd1⟩ := keep_blk hb1 (g := w.heap.size + 1 + 1) (by repeat (first | assumption | exact heap_alloc_at _ (by first | rfl | (simp; done) | omega) | refine heap_alloc_of _ ?_ | refine heap_setCell_of _ (by first | omega | (simp; done) | (simp; omega)) ?_ | refine heap_setCell_same _ ?_ | exact heap_at1_same (by first | omega | (simp; done) | (simp; omega)) | refine heap_at1_of (by first | omega | (simp; done) | (simp; omega)) ?_))
    dsimp only [sC, tv, bv, rv] at q1
    have t1 := t0.trans (hb1.mono t0.size)
    go_wp2_with fail
    rw [rounds_succ]
    go_wp2_with fail
    have t1' : Below w.heap.size w (w1.alloc (.cells #[.int .i64 s.aW, .int .i64 s.aH, .slice aA xs.length ac] 29)) := t1.alloc t1.size _
    refine (gridOk_impl s.aW s.aH _ _ xs _ (g2.below t1') l2).mono ?_
    rintro e w2 ⟨he, hb2⟩
    rw [HA.out] at he
    subst he
    obtain ⟨B2, q2, r2, z2⟩ := keep_blk hb2 (heap_alloc_of _ B1)
    obtain ⟨D2, qd2, rd2, zd2⟩ := keep_blk hb2 (g := w1.heap.size) (heap_alloc_new _ _)
    dsimp only [sC, tv, bv, rv] at q2
    clear B1 q1 r1 C1 qc1 rc1 D1 qd1 rd1
    have t2 := t1'.trans (hb2.mono t1'.size)
    go_wp2_with fail
    rw [rounds_succ]
    go_wp2_with fail
    refine (has_any s.mW s.mH _ _ _ s.X s.Y _ MW.out MH.out).mono ?_
    rintro e w3 ⟨he, hb3⟩
    rw [HH1.out] at he
    subst he
    obtain ⟨B3, q3, r3, z3⟩ := keep_blk hb3 B2
    dsimp only [sC, tv, bv, rv] at q3
    clear B2 q2 r2
    have t3 := t2.trans (hb3.mono t2.size)
    go_wp2_with fail
    refine (has_any s.mW s.mH _ _ _ s.sX s.sY _ MW.out MH.out).mono ?_
    rintro e w4 ⟨he, hb4⟩
    rw [HH2.out] at he
    subst he
    obtain ⟨B4, q4, r4, z4⟩ := keep_blk hb4 B3
    dsimp only [sC, tv, bv, rv] at q4
    clear B3 q3 r3
    have t4 := t3.trans (hb4.mono t3.size)
    go_wp2_with fail
    refine (attrOk_impl s.A.1 s.A.2.1 s.A.2.2.1 s.A.2.2.2.1 s.A.2.2.2.2 _).mono ?_
    rintro e w5 ⟨he, o5, hw5⟩
    have hb5 : Below w4.heap.size w4 w5 := by rw [← hw5]; exact (Below.refl _ _).alloc (Nat.le_refl _) _
    clear hw5
    rw [HT1.out] at he
    subst he
    obtain ⟨B5, q5, r5, z5⟩ := keep_blk hb5 B4
    dsimp only [sC, tv, bv, rv] at q5
    clear B4 q4 r4
    have t5 := t4.trans (hb5.mono t4.size)
    go_wp2_with fail
    refine (attrOk_impl s.sA.1 s.sA.2.1 s.sA.2.2.1 s.sA.2.2.2.1 s.sA.2.2.2.2 _).mono ?_
    rintro e w6 ⟨he, o6, hw6⟩
    have hb6 : Below w5.heap.size w5 w6 := by rw [← hw6]; exact (Below.refl _ _).alloc (Nat.le_refl _) _
    clear hw6
    rw [HT2.out] at he
    subst he
    obtain ⟨B6, q6, r6, z6⟩ := keep_blk hb6 B5
    dsimp only [sC, tv, bv, rv] at q6
    clear B5 q5 r5
    have t6 := t5.trans (hb6.mono t5.size)
    go_wp2_with fail
    all_goals (go_ret; exact ⟨rfl, t6⟩)
end Go.Proofs.Ytnilgcahggmncaa
