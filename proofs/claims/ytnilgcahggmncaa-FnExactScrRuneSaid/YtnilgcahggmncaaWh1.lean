/- A screen is not valid: the reference's way, the later conditions (1). -/
import Derived.Test.YtnilgcahggmncaaWg1
namespace Go.Proofs.Ytnilgcahggmncaa
open Go.RowKit
set_option linter.unusedVariables false
set_option maxRecDepth 100000

set_option maxHeartbeats 4000000 in
theorem sb_n12 (s : Sc) (mA : Option Addr) (mc : Nat) (ms : List Cl) (aA : Option Addr) (ac : Nat) (xs : List Cl) (tA : Option Addr) (tc : Nat) (ts : List Int) (bA : Option Addr) (bc : Nat) (bs : List Rw) (w : World) (g1 : Gs w mA ms) (l1 : ms.length ≤ 1048576) (g2 : Gs w aA xs) (l2 : xs.length ≤ 1048576) (HM : Hid (gridB s.mW s.mH ms = true)) (HA : Hid (gridB s.aW s.aH xs = true)) (fn1 : (s.mW != s.W) = false) (fn2 : (s.mH != s.H) = false) (fn3 : (s.aW != s.W) = false) (fn4 : (s.aH != s.H) = false) (fn5 : ¬ s.X < 0) (fn6 : ¬ s.W ≤ s.X) (fn7 : ¬ s.Y < 0) (fn8 : ¬ s.H ≤ s.Y) (fw : s.wrap = false ∨ s.wrap = true ∧ (s.X != s.W - 1) = false) (fn9 : ¬ s.sX < 0) (fn10 : ¬ s.W ≤ s.sX) (fn11 : ¬ s.sY < 0) (w2c : 1 ≤ s.W) (w2d : s.W ≤ 120) (w2e : 1 ≤ s.H) (w2f : s.H ≤ 120) (fb : s.H ≤ s.sY) :
    Calls Try.prog 32 #[sV s (mA, mc, ms) (aA, ac, xs) (tA, tc, ts) (bA, bc, bs)] w fun e w' => e = .returned (.bool false) ∧ Below w.heap.size w w' := by
  have t0 : Below w.heap.size w (w.alloc (.cells (sC s (mA, mc, ms) (aA, ac, xs) (tA, tc, ts) (bA, bc, bs)) 49)) := (Below.refl _ _).alloc (Nat.le_refl _) _
  rcases fw with fw1 | ⟨fw1, fw2⟩
  all_goals
    go_enter Try.func32, Try.ntmps32
    simp only [List.append_eq, List.cons_append, List.nil_append]
    go_wp2_with fail
    refine (gridOk_spec s.mW s.mH _ _ ms _ (g1.below t0) l1).mono ?_
    rintro e w1 ⟨he, hb1⟩
    rw [HM.out] at he
    subst he
    obtain ⟨B1, q1, r1, z1⟩ := keep_blk hb1 (g := w.heap.size) (by repeat (first | assumption | exact heap_alloc_at _ (by first | rfl | (simp; done) | omega) | refine heap_alloc_of _ ?_ | refine heap_setCell_of _ (by first | omega | (simp; done) | (simp; omega)) ?_ | refine heap_setCell_same _ ?_ | exact heap_at1_same (by first | omega | (simp; done) | (simp; omega)) | refine heap_at1_of (by first | omega | (simp; done) | (simp; omega)) ?_))
    have t1 := t0.trans (hb1.mono t0.size)
    go_wp2_with fail
    refine (gridOk_spec s.aW s.aH _ _ xs _ (g2.below t1) l2).mono ?_
    rintro e w2 ⟨he, hb2⟩
    rw [HA.out] at he
    subst he
    obtain ⟨B2, q2, r2, z2⟩ := keep_blk hb2 B1
    clear B1 q1 r1
    have t2 := t1.trans (hb2.mono t1.size)
    go_wp2_with fail
    all_goals (go_ret; exact ⟨rfl, t2⟩)
set_option maxHeartbeats 4000000 in
theorem sb_t1 (s : Sc) (mA : Option Addr) (mc : Nat) (ms : List Cl) (aA : Option Addr) (ac : Nat) (xs : List Cl) (tA : Option Addr) (tc : Nat) (ts : List Int) (bA : Option Addr) (bc : Nat) (bs : List Rw) (w : World) (g1 : Gs w mA ms) (l1 : ms.length ≤ 1048576) (g2 : Gs w aA xs) (l2 : xs.length ≤ 1048576) (HM : Hid (gridB s.mW s.mH ms = true)) (HA : Hid (gridB s.aW s.aH xs = true)) (fn1 : (s.mW != s.W) = false) (fn2 : (s.mH != s.H) = false) (fn3 : (s.aW != s.W) = false) (fn4 : (s.aH != s.H) = false) (fn5 : ¬ s.X < 0) (fn6 : ¬ s.W ≤ s.X) (fn7 : ¬ s.Y < 0) (fn8 : ¬ s.H ≤ s.Y) (fw : s.wrap = false ∨ s.wrap = true ∧ (s.X != s.W - 1) = false) (fn9 : ¬ s.sX < 0) (fn10 : ¬ s.W ≤ s.sX) (fn11 : ¬ s.sY < 0) (fn12 : ¬ s.H ≤ s.sY) (w2c : 1 ≤ s.W) (w2d : s.W ≤ 120) (w2e : 1 ≤ s.H) (w2f : s.H ≤ 120) (HT1 : Hid (attrOkB s.A.1 s.A.2.1 = false)) :
    Calls Try.prog 32 #[sV s (mA, mc, ms) (aA, ac, xs) (tA, tc, ts) (bA, bc, bs)] w fun e w' => e = .returned (.bool false) ∧ Below w.heap.size w w' := by
  have t0 : Below w.heap.size w (w.alloc (.cells (sC s (mA, mc, ms) (aA, ac, xs) (tA, tc, ts) (bA, bc, bs)) 49)) := (Below.refl _ _).alloc (Nat.le_refl _) _
  rcases fw with fw1 | ⟨fw1, fw2⟩
  all_goals
    go_enter Try.func32, Try.ntmps32
    simp only [List.append_eq, List.cons_append, List.nil_append]
    go_wp2_with fail
    refine (gridOk_spec s.mW s.mH _ _ ms _ (g1.below t0) l1).mono ?_
    rintro e w1 ⟨he, hb1⟩
    rw [HM.out] at he
    subst he
    obtain ⟨B1, q1, r1, z1⟩ := keep_blk hb1 (g := w.heap.size) (by repeat (first | assumption | exact heap_alloc_at _ (by first | rfl | (simp; done) | omega) | refine heap_alloc_of _ ?_ | refine heap_setCell_of _ (by first | omega | (simp; done) | (simp; omega)) ?_ | refine heap_setCell_same _ ?_ | exact heap_at1_same (by first | omega | (simp; done) | (simp; omega)) | refine heap_at1_of (by first | omega | (simp; done) | (simp; omega)) ?_))
    have t1 := t0.trans (hb1.mono t0.size)
    go_wp2_with fail
    refine (gridOk_spec s.aW s.aH _ _ xs _ (g2.below t1) l2).mono ?_
    rintro e w2 ⟨he, hb2⟩
    rw [HA.out] at he
    subst he
    obtain ⟨B2, q2, r2, z2⟩ := keep_blk hb2 B1
    clear B1 q1 r1
    have t2 := t1.trans (hb2.mono t1.size)
    go_wp2_with fail
    refine (attrOk_spec s.A.1 s.A.2.1 s.A.2.2.1 s.A.2.2.2.1 s.A.2.2.2.2 _).mono ?_
    rintro e w3 ⟨he, o3, hw3⟩
    rw [HT1.out] at he
    subst he
    have hb3 : Below w2.heap.size w2 w3 := by rw [← hw3]; exact (Below.refl _ _).alloc (Nat.le_refl _) _
    clear hw3
    obtain ⟨B3, q3, r3, z3⟩ := keep_blk hb3 B2
    clear B2 q2 r2
    have t3 := t2.trans (hb3.mono t2.size)
    go_wp2_with fail
    all_goals (go_ret; exact ⟨rfl, t3⟩)
end Go.Proofs.Ytnilgcahggmncaa
