/- A screen is valid: both ways. -/
import Derived.Test.YtnilgcahggmncaaWe
import Derived.Test.YtnilgcahggmncaaZb
namespace Go.Proofs.Ytnilgcahggmncaa
open Go.RowKit
set_option linter.unusedVariables false
set_option maxRecDepth 100000

/-- What is asked of the numbers of a screen. -/
def numB (s : Sc) (n : Int) : Bool := decide ((s.mW = s.W ∧ s.mH = s.H ∧ s.aW = s.W ∧ s.aH = s.H) ∧ (0 ≤ s.X ∧ s.X < s.W ∧ 0 ≤ s.Y ∧ s.Y < s.H) ∧ (s.wrap = true → s.X = s.W - 1) ∧ (0 ≤ s.sX ∧ s.sX < s.W ∧ 0 ≤ s.sY ∧ s.sY < s.H) ∧ (attrOkB s.A.1 s.A.2.1 = true ∧ attrOkB s.sA.1 s.sA.2.1 = true) ∧ (0 ≤ s.top ∧ s.bot < s.H ∧ s.top ≤ s.bot ∧ (s.top = s.bot → s.H = 1)) ∧ (0 ≤ s.limit ∧ s.limit ≤ 100 ∧ n ≤ s.limit))
/-- A screen is valid. -/
def scrB (s : Sc) (c : Cont) : Bool := gridB s.mW s.mH c.m && gridB s.aW s.aH c.a && numB s c.b.length && ascB c.t s.W && rowsB c.b
theorem sc_m {s : Sc} {c : Cont} (h : gridB s.mW s.mH c.m = false) : scrB s c = false := by rw [scrB, h]; rfl
theorem sc_a {s : Sc} {c : Cont} (h : gridB s.aW s.aH c.a = false) : scrB s c = false := by rw [scrB, h]; simp
theorem sc_n {s : Sc} {c : Cont} (h : numB s c.b.length = false) : scrB s c = false := by rw [scrB, h]; simp
theorem sc_t {s : Sc} {c : Cont} (h : ascB c.t s.W = false) : scrB s c = false := by rw [scrB, h]; simp
theorem sc_b {s : Sc} {c : Cont} (h : rowsB c.b = false) : scrB s c = false := by rw [scrB, h]; simp
theorem sc_yes {s : Sc} {c : Cont} (h1 : gridB s.mW s.mH c.m = true) (h2 : gridB s.aW s.aH c.a = true) (h3 : numB s c.b.length = true) (h4 : ascB c.t s.W = true) : scrB s c = rowsB c.b := by rw [scrB, h1, h2, h3, h4]; rfl
theorem nb_n1 {s : Sc} {n : Int} (k : ¬ (s.mW = s.W)) : numB s n = false := decide_eq_false fun h => k h.1.1
theorem nb_n2 {s : Sc} {n : Int} (k : ¬ (s.mH = s.H)) : numB s n = false := decide_eq_false fun h => k h.1.2.1
theorem nb_n3 {s : Sc} {n : Int} (k : ¬ (s.aW = s.W)) : numB s n = false := decide_eq_false fun h => k h.1.2.2.1
theorem nb_n4 {s : Sc} {n : Int} (k : ¬ (s.aH = s.H)) : numB s n = false := decide_eq_false fun h => k h.1.2.2.2
theorem nb_n5 {s : Sc} {n : Int} (k : ¬ (¬ s.X < 0)) : numB s n = false := decide_eq_false fun h => k (by have := h.2.1.1; omega)
theorem nb_n6 {s : Sc} {n : Int} (k : ¬ (¬ s.W ≤ s.X)) : numB s n = false := decide_eq_false fun h => k (by have := h.2.1.2.1; omega)
theorem nb_n7 {s : Sc} {n : Int} (k : ¬ (¬ s.Y < 0)) : numB s n = false := decide_eq_false fun h => k (by have := h.2.1.2.2.1; omega)
theorem nb_n8 {s : Sc} {n : Int} (k : ¬ (¬ s.H ≤ s.Y)) : numB s n = false := decide_eq_false fun h => k (by have := h.2.1.2.2.2; omega)
theorem nb_nw {s : Sc} {n : Int} (k : ¬ (s.wrap = true → s.X = s.W - 1)) : numB s n = false := decide_eq_false fun h => k h.2.2.1
theorem nb_n9 {s : Sc} {n : Int} (k : ¬ (¬ s.sX < 0)) : numB s n = false := decide_eq_false fun h => k (by have := h.2.2.2.1.1; omega)
theorem nb_n10 {s : Sc} {n : Int} (k : ¬ (¬ s.W ≤ s.sX)) : numB s n = false := decide_eq_false fun h => k (by have := h.2.2.2.1.2.1; omega)
theorem nb_n11 {s : Sc} {n : Int} (k : ¬ (¬ s.sY < 0)) : numB s n = false := decide_eq_false fun h => k (by have := h.2.2.2.1.2.2.1; omega)
theorem nb_n12 {s : Sc} {n : Int} (k : ¬ (¬ s.H ≤ s.sY)) : numB s n = false := decide_eq_false fun h => k (by have := h.2.2.2.1.2.2.2; omega)
theorem nb_t1 {s : Sc} {n : Int} (k : ¬ (attrOkB s.A.1 s.A.2.1 = true)) : numB s n = false := decide_eq_false fun h => k h.2.2.2.2.1.1
theorem nb_t2 {s : Sc} {n : Int} (k : ¬ (attrOkB s.sA.1 s.sA.2.1 = true)) : numB s n = false := decide_eq_false fun h => k h.2.2.2.2.1.2
theorem nb_d1 {s : Sc} {n : Int} (k : ¬ (¬ s.top < 0)) : numB s n = false := decide_eq_false fun h => k (by have := h.2.2.2.2.2.1.1; omega)
theorem nb_d2 {s : Sc} {n : Int} (k : ¬ (¬ s.H ≤ s.bot)) : numB s n = false := decide_eq_false fun h => k (by have := h.2.2.2.2.2.1.2.1; omega)
theorem nb_d3 {s : Sc} {n : Int} (k : ¬ (¬ s.bot < s.top)) : numB s n = false := decide_eq_false fun h => k (by have := h.2.2.2.2.2.1.2.2.1; omega)
theorem nb_d4 {s : Sc} {n : Int} (k : ¬ (s.top = s.bot → s.H = 1)) : numB s n = false := decide_eq_false fun h => k h.2.2.2.2.2.1.2.2.2
theorem nb_e1 {s : Sc} {n : Int} (k : ¬ (¬ s.limit < 0)) : numB s n = false := decide_eq_false fun h => k (by have := h.2.2.2.2.2.2.1; omega)
theorem nb_e2 {s : Sc} {n : Int} (k : ¬ (¬ 100 < s.limit)) : numB s n = false := decide_eq_false fun h => k (by have := h.2.2.2.2.2.2.2.1; omega)
theorem nb_e3 {s : Sc} {n : Int} (k : ¬ (¬ s.limit < n)) : numB s n = false := decide_eq_false fun h => k (by have := h.2.2.2.2.2.2.2.2; omega)
set_option maxHeartbeats 4000000 in
theorem sb_m (s : Sc) (mA : Option Addr) (mc : Nat) (ms : List Cl) (aA : Option Addr) (ac : Nat) (xs : List Cl) (tA : Option Addr) (tc : Nat) (ts : List Int) (bA : Option Addr) (bc : Nat) (bs : List Rw) (w : World) (g1 : Gs w mA ms) (l1 : ms.length ≤ 1048576) (g2 : Gs w aA xs) (l2 : xs.length ≤ 1048576) (HM : Hid (gridB s.mW s.mH ms = false)) :
    Calls Try.prog 32 #[sV s (mA, mc, ms) (aA, ac, xs) (tA, tc, ts) (bA, bc, bs)] w fun e w' => e = .returned (.bool false) ∧ Below w.heap.size w w' := by
  have t0 : Below w.heap.size w (w.alloc (.cells (sC s (mA, mc, ms) (aA, ac, xs) (tA, tc, ts) (bA, bc, bs)) 49)) := (Below.refl _ _).alloc (Nat.le_refl _) _
  go_enter Try.func32, Try.ntmps32
  simp only [List.append_eq, List.cons_append, List.nil_append]
  go_wp2_with fail
  refine (gridOk_spec s.mW s.mH _ _ ms _ (g1.below t0) l1).mono ?_
  rintro e w1 ⟨he, hb1⟩
  rw [HM.out] at he
  subst he
  obtain ⟨B1, q1, r1, z1⟩ := keep_blk hb1 (g := w.heap.size) (by repeat (first | assumption | exact heap_alloc_at _ (by first | rfl | (simp; done) | omega) | refine heap_alloc_of _ ?_ | refine heap_setCell_of _ (by first | omega | (simp; done) | (simp; omega)) ?_ | refine heap_setCell_same _ ?_ | exact heap_at1_same (by first | omega | (simp; done) | (simp; omega)) | refine heap_at1_of (by first | omega | (simp; done) | (simp; omega)) ?_))
  have t1 := t0.trans (hb1.mono t0.size)
  go_wp2_with fail
  all_goals (go_ret; exact ⟨rfl, t1⟩)
set_option maxHeartbeats 4000000 in
theorem sb_a (s : Sc) (mA : Option Addr) (mc : Nat) (ms : List Cl) (aA : Option Addr) (ac : Nat) (xs : List Cl) (tA : Option Addr) (tc : Nat) (ts : List Int) (bA : Option Addr) (bc : Nat) (bs : List Rw) (w : World) (g1 : Gs w mA ms) (l1 : ms.length ≤ 1048576) (g2 : Gs w aA xs) (l2 : xs.length ≤ 1048576) (HM : Hid (gridB s.mW s.mH ms = true)) (HA : Hid (gridB s.aW s.aH xs = false)) :
    Calls Try.prog 32 #[sV s (mA, mc, ms) (aA, ac, xs) (tA, tc, ts) (bA, bc, bs)] w fun e w' => e = .returned (.bool false) ∧ Below w.heap.size w w' := by
  have t0 : Below w.heap.size w (w.alloc (.cells (sC s (mA, mc, ms) (aA, ac, xs) (tA, tc, ts) (bA, bc, bs)) 49)) := (Below.refl _ _).alloc (Nat.le_refl _) _
  go_enter Try.func32, Try.ntmps32
  simp only [List.append_eq, List.cons_append, List.nil_append]
  go_wp2_with fail
  refine (gridOk_spec s.mW s.mH _ _ ms _ (g1.below t0) l1).mono ?_
  rintro e w1 ⟨he, hb1⟩
  rw [HM.out] at he
  subst he
  obtain ⟨B1, q1, r1, z1⟩ := keep_blk hb1 (g := w.heap.size) (by repeat (first | assumption | exact heap_alloc_at _ (by first | rfl | (simp; done) | omega) | refine heap_alloc_of _ ?_ | refine heap_setCell_of _ (by first | omega | (simp; done) | (simp; omega)) ?_ | refine heap_setCell_same _ ?_ | exact heap_at1_same (by first | omega | (simp; done) | (simp; omega)) | refine heap_at1_of (by first | omega | (simp; done) | (simp; omega)) ?_))
  have t1 := t0.trans (hb1.mono t0.size)
  go_wp2_with fail
  refine (gridOk_spec s.aW s.aH _ _ xs _ (g2.below t1) l2).mono ?_
  rintro e w2 ⟨he, hb2⟩
  rw [HA.out] at he
  subst he
  obtain ⟨B2, q2, r2, z2⟩ := keep_blk hb2 B1
  clear B1 q1 r1
  have t2 := t1.trans (hb2.mono t1.size)
  go_wp2_with fail
  all_goals (go_ret; exact ⟨rfl, t2⟩)
set_option maxHeartbeats 4000000 in
theorem sb_n1 (s : Sc) (mA : Option Addr) (mc : Nat) (ms : List Cl) (aA : Option Addr) (ac : Nat) (xs : List Cl) (tA : Option Addr) (tc : Nat) (ts : List Int) (bA : Option Addr) (bc : Nat) (bs : List Rw) (w : World) (g1 : Gs w mA ms) (l1 : ms.length ≤ 1048576) (g2 : Gs w aA xs) (l2 : xs.length ≤ 1048576) (HM : Hid (gridB s.mW s.mH ms = true)) (HA : Hid (gridB s.aW s.aH xs = true)) (fb : (s.mW != s.W) = true) :
    Calls Try.prog 32 #[sV s (mA, mc, ms) (aA, ac, xs) (tA, tc, ts) (bA, bc, bs)] w fun e w' => e = .returned (.bool false) ∧ Below w.heap.size w w' := by
  have t0 : Below w.heap.size w (w.alloc (.cells (sC s (mA, mc, ms) (aA, ac, xs) (tA, tc, ts) (bA, bc, bs)) 49)) := (Below.refl _ _).alloc (Nat.le_refl _) _
  go_enter Try.func32, Try.ntmps32
  simp only [List.append_eq, List.cons_append, List.nil_append]
  go_wp2_with fail
  refine (gridOk_spec s.mW s.mH _ _ ms _ (g1.below t0) l1).mono ?_
  rintro e w1 ⟨he, hb1⟩
  rw [HM.out] at he
  subst he
  obtain ⟨B1, q1, r1, z1⟩ := keep_blk hb1 (g := w.heap.size) (by repeat (first | assumption | exact heap_alloc_at _ (by first | rfl | (simp; done) | omega) | refine heap_alloc_of _ ?_ | refine heap_setCell_of _ (by first | omega | (simp; done) | (simp; omega)) ?_ | refine heap_setCell_same _ ?_ | exact heap_at1_same (by first | omega | (simp; done) | (simp; omega)) | refine heap_at1_of (by first | omega | (simp; done) | (simp; omega)) ?_))
  have t1 := t0.trans (hb1.mono t0.size)
  go_wp2_with fail
  refine (gridOk_spec s.aW s.aH _ _ xs _ (g2.below t1) l2).mono ?_
  rintro e w2 ⟨he, hb2⟩
  rw [HA.out] at he
  subst he
  obtain ⟨B2, q2, r2, z2⟩ := keep_blk hb2 B1
  clear B1 q1 r1
  have t2 := t1.trans (hb2.mono t1.size)
  go_wp2_with fail
  all_goals (go_ret; exact ⟨rfl, t2⟩)
set_option maxHeartbeats 4000000 in
theorem sb_n2 (s : Sc) (mA : Option Addr) (mc : Nat) (ms : List Cl) (aA : Option Addr) (ac : Nat) (xs : List Cl) (tA : Option Addr) (tc : Nat) (ts : List Int) (bA : Option Addr) (bc : Nat) (bs : List Rw) (w : World) (g1 : Gs w mA ms) (l1 : ms.length ≤ 1048576) (g2 : Gs w aA xs) (l2 : xs.length ≤ 1048576) (HM : Hid (gridB s.mW s.mH ms = true)) (HA : Hid (gridB s.aW s.aH xs = true)) (fn1 : (s.mW != s.W) = false) (fb : (s.mH != s.H) = true) :
    Calls Try.prog 32 #[sV s (mA, mc, ms) (aA, ac, xs) (tA, tc, ts) (bA, bc, bs)] w fun e w' => e = .returned (.bool false) ∧ Below w.heap.size w w' := by
  have t0 : Below w.heap.size w (w.alloc (.cells (sC s (mA, mc, ms) (aA, ac, xs) (tA, tc, ts) (bA, bc, bs)) 49)) := (Below.refl _ _).alloc (Nat.le_refl _) _
  go_enter Try.func32, Try.ntmps32
  simp only [List.append_eq, List.cons_append, List.nil_append]
  go_wp2_with fail
  refine (gridOk_spec s.mW s.mH _ _ ms _ (g1.below t0) l1).mono ?_
  rintro e w1 ⟨he, hb1⟩
  rw [HM.out] at he
  subst he
  obtain ⟨B1, q1, r1, z1⟩ := keep_blk hb1 (g := w.heap.size) (by repeat (first | assumption | exact heap_alloc_at _ (by first | rfl | (simp; done) | omega) | refine heap_alloc_of _ ?_ | refine heap_setCell_of _ (by first | omega | (simp; done) | (simp; omega)) ?_ | refine heap_setCell_same _ ?_ | exact heap_at1_same (by first | omega | (simp; done) | (simp; omega)) | refine heap_at1_of (by first | omega | (simp; done) | (simp; omega)) ?_))
  have t1 := t0.trans (hb1.mono t0.size)
  go_wp2_with fail
  refine (gridOk_spec s.aW s.aH _ _ xs _ (g2.below t1) l2).mono ?_
  rintro e w2 ⟨he, hb2⟩
  rw [HA.out] at he
  subst he
  obtain ⟨B2, q2, r2, z2⟩ := keep_blk hb2 B1
  clear B1 q1 r1
  have t2 := t1.trans (hb2.mono t1.size)
  go_wp2_with fail
  all_goals (go_ret; exact ⟨rfl, t2⟩)
set_option maxHeartbeats 4000000 in
theorem sb_n3 (s : Sc) (mA : Option Addr) (mc : Nat) (ms : List Cl) (aA : Option Addr) (ac : Nat) (xs : List Cl) (tA : Option Addr) (tc : Nat) (ts : List Int) (bA : Option Addr) (bc : Nat) (bs : List Rw) (w : World) (g1 : Gs w mA ms) (l1 : ms.length ≤ 1048576) (g2 : Gs w aA xs) (l2 : xs.length ≤ 1048576) (HM : Hid (gridB s.mW s.mH ms = true)) (HA : Hid (gridB s.aW s.aH xs = true)) (fn1 : (s.mW != s.W) = false) (fn2 : (s.mH != s.H) = false) (fb : (s.aW != s.W) = true) :
    Calls Try.prog 32 #[sV s (mA, mc, ms) (aA, ac, xs) (tA, tc, ts) (bA, bc, bs)] w fun e w' => e = .returned (.bool false) ∧ Below w.heap.size w w' := by
  have t0 : Below w.heap.size w (w.alloc (.cells (sC s (mA, mc, ms) (aA, ac, xs) (tA, tc, ts) (bA, bc, bs)) 49)) := (Below.refl _ _).alloc (Nat.le_refl _) _
  go_enter Try.func32, Try.ntmps32
  simp only [List.append_eq, List.cons_append, List.nil_append]
  go_wp2_with fail
  refine (gridOk_spec s.mW s.mH _ _ ms _ (g1.below t0) l1).mono ?_
  rintro e w1 ⟨he, hb1⟩
  rw [HM.out] at he
  subst he
  obtain ⟨B1, q1, r1, z1⟩ := keep_blk hb1 (g := w.heap.size) (by repeat (first | assumption | exact heap_alloc_at _ (by first | rfl | (simp; done) | omega) | refine heap_alloc_of _ ?_ | refine heap_setCell_of _ (by first | omega | (simp; done) | (simp; omega)) ?_ | refine heap_setCell_same _ ?_ | exact heap_at1_same (by first | omega | (simp; done) | (simp; omega)) | refine heap_at1_of (by first | omega | (simp; done) | (simp; omega)) ?_))
  have t1 := t0.trans (hb1.mono t0.size)
  go_wp2_with fail
  refine (gridOk_spec s.aW s.aH _ _ xs _ (g2.below t1) l2).mono ?_
  rintro e w2 ⟨he, hb2⟩
  rw [HA.out] at he
  subst he
  obtain ⟨B2, q2, r2, z2⟩ := keep_blk hb2 B1
  clear B1 q1 r1
  have t2 := t1.trans (hb2.mono t1.size)
  go_wp2_with fail
  all_goals (go_ret; exact ⟨rfl, t2⟩)
set_option maxHeartbeats 4000000 in
theorem sb_n4 (s : Sc) (mA : Option Addr) (mc : Nat) (ms : List Cl) (aA : Option Addr) (ac : Nat) (xs : List Cl) (tA : Option Addr) (tc : Nat) (ts : List Int) (bA : Option Addr) (bc : Nat) (bs : List Rw) (w : World) (g1 : Gs w mA ms) (l1 : ms.length ≤ 1048576) (g2 : Gs w aA xs) (l2 : xs.length ≤ 1048576) (HM : Hid (gridB s.mW s.mH ms = true)) (HA : Hid (gridB s.aW s.aH xs = true)) (fn1 : (s.mW != s.W) = false) (fn2 : (s.mH != s.H) = false) (fn3 : (s.aW != s.W) = false) (fb : (s.aH != s.H) = true) :
    Calls Try.prog 32 #[sV s (mA, mc, ms) (aA, ac, xs) (tA, tc, ts) (bA, bc, bs)] w fun e w' => e = .returned (.bool false) ∧ Below w.heap.size w w' := by
  have t0 : Below w.heap.size w (w.alloc (.cells (sC s (mA, mc, ms) (aA, ac, xs) (tA, tc, ts) (bA, bc, bs)) 49)) := (Below.refl _ _).alloc (Nat.le_refl _) _
  go_enter Try.func32, Try.ntmps32
  simp only [List.append_eq, List.cons_append, List.nil_append]
  go_wp2_with fail
  refine (gridOk_spec s.mW s.mH _ _ ms _ (g1.below t0) l1).mono ?_
  rintro e w1 ⟨he, hb1⟩
  rw [HM.out] at he
  subst he
  obtain ⟨B1, q1, r1, z1⟩ := keep_blk hb1 (g := w.heap.size) (by repeat (first | assumption | exact heap_alloc_at _ (by first | rfl | (simp; done) | omega) | refine heap_alloc_of _ ?_ | refine heap_setCell_of _ (by first | omega | (simp; done) | (simp; omega)) ?_ | refine heap_setCell_same _ ?_ | exact heap_at1_same (by first | omega | (simp; done) | (simp; omega)) | refine heap_at1_of (by first | omega | (simp; done) | (simp; omega)) ?_))
  have t1 := t0.trans (hb1.mono t0.size)
  go_wp2_with fail
  refine (gridOk_spec s.aW s.aH _ _ xs _ (g2.below t1) l2).mono ?_
  rintro e w2 ⟨he, hb2⟩
  rw [HA.out] at he
  subst he
  obtain ⟨B2, q2, r2, z2⟩ := keep_blk hb2 B1
  clear B1 q1 r1
  have t2 := t1.trans (hb2.mono t1.size)
  go_wp2_with fail
  all_goals (go_ret; exact ⟨rfl, t2⟩)
set_option maxHeartbeats 4000000 in
theorem sb_n5 (s : Sc) (mA : Option Addr) (mc : Nat) (ms : List Cl) (aA : Option Addr) (ac : Nat) (xs : List Cl) (tA : Option Addr) (tc : Nat) (ts : List Int) (bA : Option Addr) (bc : Nat) (bs : List Rw) (w : World) (g1 : Gs w mA ms) (l1 : ms.length ≤ 1048576) (g2 : Gs w aA xs) (l2 : xs.length ≤ 1048576) (HM : Hid (gridB s.mW s.mH ms = true)) (HA : Hid (gridB s.aW s.aH xs = true)) (fn1 : (s.mW != s.W) = false) (fn2 : (s.mH != s.H) = false) (fn3 : (s.aW != s.W) = false) (fn4 : (s.aH != s.H) = false) (w2c : 1 ≤ s.W) (w2d : s.W ≤ 120) (w2e : 1 ≤ s.H) (w2f : s.H ≤ 120) (fb : s.X < 0) :
    Calls Try.prog 32 #[sV s (mA, mc, ms) (aA, ac, xs) (tA, tc, ts) (bA, bc, bs)] w fun e w' => e = .returned (.bool false) ∧ Below w.heap.size w w' := by
  have t0 : Below w.heap.size w (w.alloc (.cells (sC s (mA, mc, ms) (aA, ac, xs) (tA, tc, ts) (bA, bc, bs)) 49)) := (Below.refl _ _).alloc (Nat.le_refl _) _
  go_enter Try.func32, Try.ntmps32
  simp only [List.append_eq, List.cons_append, List.nil_append]
  go_wp2_with fail
  refine (gridOk_spec s.mW s.mH _ _ ms _ (g1.below t0) l1).mono ?_
  rintro e w1 ⟨he, hb1⟩
  rw [HM.out] at he
  subst he
  obtain ⟨B1, q1, r1, z1⟩ := keep_blk hb1 (g := w.heap.size) (by repeat (first | assumption | exact heap_alloc_at _ (by first | rfl | (simp; done) | omega) | refine heap_alloc_of _ ?_ | refine heap_setCell_of _ (by first | omega | (simp; done) | (simp; omega)) ?_ | refine heap_setCell_same _ ?_ | exact heap_at1_same (by first | omega | (simp; done) | (simp; omega)) | refine heap_at1_of (by first | omega | (simp; done) | (simp; omega)) ?_))
  have t1 := t0.trans (hb1.mono t0.size)
  go_wp2_with fail
  refine (gridOk_spec s.aW s.aH _ _ xs _ (g2.below t1) l2).mono ?_
  rintro e w2 ⟨he, hb2⟩
  rw [HA.out] at he
  subst he
  obtain ⟨B2, q2, r2, z2⟩ := keep_blk hb2 B1
  clear B1 q1 r1
  have t2 := t1.trans (hb2.mono t1.size)
  go_wp2_with fail
  all_goals (go_ret; exact ⟨rfl, t2⟩)
set_option maxHeartbeats 4000000 in
theorem sb_n6 (s : Sc) (mA : Option Addr) (mc : Nat) (ms : List Cl) (aA : Option Addr) (ac : Nat) (xs : List Cl) (tA : Option Addr) (tc : Nat) (ts : List Int) (bA : Option Addr) (bc : Nat) (bs : List Rw) (w : World) (g1 : Gs w mA ms) (l1 : ms.length ≤ 1048576) (g2 : Gs w aA xs) (l2 : xs.length ≤ 1048576) (HM : Hid (gridB s.mW s.mH ms = true)) (HA : Hid (gridB s.aW s.aH xs = true)) (fn1 : (s.mW != s.W) = false) (fn2 : (s.mH != s.H) = false) (fn3 : (s.aW != s.W) = false) (fn4 : (s.aH != s.H) = false) (fn5 : ¬ s.X < 0) (w2c : 1 ≤ s.W) (w2d : s.W ≤ 120) (w2e : 1 ≤ s.H) (w2f : s.H ≤ 120) (fb : s.W ≤ s.X) :
    Calls Try.prog 32 #[sV s (mA, mc, ms) (aA, ac, xs) (tA, tc, ts) (bA, bc, bs)] w fun e w' => e = .returned (.bool false) ∧ Below w.heap.size w w' := by
  have t0 : Below w.heap.size w (w.alloc (.cells (sC s (mA, mc, ms) (aA, ac, xs) (tA, tc, ts) (bA, bc, bs)) 49)) := (Below.refl _ _).alloc (Nat.le_refl _) _
  go_enter Try.func32, Try.ntmps32
  simp only [List.append_eq, List.cons_append, List.nil_append]
  go_wp2_with fail
  refine (gridOk_spec s.mW s.mH _ _ ms _ (g1.below t0) l1).mono ?_
  rintro e w1 ⟨he, hb1⟩
  rw [HM.out] at he
  subst he
  obtain ⟨B1, q1, r1, z1⟩ := keep_blk hb1 (g := w.heap.size) (by repeat (first | assumption | exact heap_alloc_at _ (by first | rfl | (simp; done) | omega) | refine heap_alloc_of _ ?_ | refine heap_setCell_of _ (by first | omega | (simp; done) | (simp; omega)) ?_ | refine heap_setCell_same _ ?_ | exact heap_at1_same (by first | omega | (simp; done) | (simp; omega)) | refine heap_at1_of (by first | omega | (simp; done) | (simp; omega)) ?_))
  have t1 := t0.trans (hb1.mono t0.size)
  go_wp2_with fail
  refine (gridOk_spec s.aW s.aH _ _ xs _ (g2.below t1) l2).mono ?_
  rintro e w2 ⟨he, hb2⟩
  rw [HA.out] at he
  subst he
  obtain ⟨B2, q2, r2, z2⟩ := keep_blk hb2 B1
  clear B1 q1 r1
  have t2 := t1.trans (hb2.mono t1.size)
  go_wp2_with fail
  all_goals (go_ret; exact ⟨rfl, t2⟩)
set_option maxHeartbeats 4000000 in
theorem sb_n7 (s : Sc) (mA : Option Addr) (mc : Nat) (ms : List Cl) (aA : Option Addr) (ac : Nat) (xs : List Cl) (tA : Option Addr) (tc : Nat) (ts : List Int) (bA : Option Addr) (bc : Nat) (bs : List Rw) (w : World) (g1 : Gs w mA ms) (l1 : ms.length ≤ 1048576) (g2 : Gs w aA xs) (l2 : xs.length ≤ 1048576) (HM : Hid (gridB s.mW s.mH ms = true)) (HA : Hid (gridB s.aW s.aH xs = true)) (fn1 : (s.mW != s.W) = false) (fn2 : (s.mH != s.H) = false) (fn3 : (s.aW != s.W) = false) (fn4 : (s.aH != s.H) = false) (fn5 : ¬ s.X < 0) (fn6 : ¬ s.W ≤ s.X) (w2c : 1 ≤ s.W) (w2d : s.W ≤ 120) (w2e : 1 ≤ s.H) (w2f : s.H ≤ 120) (fb : s.Y < 0) :
    Calls Try.prog 32 #[sV s (mA, mc, ms) (aA, ac, xs) (tA, tc, ts) (bA, bc, bs)] w fun e w' => e = .returned (.bool false) ∧ Below w.heap.size w w' := by
  have t0 : Below w.heap.size w (w.alloc (.cells (sC s (mA, mc, ms) (aA, ac, xs) (tA, tc, ts) (bA, bc, bs)) 49)) := (Below.refl _ _).alloc (Nat.le_refl _) _
  go_enter Try.func32, Try.ntmps32
  simp only [List.append_eq, List.cons_append, List.nil_append]
  go_wp2_with fail
  refine (gridOk_spec s.mW s.mH _ _ ms _ (g1.below t0) l1).mono ?_
  rintro e w1 ⟨he, hb1⟩
  rw [HM.out] at he
  subst he
  obtain ⟨B1, q1, r1, z1⟩ := keep_blk hb1 (g := w.heap.size) (by repeat (first | assumption | exact heap_alloc_at _ (by first | rfl | (simp; done) | omega) | refine heap_alloc_of _ ?_ | refine heap_setCell_of _ (by first | omega | (simp; done) | (simp; omega)) ?_ | refine heap_setCell_same _ ?_ | exact heap_at1_same (by first | omega | (simp; done) | (simp; omega)) | refine heap_at1_of (by first | omega | (simp; done) | (simp; omega)) ?_))
  have t1 := t0.trans (hb1.mono t0.size)
  go_wp2_with fail
  refine (gridOk_spec s.aW s.aH _ _ xs _ (g2.below t1) l2).mono ?_
  rintro e w2 ⟨he, hb2⟩
  rw [HA.out] at he
  subst he
  obtain ⟨B2, q2, r2, z2⟩ := keep_blk hb2 B1
  clear B1 q1 r1
  have t2 := t1.trans (hb2.mono t1.size)
  go_wp2_with fail
  all_goals (go_ret; exact ⟨rfl, t2⟩)
set_option maxHeartbeats 4000000 in
theorem sb_n8 (s : Sc) (mA : Option Addr) (mc : Nat) (ms : List Cl) (aA : Option Addr) (ac : Nat) (xs : List Cl) (tA : Option Addr) (tc : Nat) (ts : List Int) (bA : Option Addr) (bc : Nat) (bs : List Rw) (w : World) (g1 : Gs w mA ms) (l1 : ms.length ≤ 1048576) (g2 : Gs w aA xs) (l2 : xs.length ≤ 1048576) (HM : Hid (gridB s.mW s.mH ms = true)) (HA : Hid (gridB s.aW s.aH xs = true)) (fn1 : (s.mW != s.W) = false) (fn2 : (s.mH != s.H) = false) (fn3 : (s.aW != s.W) = false) (fn4 : (s.aH != s.H) = false) (fn5 : ¬ s.X < 0) (fn6 : ¬ s.W ≤ s.X) (fn7 : ¬ s.Y < 0) (w2c : 1 ≤ s.W) (w2d : s.W ≤ 120) (w2e : 1 ≤ s.H) (w2f : s.H ≤ 120) (fb : s.H ≤ s.Y) :
    Calls Try.prog 32 #[sV s (mA, mc, ms) (aA, ac, xs) (tA, tc, ts) (bA, bc, bs)] w fun e w' => e = .returned (.bool false) ∧ Below w.heap.size w w' := by
  have t0 : Below w.heap.size w (w.alloc (.cells (sC s (mA, mc, ms) (aA, ac, xs) (tA, tc, ts) (bA, bc, bs)) 49)) := (Below.refl _ _).alloc (Nat.le_refl _) _
  go_enter Try.func32, Try.ntmps32
  simp only [List.append_eq, List.cons_append, List.nil_append]
  go_wp2_with fail
  refine (gridOk_spec s.mW s.mH _ _ ms _ (g1.below t0) l1).mono ?_
  rintro e w1 ⟨he, hb1⟩
  rw [HM.out] at he
  subst he
  obtain ⟨B1, q1, r1, z1⟩ := keep_blk hb1 (g := w.heap.size) (by repeat (first | assumption | exact heap_alloc_at _ (by first | rfl | (simp; done) | omega) | refine heap_alloc_of _ ?_ | refine heap_setCell_of _ (by first | omega | (simp; done) | (simp; omega)) ?_ | refine heap_setCell_same _ ?_ | exact heap_at1_same (by first | omega | (simp; done) | (simp; omega)) | refine heap_at1_of (by first | omega | (simp; done) | (simp; omega)) ?_))
  have t1 := t0.trans (hb1.mono t0.size)
  go_wp2_with fail
  refine (gridOk_spec s.aW s.aH _ _ xs _ (g2.below t1) l2).mono ?_
  rintro e w2 ⟨he, hb2⟩
  rw [HA.out] at he
  subst he
  obtain ⟨B2, q2, r2, z2⟩ := keep_blk hb2 B1
  clear B1 q1 r1
  have t2 := t1.trans (hb2.mono t1.size)
  go_wp2_with fail
  all_goals (go_ret; exact ⟨rfl, t2⟩)
set_option maxHeartbeats 4000000 in
theorem sb_nw (s : Sc) (mA : Option Addr) (mc : Nat) (ms : List Cl) (aA : Option Addr) (ac : Nat) (xs : List Cl) (tA : Option Addr) (tc : Nat) (ts : List Int) (bA : Option Addr) (bc : Nat) (bs : List Rw) (w : World) (g1 : Gs w mA ms) (l1 : ms.length ≤ 1048576) (g2 : Gs w aA xs) (l2 : xs.length ≤ 1048576) (HM : Hid (gridB s.mW s.mH ms = true)) (HA : Hid (gridB s.aW s.aH xs = true)) (fn1 : (s.mW != s.W) = false) (fn2 : (s.mH != s.H) = false) (fn3 : (s.aW != s.W) = false) (fn4 : (s.aH != s.H) = false) (fn5 : ¬ s.X < 0) (fn6 : ¬ s.W ≤ s.X) (fn7 : ¬ s.Y < 0) (fn8 : ¬ s.H ≤ s.Y) (w2c : 1 ≤ s.W) (w2d : s.W ≤ 120) (w2e : 1 ≤ s.H) (w2f : s.H ≤ 120) (fb1 : s.wrap = true) (fb2 : (s.X != s.W - 1) = true) :
    Calls Try.prog 32 #[sV s (mA, mc, ms) (aA, ac, xs) (tA, tc, ts) (bA, bc, bs)] w fun e w' => e = .returned (.bool false) ∧ Below w.heap.size w w' := by
  have t0 : Below w.heap.size w (w.alloc (.cells (sC s (mA, mc, ms) (aA, ac, xs) (tA, tc, ts) (bA, bc, bs)) 49)) := (Below.refl _ _).alloc (Nat.le_refl _) _
  go_enter Try.func32, Try.ntmps32
  simp only [List.append_eq, List.cons_append, List.nil_append]
  go_wp2_with fail
  refine (gridOk_spec s.mW s.mH _ _ ms _ (g1.below t0) l1).mono ?_
  rintro e w1 ⟨he, hb1⟩
  rw [HM.out] at he
  subst he
  obtain ⟨B1, q1, r1, z1⟩ := keep_blk hb1 (g := w.heap.size) (by repeat (first | assumption | exact heap_alloc_at _ (by first | rfl | (simp; done) | omega) | refine heap_alloc_of _ ?_ | refine heap_setCell_of _ (by first | omega | (simp; done) | (simp; omega)) ?_ | refine heap_setCell_same _ ?_ | exact heap_at1_same (by first | omega | (simp; done) | (simp; omega)) | refine heap_at1_of (by first | omega | (simp; done) | (simp; omega)) ?_))
  have t1 := t0.trans (hb1.mono t0.size)
  go_wp2_with fail
  refine (gridOk_spec s.aW s.aH _ _ xs _ (g2.below t1) l2).mono ?_
  rintro e w2 ⟨he, hb2⟩
  rw [HA.out] at he
  subst he
  obtain ⟨B2, q2, r2, z2⟩ := keep_blk hb2 B1
  clear B1 q1 r1
  have t2 := t1.trans (hb2.mono t1.size)
  go_wp2_with fail
  all_goals (go_ret; exact ⟨rfl, t2⟩)
set_option maxHeartbeats 4000000 in
theorem sb_n9 (s : Sc) (mA : Option Addr) (mc : Nat) (ms : List Cl) (aA : Option Addr) (ac : Nat) (xs : List Cl) (tA : Option Addr) (tc : Nat) (ts : List Int) (bA : Option Addr) (bc : Nat) (bs : List Rw) (w : World) (g1 : Gs w mA ms) (l1 : ms.length ≤ 1048576) (g2 : Gs w aA xs) (l2 : xs.length ≤ 1048576) (HM : Hid (gridB s.mW s.mH ms = true)) (HA : Hid (gridB s.aW s.aH xs = true)) (fn1 : (s.mW != s.W) = false) (fn2 : (s.mH != s.H) = false) (fn3 : (s.aW != s.W) = false) (fn4 : (s.aH != s.H) = false) (fn5 : ¬ s.X < 0) (fn6 : ¬ s.W ≤ s.X) (fn7 : ¬ s.Y < 0) (fn8 : ¬ s.H ≤ s.Y) (fw : s.wrap = false ∨ s.wrap = true ∧ (s.X != s.W - 1) = false) (w2c : 1 ≤ s.W) (w2d : s.W ≤ 120) (w2e : 1 ≤ s.H) (w2f : s.H ≤ 120) (fb : s.sX < 0) :
    Calls Try.prog 32 #[sV s (mA, mc, ms) (aA, ac, xs) (tA, tc, ts) (bA, bc, bs)] w fun e w' => e = .returned (.bool false) ∧ Below w.heap.size w w' := by
  have t0 : Below w.heap.size w (w.alloc (.cells (sC s (mA, mc, ms) (aA, ac, xs) (tA, tc, ts) (bA, bc, bs)) 49)) := (Below.refl _ _).alloc (Nat.le_refl _) _
  rcases fw with fw1 | ⟨fw1, fw2⟩
  all_goals
    go_enter Try.func32, Try.ntmps32
    simp only [List.append_eq, List.cons_append, List.nil_append]
    go_wp2_with fail
    refine (gridOk_spec s.mW s.mH _ _ ms _ (g1.below t0) l1).mono ?_
    rintro e w1 ⟨he, hb1⟩
    rw [HM.out] at he
    subst he
    obtain ⟨B1, q1, r1, z1⟩ := keep_blk hb1 (g := w.heap.size) (by repeat (first | assumption | exact heap_alloc_at _ (by first | rfl | (simp; done) | omega) | refine heap_alloc_of _ ?_ | refine heap_setCell_of _ (by first | omega | (simp; done) | (simp; omega)) ?_ | refine heap_setCell_same _ ?_ | exact heap_at1_same (by first | omega | (simp; done) | (simp; omega)) | refine heap_at1_of (by first | omega | (simp; done) | (simp; omega)) ?_))
    have t1 := t0.trans (hb1.mono t0.size)
    go_wp2_with fail
    refine (gridOk_spec s.aW s.aH _ _ xs _ (g2.below t1) l2).mono ?_
    rintro e w2 ⟨he, hb2⟩
    rw [HA.out] at he
    subst he
    obtain ⟨B2, q2, r2, z2⟩ := keep_blk hb2 B1
    clear B1 q1 r1
    have t2 := t1.trans (hb2.mono t1.size)
    go_wp2_with fail
    all_goals (go_ret; exact ⟨rfl, t2⟩)
set_option maxHeartbeats 4000000 in
theorem sb_n10 (s : Sc) (mA : Option Addr) (mc : Nat) (ms : List Cl) (aA : Option Addr) (ac : Nat) (xs : List Cl) (tA : Option Addr) (tc : Nat) (ts : List Int) (bA : Option Addr) (bc : Nat) (bs : List Rw) (w : World) (g1 : Gs w mA ms) (l1 : ms.length ≤ 1048576) (g2 : Gs w aA xs) (l2 : xs.length ≤ 1048576) (HM : Hid (gridB s.mW s.mH ms = true)) (HA : Hid (gridB s.aW s.aH xs = true)) (fn1 : (s.mW != s.W) = false) (fn2 : (s.mH != s.H) = false) (fn3 : (s.aW != s.W) = false) (fn4 : (s.aH != s.H) = false) (fn5 : ¬ s.X < 0) (fn6 : ¬ s.W ≤ s.X) (fn7 : ¬ s.Y < 0) (fn8 : ¬ s.H ≤ s.Y) (fw : s.wrap = false ∨ s.wrap = true ∧ (s.X != s.W - 1) = false) (fn9 : ¬ s.sX < 0) (w2c : 1 ≤ s.W) (w2d : s.W ≤ 120) (w2e : 1 ≤ s.H) (w2f : s.H ≤ 120) (fb : s.W ≤ s.sX) :
    Calls Try.prog 32 #[sV s (mA, mc, ms) (aA, ac, xs) (tA, tc, ts) (bA, bc, bs)] w fun e w' => e = .returned (.bool false) ∧ Below w.heap.size w w' := by
  have t0 : Below w.heap.size w (w.alloc (.cells (sC s (mA, mc, ms) (aA, ac, xs) (tA, tc, ts) (bA, bc, bs)) 49)) := (Below.refl _ _).alloc (Nat.le_refl _) _
  rcases fw with fw1 | ⟨fw1, fw2⟩
  all_goals
    go_enter Try.func32, Try.ntmps32
    simp only [List.append_eq, List.cons_append, List.nil_append]
    go_wp2_with fail
    refine (gridOk_spec s.mW s.mH _ _ ms _ (g1.below t0) l1).mono ?_
    rintro e w1 ⟨he, hb1⟩
    rw [HM.out] at he
    subst he
    obtain ⟨B1, q1, r1, z1⟩ := keep_blk hb1 (g := w.heap.size) (by repeat (first | assumption | exact heap_alloc_at _ (by first | rfl | (simp; done) | omega) | refine heap_alloc_of _ ?_ | refine heap_setCell_of _ (by first | omega | (simp; done) | (simp; omega)) ?_ | refine heap_setCell_same _ ?_ | exact heap_at1_same (by first | omega | (simp; done) | (simp; omega)) | refine heap_at1_of (by first | omega | (simp; done) | (simp; omega)) ?_))
    have t1 := t0.trans (hb1.mono t0.size)
    go_wp2_with fail
    refine (gridOk_spec s.aW s.aH _ _ xs _ (g2.below t1) l2).mono ?_
    rintro e w2 ⟨he, hb2⟩
    rw [HA.out] at he
    subst he
    obtain ⟨B2, q2, r2, z2⟩ := keep_blk hb2 B1
    clear B1 q1 r1
    have t2 := t1.trans (hb2.mono t1.size)
    go_wp2_with fail
    all_goals (go_ret; exact ⟨rfl, t2⟩)
set_option maxHeartbeats 4000000 in
theorem sb_n11 (s : Sc) (mA : Option Addr) (mc : Nat) (ms : List Cl) (aA : Option Addr) (ac : Nat) (xs : List Cl) (tA : Option Addr) (tc : Nat) (ts : List Int) (bA : Option Addr) (bc : Nat) (bs : List Rw) (w : World) (g1 : Gs w mA ms) (l1 : ms.length ≤ 1048576) (g2 : Gs w aA xs) (l2 : xs.length ≤ 1048576) (HM : Hid (gridB s.mW s.mH ms = true)) (HA : Hid (gridB s.aW s.aH xs = true)) (fn1 : (s.mW != s.W) = false) (fn2 : (s.mH != s.H) = false) (fn3 : (s.aW != s.W) = false) (fn4 : (s.aH != s.H) = false) (fn5 : ¬ s.X < 0) (fn6 : ¬ s.W ≤ s.X) (fn7 : ¬ s.Y < 0) (fn8 : ¬ s.H ≤ s.Y) (fw : s.wrap = false ∨ s.wrap = true ∧ (s.X != s.W - 1) = false) (fn9 : ¬ s.sX < 0) (fn10 : ¬ s.W ≤ s.sX) (w2c : 1 ≤ s.W) (w2d : s.W ≤ 120) (w2e : 1 ≤ s.H) (w2f : s.H ≤ 120) (fb : s.sY < 0) :
    Calls Try.prog 32 #[sV s (mA, mc, ms) (aA, ac, xs) (tA, tc, ts) (bA, bc, bs)] w fun e w' => e = .returned (.bool false) ∧ Below w.heap.size w w' := by
  have t0 : Below w.heap.size w (w.alloc (.cells (sC s (mA, mc, ms) (aA, ac, xs) (tA, tc, ts) (bA, bc, bs)) 49)) := (Below.refl _ _).alloc (Nat.le_refl _) _
  rcases fw with fw1 | ⟨fw1, fw2⟩
  all_goals
    go_enter Try.func32, Try.ntmps32
    simp only [List.append_eq, List.cons_append, List.nil_append]
    go_wp2_with fail
    refine (gridOk_spec s.mW s.mH _ _ ms _ (g1.below t0) l1).mono ?_
    rintro e w1 ⟨he, hb1⟩
    rw [HM.out] at he
    subst he
    obtain ⟨B1, q1, r1, z1⟩ := keep_blk hb1 (g := w.heap.size) (by repeat (first | assumption | exact heap_alloc_at _ (by first | rfl | (simp; done) | omega) | refine heap_alloc_of _ ?_ | refine heap_setCell_of _ (by first | omega | (simp; done) | (simp; omega)) ?_ | refine heap_setCell_same _ ?_ | exact heap_at1_same (by first | omega | (simp; done) | (simp; omega)) | refine heap_at1_of (by first | omega | (simp; done) | (simp; omega)) ?_))
    have t1 := t0.trans (hb1.mono t0.size)
    go_wp2_with fail
    refine (gridOk_spec s.aW s.aH _ _ xs _ (g2.below t1) l2).mono ?_
    rintro e w2 ⟨he, hb2⟩
    rw [HA.out] at he
    subst he
    obtain ⟨B2, q2, r2, z2⟩ := keep_blk hb2 B1
    clear B1 q1 r1
    have t2 := t1.trans (hb2.mono t1.size)
    go_wp2_with fail
    all_goals (go_ret; exact ⟨rfl, t2⟩)
end Go.Proofs.Ytnilgcahggmncaa
