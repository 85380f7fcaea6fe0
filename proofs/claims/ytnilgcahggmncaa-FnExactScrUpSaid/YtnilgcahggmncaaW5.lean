/- A screen: its size. -/
import Derived.Test.YtnilgcahggmncaaW4
namespace Go.Proofs.Ytnilgcahggmncaa
open Go.RowKit
set_option linter.unusedVariables false
set_option maxRecDepth 100000

/-- Too large, or all slices together have at most 2^20 cells and numbers. -/
def SzPost (w : World) (m a : Rw) (t : Ti) (b : Tr) (e : Ending) (w' : World) : Prop :=
  ∃ z : Int, e = .returned (.int .i64 z) ∧ Below w.heap.size w w' ∧ Hid (z < 0 ∨ (0 ≤ z ∧ m.2.2.length + a.2.2.length + t.2.2.length + b.2.2.length + rtot b.2.2 ≤ 1048576))
set_option maxHeartbeats 4000000 in
theorem szScr_any (s : Sc) (m a : Rw) (t : Ti) (b : Tr) (w : World) (hr : Sr w m a t b) (hz : Sz m a t b maxLen) :
    Calls Try.prog 31 #[sV s m a t b, .int .i64 1048576] w (SzPost w m a t b) := by
  have t0 : Below w.heap.size w (w.alloc (.cells (sC s m a t b) 58)) := (Below.refl _ _).alloc (Nat.le_refl _) _
  obtain ⟨l1, l2, l3, l4, l5⟩ := hz
  by_cases k1 : (1048576 : Int) < (m.2.2.length : Int)
  · have HS1 : Hid (szR ((1048576 : Int)) (m.2.2.length : Int) = -1) := szR_no k1
    go_enter Try.func31, Try.ntmps31
    go_wp2_with fail
    refine (szGrid_any s.mW s.mH m.1 _ m.2.1 _ _ l1 (by omega) (by omega)).mono ?_
    rintro e w1 ⟨he, hb1⟩
    rw [HS1.out] at he
    subst he
    obtain ⟨B1, q1, r1, z1⟩ := keep_blk hb1 (g := w.heap.size) (by repeat (first | assumption | exact heap_alloc_at _ (by first | rfl | (simp; done) | omega) | refine heap_alloc_of _ ?_ | refine heap_setCell_of _ (by first | omega | (simp; done) | (simp; omega)) ?_ | refine heap_setCell_same _ ?_ | exact heap_at1_same (by first | omega | (simp; done) | (simp; omega)) | refine heap_at1_of (by first | omega | (simp; done) | (simp; omega)) ?_))
    have t1 := t0.trans (hb1.mono t0.size)
    go_wp2_with fail
    go_ret
    exact ⟨_, rfl, t1, .inl (by omega)⟩
  have HS1 : Hid (szR ((1048576 : Int)) (m.2.2.length : Int) = (1048576 : Int) - (m.2.2.length : Int)) := szR_yes k1
  have p1 : ¬ (1048576 : Int) - (m.2.2.length : Int) < 0 := by omega
  by_cases k2 : (1048576 : Int) - (m.2.2.length : Int) < (a.2.2.length : Int)
  · have HS2 : Hid (szR ((1048576 : Int) - (m.2.2.length : Int)) (a.2.2.length : Int) = -1) := szR_no k2
    go_enter Try.func31, Try.ntmps31
    go_wp2_with fail
    refine (szGrid_any s.mW s.mH m.1 _ m.2.1 _ _ l1 (by omega) (by omega)).mono ?_
    rintro e w1 ⟨he, hb1⟩
    rw [HS1.out] at he
    subst he
    obtain ⟨B1, q1, r1, z1⟩ := keep_blk hb1 (g := w.heap.size) (by repeat (first | assumption | exact heap_alloc_at _ (by first | rfl | (simp; done) | omega) | refine heap_alloc_of _ ?_ | refine heap_setCell_of _ (by first | omega | (simp; done) | (simp; omega)) ?_ | refine heap_setCell_same _ ?_ | exact heap_at1_same (by first | omega | (simp; done) | (simp; omega)) | refine heap_at1_of (by first | omega | (simp; done) | (simp; omega)) ?_))
    have t1 := t0.trans (hb1.mono t0.size)
    go_wp2_with fail
    refine (szGrid_any s.aW s.aH a.1 _ a.2.1 _ _ l2 (by omega) (by omega)).mono ?_
    rintro e w2 ⟨he, hb2⟩
    rw [HS2.out] at he
    subst he
    obtain ⟨B2, q2, r2, z2⟩ := keep_blk hb2 (g := w.heap.size) (by repeat (first | assumption | exact heap_alloc_at _ (by first | rfl | (simp; done) | omega) | refine heap_alloc_of _ ?_ | refine heap_setCell_of _ (by first | omega | (simp; done) | (simp; omega)) ?_ | refine heap_setCell_same _ ?_ | exact heap_at1_same (by first | omega | (simp; done) | (simp; omega)) | refine heap_at1_of (by first | omega | (simp; done) | (simp; omega)) ?_))
    have t2 := t1.trans (hb2.mono t1.size)
    clear B1 q1 r1
    go_wp2_with fail
    go_ret
    exact ⟨_, rfl, t2, .inl (by omega)⟩
  have HS2 : Hid (szR ((1048576 : Int) - (m.2.2.length : Int)) (a.2.2.length : Int) = (1048576 : Int) - (m.2.2.length : Int) - (a.2.2.length : Int)) := szR_yes k2
  have p2 : ¬ (1048576 : Int) - (m.2.2.length : Int) - (a.2.2.length : Int) < 0 := by omega
  by_cases k3 : (1048576 : Int) - (m.2.2.length : Int) - (a.2.2.length : Int) < (t.2.2.length : Int)
  · have HS3 : Hid (szR ((1048576 : Int) - (m.2.2.length : Int) - (a.2.2.length : Int)) (t.2.2.length : Int) = -1) := szR_no k3
    go_enter Try.func31, Try.ntmps31
    go_wp2_with fail
    refine (szGrid_any s.mW s.mH m.1 _ m.2.1 _ _ l1 (by omega) (by omega)).mono ?_
    rintro e w1 ⟨he, hb1⟩
    rw [HS1.out] at he
    subst he
    obtain ⟨B1, q1, r1, z1⟩ := keep_blk hb1 (g := w.heap.size) (by repeat (first | assumption | exact heap_alloc_at _ (by first | rfl | (simp; done) | omega) | refine heap_alloc_of _ ?_ | refine heap_setCell_of _ (by first | omega | (simp; done) | (simp; omega)) ?_ | refine heap_setCell_same _ ?_ | exact heap_at1_same (by first | omega | (simp; done) | (simp; omega)) | refine heap_at1_of (by first | omega | (simp; done) | (simp; omega)) ?_))
    have t1 := t0.trans (hb1.mono t0.size)
    go_wp2_with fail
    refine (szGrid_any s.aW s.aH a.1 _ a.2.1 _ _ l2 (by omega) (by omega)).mono ?_
    rintro e w2 ⟨he, hb2⟩
    rw [HS2.out] at he
    subst he
    obtain ⟨B2, q2, r2, z2⟩ := keep_blk hb2 (g := w.heap.size) (by repeat (first | assumption | exact heap_alloc_at _ (by first | rfl | (simp; done) | omega) | refine heap_alloc_of _ ?_ | refine heap_setCell_of _ (by first | omega | (simp; done) | (simp; omega)) ?_ | refine heap_setCell_same _ ?_ | exact heap_at1_same (by first | omega | (simp; done) | (simp; omega)) | refine heap_at1_of (by first | omega | (simp; done) | (simp; omega)) ?_))
    have t2 := t1.trans (hb2.mono t1.size)
    clear B1 q1 r1
    go_wp2_with fail
    refine (szIntS_any t.1 _ t.2.1 _ _ l3 (by omega) (by omega)).mono ?_
    rintro e w' ⟨he, rfl⟩
    rw [HS3.out] at he
    subst he
    go_wp2_with fail
    go_ret
    exact ⟨_, rfl, t2, .inl (by omega)⟩
  have HS3 : Hid (szR ((1048576 : Int) - (m.2.2.length : Int) - (a.2.2.length : Int)) (t.2.2.length : Int) = (1048576 : Int) - (m.2.2.length : Int) - (a.2.2.length : Int) - (t.2.2.length : Int)) := szR_yes k3
  have p3 : ¬ (1048576 : Int) - (m.2.2.length : Int) - (a.2.2.length : Int) - (t.2.2.length : Int) < 0 := by omega
  by_cases k4 : (1048576 : Int) - (m.2.2.length : Int) - (a.2.2.length : Int) - (t.2.2.length : Int) < ((b.2.2.length : Int) + (rtot b.2.2 : Int))
  · have HS4 : Hid (szR ((1048576 : Int) - (m.2.2.length : Int) - (a.2.2.length : Int) - (t.2.2.length : Int)) ((b.2.2.length : Int) + (rtot b.2.2 : Int)) = -1) := szR_no k4
    go_enter Try.func31, Try.ntmps31
    go_wp2_with fail
    refine (szGrid_any s.mW s.mH m.1 _ m.2.1 _ _ l1 (by omega) (by omega)).mono ?_
    rintro e w1 ⟨he, hb1⟩
    rw [HS1.out] at he
    subst he
    obtain ⟨B1, q1, r1, z1⟩ := keep_blk hb1 (g := w.heap.size) (by repeat (first | assumption | exact heap_alloc_at _ (by first | rfl | (simp; done) | omega) | refine heap_alloc_of _ ?_ | refine heap_setCell_of _ (by first | omega | (simp; done) | (simp; omega)) ?_ | refine heap_setCell_same _ ?_ | exact heap_at1_same (by first | omega | (simp; done) | (simp; omega)) | refine heap_at1_of (by first | omega | (simp; done) | (simp; omega)) ?_))
    have t1 := t0.trans (hb1.mono t0.size)
    go_wp2_with fail
    refine (szGrid_any s.aW s.aH a.1 _ a.2.1 _ _ l2 (by omega) (by omega)).mono ?_
    rintro e w2 ⟨he, hb2⟩
    rw [HS2.out] at he
    subst he
    obtain ⟨B2, q2, r2, z2⟩ := keep_blk hb2 (g := w.heap.size) (by repeat (first | assumption | exact heap_alloc_at _ (by first | rfl | (simp; done) | omega) | refine heap_alloc_of _ ?_ | refine heap_setCell_of _ (by first | omega | (simp; done) | (simp; omega)) ?_ | refine heap_setCell_same _ ?_ | exact heap_at1_same (by first | omega | (simp; done) | (simp; omega)) | refine heap_at1_of (by first | omega | (simp; done) | (simp; omega)) ?_))
    have t2 := t1.trans (hb2.mono t1.size)
    clear B1 q1 r1
    go_wp2_with fail
    refine (szIntS_any t.1 _ t.2.1 _ _ l3 (by omega) (by omega)).mono ?_
    rintro e w' ⟨he, rfl⟩
    rw [HS3.out] at he
    subst he
    go_wp2_with fail
    refine (szRowS_any b.1 b.2.1 b.2.2 _ _ (hr.gb.below t2) l4 l5 (by omega) (by omega)).mono ?_
    rintro e w4 ⟨he, hb4⟩
    rw [HS4.out] at he
    subst he
    obtain ⟨B4, q4, r4, z4⟩ := keep_blk hb4 (g := w.heap.size) (by repeat (first | assumption | exact heap_alloc_at _ (by first | rfl | (simp; done) | omega) | refine heap_alloc_of _ ?_ | refine heap_setCell_of _ (by first | omega | (simp; done) | (simp; omega)) ?_ | refine heap_setCell_same _ ?_ | exact heap_at1_same (by first | omega | (simp; done) | (simp; omega)) | refine heap_at1_of (by first | omega | (simp; done) | (simp; omega)) ?_))
    have t4 := t2.trans (hb4.mono t2.size)
    clear B2 q2 r2
    go_wp2_with fail
    go_ret
    exact ⟨_, rfl, t4, .inl (by omega)⟩
  have HS4 : Hid (szR ((1048576 : Int) - (m.2.2.length : Int) - (a.2.2.length : Int) - (t.2.2.length : Int)) ((b.2.2.length : Int) + (rtot b.2.2 : Int)) = (1048576 : Int) - (m.2.2.length : Int) - (a.2.2.length : Int) - (t.2.2.length : Int) - ((b.2.2.length : Int) + (rtot b.2.2 : Int))) := szR_yes k4
  have p4 : ¬ (1048576 : Int) - (m.2.2.length : Int) - (a.2.2.length : Int) - (t.2.2.length : Int) - ((b.2.2.length : Int) + (rtot b.2.2 : Int)) < 0 := by omega
  go_enter Try.func31, Try.ntmps31
  go_wp2_with fail
  refine (szGrid_any s.mW s.mH m.1 _ m.2.1 _ _ l1 (by omega) (by omega)).mono ?_
  rintro e w1 ⟨he, hb1⟩
  rw [HS1.out] at he
  subst he
  obtain ⟨B1, q1, r1, z1⟩ := keep_blk hb1 (g := w.heap.size) (by repeat (first | assumption | exact heap_alloc_at _ (by first | rfl | (simp; done) | omega) | refine heap_alloc_of _ ?_ | refine heap_setCell_of _ (by first | omega | (simp; done) | (simp; omega)) ?_ | refine heap_setCell_same _ ?_ | exact heap_at1_same (by first | omega | (simp; done) | (simp; omega)) | refine heap_at1_of (by first | omega | (simp; done) | (simp; omega)) ?_))
  have t1 := t0.trans (hb1.mono t0.size)
  go_wp2_with fail
  refine (szGrid_any s.aW s.aH a.1 _ a.2.1 _ _ l2 (by omega) (by omega)).mono ?_
  rintro e w2 ⟨he, hb2⟩
  rw [HS2.out] at he
  subst he
  obtain ⟨B2, q2, r2, z2⟩ := keep_blk hb2 (g := w.heap.size) (by repeat (first | assumption | exact heap_alloc_at _ (by first | rfl | (simp; done) | omega) | refine heap_alloc_of _ ?_ | refine heap_setCell_of _ (by first | omega | (simp; done) | (simp; omega)) ?_ | refine heap_setCell_same _ ?_ | exact heap_at1_same (by first | omega | (simp; done) | (simp; omega)) | refine heap_at1_of (by first | omega | (simp; done) | (simp; omega)) ?_))
  have t2 := t1.trans (hb2.mono t1.size)
  clear B1 q1 r1
  go_wp2_with fail
  refine (szIntS_any t.1 _ t.2.1 _ _ l3 (by omega) (by omega)).mono ?_
  rintro e w' ⟨he, rfl⟩
  rw [HS3.out] at he
  subst he
  go_wp2_with fail
  refine (szRowS_any b.1 b.2.1 b.2.2 _ _ (hr.gb.below t2) l4 l5 (by omega) (by omega)).mono ?_
  rintro e w4 ⟨he, hb4⟩
  rw [HS4.out] at he
  subst he
  obtain ⟨B4, q4, r4, z4⟩ := keep_blk hb4 (g := w.heap.size) (by repeat (first | assumption | exact heap_alloc_at _ (by first | rfl | (simp; done) | omega) | refine heap_alloc_of _ ?_ | refine heap_setCell_of _ (by first | omega | (simp; done) | (simp; omega)) ?_ | refine heap_setCell_same _ ?_ | exact heap_at1_same (by first | omega | (simp; done) | (simp; omega)) | refine heap_at1_of (by first | omega | (simp; done) | (simp; omega)) ?_))
  have t4 := t2.trans (hb4.mono t2.size)
  clear B2 q2 r2
  go_wp2_with fail
  go_ret
  exact ⟨_, rfl, t4, .inr ⟨by omega, by omega⟩⟩
end Go.Proofs.Ytnilgcahggmncaa
