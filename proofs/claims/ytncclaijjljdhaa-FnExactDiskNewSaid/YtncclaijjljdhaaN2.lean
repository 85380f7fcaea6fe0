/- The law of DiskNew. -/
import Derived.Test.YtncclaijjljdhaaN1
namespace Go.Proofs.Ytncclaijjljdhaa
open Go.RowKit
set_option linter.unusedVariables false
set_option maxRecDepth 100000

set_option maxHeartbeats 4000000 in
theorem walk_FnExactDiskNew (room : Int) (w : World) (hr : (Lit.int .i64 room).wf = true) :
    Calls Try.prog 4 #[.int .i64 room] w fun e w' => e = .returned (.bool true) ∧ Below w.heap.size w w' := by
  go_enter Try.func4, Try.ntmps4
  go_wp2_with fail
  refine (diskNew_spec room _).mono ?_
  generalize HS : dnR room = R
  obtain ⟨r, f, n, b⟩ := R
  rintro e w1 ⟨rfl, hb1⟩
  have t1 := hb1
  go_wp2_with fail
  have v1 : Below w1.heap.size w1 (w1.alloc (.cells #[.int .i64 r, .int .i64 f, .int .i64 n, .slice none 0 0, .slice none 0 0, .slice none 0 0] 35)) := (Below.refl _ _).alloc (Nat.le_refl _) _
  refine (diskNew_impl room _).mono ?_
  rw [HS]
  rintro e w2 ⟨rfl, hb2⟩
  obtain ⟨Bs2, qs2, rs2, zs2⟩ := keep_blk hb2 (g := w1.heap.size) (by repeat (first | assumption | exact heap_alloc_at _ (by first | rfl | (simp; done) | omega) | refine heap_alloc_of _ ?_ | refine heap_setCell_of _ (by first | omega | (simp; done) | (simp; omega)) ?_ | refine heap_setCell_same _ ?_ | exact heap_at1_same (by first | omega | (simp; done) | (simp; omega)) | refine heap_at1_of (by first | omega | (simp; done) | (simp; omega)) ?_))
  have t2 := t1.trans ((v1.trans (hb2.mono v1.size)).mono t1.size)
  go_wp2_with fail
  have v2 : Below w2.heap.size w2 (w2.alloc (.cells #[.int .i64 r, .int .i64 f, .int .i64 n, .slice none 0 0, .slice none 0 0, .slice none 0 0] 35)) := (Below.refl _ _).alloc (Nat.le_refl _) _
  refine (eqDisk_nil r f n _).mono ?_
  rintro e w3 ⟨rfl, hb3⟩
  obtain ⟨Bs3, qs3, rs3, zs3⟩ := keep_blk hb3 (g := w1.heap.size) (by repeat (first | assumption | exact heap_alloc_at _ (by first | rfl | (simp; done) | omega) | refine heap_alloc_of _ ?_ | refine heap_setCell_of _ (by first | omega | (simp; done) | (simp; omega)) ?_ | refine heap_setCell_same _ ?_ | exact heap_at1_same (by first | omega | (simp; done) | (simp; omega)) | refine heap_at1_of (by first | omega | (simp; done) | (simp; omega)) ?_))
  obtain ⟨Bg3, qg3, rg3, zg3⟩ := keep_blk hb3 (g := w2.heap.size) (by repeat (first | assumption | exact heap_alloc_at _ (by first | rfl | (simp; done) | omega) | refine heap_alloc_of _ ?_ | refine heap_setCell_of _ (by first | omega | (simp; done) | (simp; omega)) ?_ | refine heap_setCell_same _ ?_ | exact heap_at1_same (by first | omega | (simp; done) | (simp; omega)) | refine heap_at1_of (by first | omega | (simp; done) | (simp; omega)) ?_))
  clear Bs2 qs2 rs2
  have t3 := t2.trans ((v2.trans (hb3.mono v2.size)).mono t2.size)
  go_wp2_with fail
  refine (markDisk_nil r f n _).mono ?_
  rintro e w4 ⟨rfl, hb4⟩
  obtain ⟨Bs4, qs4, rs4, zs4⟩ := keep_blk hb4 (g := w1.heap.size) (by repeat (first | assumption | exact heap_alloc_at _ (by first | rfl | (simp; done) | omega) | refine heap_alloc_of _ ?_ | refine heap_setCell_of _ (by first | omega | (simp; done) | (simp; omega)) ?_ | refine heap_setCell_same _ ?_ | exact heap_at1_same (by first | omega | (simp; done) | (simp; omega)) | refine heap_at1_of (by first | omega | (simp; done) | (simp; omega)) ?_))
  obtain ⟨Bg4, qg4, rg4, zg4⟩ := keep_blk hb4 (g := w2.heap.size) (by repeat (first | assumption | exact heap_alloc_at _ (by first | rfl | (simp; done) | omega) | refine heap_alloc_of _ ?_ | refine heap_setCell_of _ (by first | omega | (simp; done) | (simp; omega)) ?_ | refine heap_setCell_same _ ?_ | exact heap_at1_same (by first | omega | (simp; done) | (simp; omega)) | refine heap_at1_of (by first | omega | (simp; done) | (simp; omega)) ?_))
  clear Bs3 qs3 rs3 Bg3 qg3 rg3
  have t4 := t3.trans (hb4.mono t3.size)
  go_wp2_with fail
  refine (heldDisk_nil r f n _).mono ?_
  rintro e w5 ⟨rfl, hb5⟩
  obtain ⟨Bs5, qs5, rs5, zs5⟩ := keep_blk hb5 (g := w1.heap.size) (by repeat (first | assumption | exact heap_alloc_at _ (by first | rfl | (simp; done) | omega) | refine heap_alloc_of _ ?_ | refine heap_setCell_of _ (by first | omega | (simp; done) | (simp; omega)) ?_ | refine heap_setCell_same _ ?_ | exact heap_at1_same (by first | omega | (simp; done) | (simp; omega)) | refine heap_at1_of (by first | omega | (simp; done) | (simp; omega)) ?_))
  obtain ⟨Bg5, qg5, rg5, zg5⟩ := keep_blk hb5 (g := w2.heap.size) (by repeat (first | assumption | exact heap_alloc_at _ (by first | rfl | (simp; done) | omega) | refine heap_alloc_of _ ?_ | refine heap_setCell_of _ (by first | omega | (simp; done) | (simp; omega)) ?_ | refine heap_setCell_same _ ?_ | exact heap_at1_same (by first | omega | (simp; done) | (simp; omega)) | refine heap_at1_of (by first | omega | (simp; done) | (simp; omega)) ?_))
  clear Bs4 qs4 rs4 Bg4 qg4 rg4
  have t5 := t4.trans (hb5.mono t4.size)
  go_wp2_with fail
  refine (diskNew_impl room _).mono ?_
  rw [HS]
  rintro e w6 ⟨rfl, hb6⟩
  obtain ⟨Bs6, qs6, rs6, zs6⟩ := keep_blk hb6 (g := w1.heap.size) (by repeat (first | assumption | exact heap_alloc_at _ (by first | rfl | (simp; done) | omega) | refine heap_alloc_of _ ?_ | refine heap_setCell_of _ (by first | omega | (simp; done) | (simp; omega)) ?_ | refine heap_setCell_same _ ?_ | exact heap_at1_same (by first | omega | (simp; done) | (simp; omega)) | refine heap_at1_of (by first | omega | (simp; done) | (simp; omega)) ?_))
  obtain ⟨Bg6, qg6, rg6, zg6⟩ := keep_blk hb6 (g := w2.heap.size) (by repeat (first | assumption | exact heap_alloc_at _ (by first | rfl | (simp; done) | omega) | refine heap_alloc_of _ ?_ | refine heap_setCell_of _ (by first | omega | (simp; done) | (simp; omega)) ?_ | refine heap_setCell_same _ ?_ | exact heap_at1_same (by first | omega | (simp; done) | (simp; omega)) | refine heap_at1_of (by first | omega | (simp; done) | (simp; omega)) ?_))
  clear Bs5 qs5 rs5 Bg5 qg5 rg5
  have t6 := t5.trans (hb6.mono t5.size)
  go_wp2_with fail
  have v6 : Below w6.heap.size w6 (w6.alloc (.cells #[.int .i64 r, .int .i64 f, .int .i64 n, .slice none 0 0, .slice none 0 0, .slice none 0 0] 35)) := (Below.refl _ _).alloc (Nat.le_refl _) _
  refine (eqDisk_nil r f n _).mono ?_
  rintro e w7 ⟨rfl, hb7⟩
  obtain ⟨Bg7, qg7, rg7, zg7⟩ := keep_blk hb7 (g := w2.heap.size) (by repeat (first | assumption | exact heap_alloc_at _ (by first | rfl | (simp; done) | omega) | refine heap_alloc_of _ ?_ | refine heap_setCell_of _ (by first | omega | (simp; done) | (simp; omega)) ?_ | refine heap_setCell_same _ ?_ | exact heap_at1_same (by first | omega | (simp; done) | (simp; omega)) | refine heap_at1_of (by first | omega | (simp; done) | (simp; omega)) ?_))
  clear Bg6 qg6 rg6
  have t7 := t6.trans ((v6.trans (hb7.mono v6.size)).mono t6.size)
  go_wp2_with fail
  refine (heldDisk_nil r f n _).mono ?_
  rintro e w8 ⟨rfl, hb8⟩
  go_wp2_with fail
  go_ret
  exact ⟨rfl, t7.trans (hb8.mono t7.size)⟩
end Go.Proofs.Ytncclaijjljdhaa
