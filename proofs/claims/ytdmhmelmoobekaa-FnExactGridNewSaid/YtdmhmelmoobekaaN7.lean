/- The law of GridNew. -/
import Derived.Test.YtdmhmelmoobekaaN6
namespace Go.Proofs.Ytdmhmelmoobekaa
open Go.RowKit
set_option linter.unusedVariables false
set_option maxRecDepth 100000

set_option maxHeartbeats 4000000 in
theorem walk_FnExactGridNew (W H : Int) (w : World) (hW : (Lit.int .i64 W).wf = true) (hH : (Lit.int .i64 H).wf = true) :
    Calls Try.prog 4 #[.int .i64 W, .int .i64 H] w fun e w' => e = .returned (.bool true) ∧ Below w.heap.size w w' := by
  clear hW hH
  go_enter Try.func4, Try.ntmps4
  go_wp2_with fail
  refine (gridNew_spec W H _).mono ?_
  have hrl := gn_len W H
  generalize HS : gnR W H = R at hrl
  obtain ⟨⟨RW, RH, rs⟩, bb⟩ := R
  have hrl' : rs.length ≤ 1048576 := Nat.le_trans hrl (by decide)
  rintro e w1 ⟨A1, c1, rfl, ho1, hb1⟩
  replace ho1 : Og w1 w.heap.size A1 c1 rs := ho1
  have t1 := hb1
  go_wp2_with fail
  have v1 : Below w1.heap.size w1 (w1.alloc (.cells #[.int .i64 RW, .int .i64 RH, .slice A1 rs.length c1] 33)) := (Below.refl _ _).alloc (Nat.le_refl _) _
  refine (gridNew_impl W H _).mono ?_
  rw [HS]
  rintro e w2 ⟨A2, c2, rfl, ho2, hb2⟩
  replace ho2 : Og w2 (w1.heap.size + 1) A2 c2 rs := by simpa using ho2
  obtain ⟨Bs2, qs2, rs2, zs2⟩ := keep_blk hb2 (g := w1.heap.size) (by repeat (first | assumption | exact heap_alloc_at _ (by first | rfl | (simp; done) | omega) | refine heap_alloc_of _ ?_ | refine heap_setCell_of _ (by first | omega | (simp; done) | (simp; omega)) ?_ | refine heap_setCell_same _ ?_ | exact heap_at1_same (by first | omega | (simp; done) | (simp; omega)) | refine heap_at1_of (by first | omega | (simp; done) | (simp; omega)) ?_))
  have v12 := v1.trans (hb2.mono v1.size)
  have t2 := t1.trans (v12.mono t1.size)
  have hs2 := ho1.gs.below v12
  go_wp2_with fail
  have v2 : Below w2.heap.size w2 (w2.alloc (.cells #[.int .i64 RW, .int .i64 RH, .slice A2 rs.length c2] 33)) := (Below.refl _ _).alloc (Nat.le_refl _) _
  refine (eqGrid_same RW RH _ _ _ _ rs _ (ho2.gs.below v2) (hs2.below v2) (by omega)).mono ?_
  rintro e w3 ⟨rfl, hb3⟩
  obtain ⟨Bs3, qs3, rs3, zs3⟩ := keep_blk hb3 (g := w1.heap.size) (by repeat (first | assumption | exact heap_alloc_at _ (by first | rfl | (simp; done) | omega) | refine heap_alloc_of _ ?_ | refine heap_setCell_of _ (by first | omega | (simp; done) | (simp; omega)) ?_ | refine heap_setCell_same _ ?_ | exact heap_at1_same (by first | omega | (simp; done) | (simp; omega)) | refine heap_at1_of (by first | omega | (simp; done) | (simp; omega)) ?_))
  obtain ⟨Bg3, qg3, rg3, zg3⟩ := keep_blk hb3 (g := w2.heap.size) (by repeat (first | assumption | exact heap_alloc_at _ (by first | rfl | (simp; done) | omega) | refine heap_alloc_of _ ?_ | refine heap_setCell_of _ (by first | omega | (simp; done) | (simp; omega)) ?_ | refine heap_setCell_same _ ?_ | exact heap_at1_same (by first | omega | (simp; done) | (simp; omega)) | refine heap_at1_of (by first | omega | (simp; done) | (simp; omega)) ?_))
  clear Bs2 qs2 rs2
  have v23 := v2.trans (hb3.mono v2.size)
  have t3 := t2.trans (v23.mono t2.size)
  have hs3 := hs2.below v23
  have ho3 := ho2.below v23 (Nat.le_refl _)
  go_wp2_with fail
  have i1 := ho1.inB
  have i2 := ho2.inB
  have y2 : w1.heap.size < w2.heap.size := by have := hb2.size; simp at this; omega
  have y3 : w2.heap.size < w3.heap.size := by have := hb3.size; simp at this; omega
  have y1 : w.heap.size ≤ w1.heap.size := hb1.size
  refine (markGrid_any RW RH _ _ _ rs 1 _ ho3 hrl' (by omega) (by omega)).mono ?_
  rintro e w4 ⟨rfl, ho4, hg4⟩
  have m4 := hg4.size
  obtain ⟨Bs4, qs4, rs4, zs4⟩ := keep_gr hg4 i2 Bs3 (by omega)
  obtain ⟨Bg4, qg4, rg4, zg4⟩ := keep_gr hg4 i2 Bg3 (by omega)
  clear Bs3 qs3 rs3 Bg3 qg3 rg3
  have t4 : Below w.heap.size w w4 := below_grown t3 hg4 i2 (by omega) (by omega)
  have hs4 := hs3.grown hg4 i2 (fun ad h _ => .inl (by have := i1 ad h; omega))
  have hm4 : Gs w4 A2 (markC 1 rs.length) := ho4.gs
  have hk4 : ¬ (1 : Int) + 6 * (rs.length : Int) < 0 := by omega
  go_wp2_with fail
  refine (heldGrid_any RW RH _ _ rs.length 1 _ hm4 hrl' (by omega) (by omega)).mono ?_
  rintro e w5 ⟨rfl, hb5⟩
  obtain ⟨Bs5, qs5, rs5, zs5⟩ := keep_blk hb5 (g := w1.heap.size) (by repeat (first | assumption | exact heap_alloc_at _ (by first | rfl | (simp; done) | omega) | refine heap_alloc_of _ ?_ | refine heap_setCell_of _ (by first | omega | (simp; done) | (simp; omega)) ?_ | refine heap_setCell_same _ ?_ | exact heap_at1_same (by first | omega | (simp; done) | (simp; omega)) | refine heap_at1_of (by first | omega | (simp; done) | (simp; omega)) ?_))
  obtain ⟨Bg5, qg5, rg5, zg5⟩ := keep_blk hb5 (g := w2.heap.size) (by repeat (first | assumption | exact heap_alloc_at _ (by first | rfl | (simp; done) | omega) | refine heap_alloc_of _ ?_ | refine heap_setCell_of _ (by first | omega | (simp; done) | (simp; omega)) ?_ | refine heap_setCell_same _ ?_ | exact heap_at1_same (by first | omega | (simp; done) | (simp; omega)) | refine heap_at1_of (by first | omega | (simp; done) | (simp; omega)) ?_))
  clear Bs4 qs4 rs4 Bg4 qg4 rg4
  have t5 := t4.trans (hb5.mono t4.size)
  have hs5 := hs4.below hb5
  have hm5 := hm4.below hb5
  go_wp2_with fail
  refine (gridNew_impl W H _).mono ?_
  rw [HS]
  rintro e w6 ⟨A6, c6, rfl, ho6, hb6⟩
  replace ho6 : Og w6 w5.heap.size A6 c6 rs := ho6
  obtain ⟨Bs6, qs6, rs6, zs6⟩ := keep_blk hb6 (g := w1.heap.size) (by repeat (first | assumption | exact heap_alloc_at _ (by first | rfl | (simp; done) | omega) | refine heap_alloc_of _ ?_ | refine heap_setCell_of _ (by first | omega | (simp; done) | (simp; omega)) ?_ | refine heap_setCell_same _ ?_ | exact heap_at1_same (by first | omega | (simp; done) | (simp; omega)) | refine heap_at1_of (by first | omega | (simp; done) | (simp; omega)) ?_))
  obtain ⟨Bg6, qg6, rg6, zg6⟩ := keep_blk hb6 (g := w2.heap.size) (by repeat (first | assumption | exact heap_alloc_at _ (by first | rfl | (simp; done) | omega) | refine heap_alloc_of _ ?_ | refine heap_setCell_of _ (by first | omega | (simp; done) | (simp; omega)) ?_ | refine heap_setCell_same _ ?_ | exact heap_at1_same (by first | omega | (simp; done) | (simp; omega)) | refine heap_at1_of (by first | omega | (simp; done) | (simp; omega)) ?_))
  clear Bs5 qs5 rs5 Bg5 qg5 rg5
  have t6 := t5.trans (hb6.mono t5.size)
  have hs6 := hs5.below hb6
  have hm6 := hm5.below hb6
  go_wp2_with fail
  have v6 : Below w6.heap.size w6 (w6.alloc (.cells #[.int .i64 RW, .int .i64 RH, .slice A6 rs.length c6] 33)) := (Below.refl _ _).alloc (Nat.le_refl _) _
  refine (eqGrid_same RW RH _ _ _ _ rs _ (ho6.gs.below v6) (hs6.below v6) (by omega)).mono ?_
  rintro e w7 ⟨rfl, hb7⟩
  obtain ⟨Bg7, qg7, rg7, zg7⟩ := keep_blk hb7 (g := w2.heap.size) (by repeat (first | assumption | exact heap_alloc_at _ (by first | rfl | (simp; done) | omega) | refine heap_alloc_of _ ?_ | refine heap_setCell_of _ (by first | omega | (simp; done) | (simp; omega)) ?_ | refine heap_setCell_same _ ?_ | exact heap_at1_same (by first | omega | (simp; done) | (simp; omega)) | refine heap_at1_of (by first | omega | (simp; done) | (simp; omega)) ?_))
  clear Bg6 qg6 rg6
  have v67 := v6.trans (hb7.mono v6.size)
  have t7 := t6.trans (v67.mono t6.size)
  have hm7 := hm6.below v67
  go_wp2_with fail
  refine (heldGrid_any RW RH _ _ rs.length 1 _ hm7 hrl' (by omega) (by omega)).mono ?_
  rintro e w8 ⟨rfl, hb8⟩
  go_wp2_with fail
  go_ret
  exact ⟨rfl, t7.trans (hb8.mono t7.size)⟩
end Go.Proofs.Ytdmhmelmoobekaa
