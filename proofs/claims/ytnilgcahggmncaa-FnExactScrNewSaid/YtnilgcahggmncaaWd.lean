/- The law of ScrNew. -/
import Derived.Test.YtnilgcahggmncaaWc
namespace Go.Proofs.Ytnilgcahggmncaa
open Go.RowKit
set_option linter.unusedVariables false
set_option maxRecDepth 100000

theorem snC_tot (W H L : Int) : cTot (snC W H L) ≤ 9000 := by
  unfold snC
  split
  · rename_i h
    have hs : sizeB W H = true := by
      unfold snOk at h
      rw [Bool.and_eq_true] at h
      exact h.1
    obtain ⟨s1, s2, s3, s4, s5⟩ := of_decide_eq_true hs
    have hk : tabK W ≤ 20 := by unfold tabK; omega
    have e : cTot (contN W H) = (W * H).toNat + (W * H).toNat + tabK W := by simp [cTot, contN, tabL_len]
    rw [e]
    omega
  · simp [cTot, cont0]
set_option maxHeartbeats 8000000 in
theorem walk_FnExactScrNew (W H L : Int) (w : World) (hW : (Lit.int .i64 W).wf = true) (hH : (Lit.int .i64 H).wf = true) (hL : (Lit.int .i64 L).wf = true) :
    Calls Try.prog 5 #[.int .i64 W, .int .i64 H, .int .i64 L] w fun e w' => e = .returned (.bool true) ∧ Below w.heap.size w w' := by
  clear hW hH hL
  have hN := snC_tot W H L
  obtain ⟨s, hs⟩ : ∃ s, Hid (s = snS W H L) := ⟨_, Lib.hid rfl⟩
  obtain ⟨c, hc⟩ : ∃ c, Hid (c = snC W H L) := ⟨_, Lib.hid rfl⟩
  obtain ⟨ok, hok⟩ : ∃ ok, Hid (ok = snOk W H L) := ⟨_, Lib.hid rfl⟩
  rw [← hc.out] at hN
  go_enter Try.func5, Try.ntmps5
  go_wp2_with fail
  refine (scrNew_spec W H L _).mono ?_
  rw [← hs.out, ← hc.out, ← hok.out]
  rintro e w1 ⟨M1, A1, T1, B1, rfl, hh1, ho1, hb1⟩
  go_wp2_with (first | (refine wp_store_blk rfl 49 _ _ rfl w1.heap.size (sC s M1 A1 T1 B1) rfl rfl 49 zC (heap_alloc_new _ _) size_scr rfl (sC_one s M1 A1 T1 B1) ?_; intro w2 b2 k2 z2; have h2 : Below w1.heap.size w1 w2 := ((Below.refl _ _).alloc (Nat.le_refl _) _).trans (k2.below (fun k hk => by simp at hk; omega) (by simp))))
  have ho2 := ho1.below h2 (Nat.le_refl _)
  have t2 := hb1.trans (h2.mono hb1.size)
  have s2 : w1.heap.size < w2.heap.size := (Array.getElem?_eq_some_iff.1 b2).1
  refine (scrNew_impl W H L _).mono ?_
  rw [← hs.out, ← hc.out, ← hok.out]
  rintro e w3 ⟨M3, A3, T3, B3, rfl, hh3, ho3, hb3⟩
  have s3 := hb3.size
  go_wp2_with (first | (refine wp_store_blk rfl 49 _ _ rfl w3.heap.size (sC s M3 A3 T3 B3) rfl rfl 49 zC (heap_alloc_new _ _) size_scr rfl (sC_one s M3 A3 T3 B3) ?_; intro w4 b4 k4 z4; have h4 : Below w3.heap.size w3 w4 := ((Below.refl _ _).alloc (Nat.le_refl _) _).trans (k4.below (fun k hk => by simp at hk; omega) (by simp)); have c4 : w4.heap[w1.heap.size]? = some (.cells (sC s M1 A1 T1 B1) 49 (0, 0)) := (h4.block _ (by omega)).trans ((hb3.block _ s2).trans b2)) | (refine wpList_load_row rfl 49 _ rfl (w3.heap.size) rfl 49 (sC s M3 A3 T3 B3) (0, 0) _ b4 Try.underlying49 rfl size_scr ?_) | (refine wpList_load_row rfl 49 _ rfl (w1.heap.size) rfl 49 (sC s M1 A1 T1 B1) (0, 0) _ c4 Try.underlying49 rfl size_scr ?_))
  have ho4 := ho3.below h4 (Nat.le_refl _)
  have hw4 := (ho2.below hb3 (Nat.le_refl _)).below h4 (Nat.le_refl _)
  have t3 := t2.trans (hb3.mono t2.size)
  have t4 := t3.trans (h4.mono t3.size)
  have s4 : w3.heap.size < w4.heap.size := (Array.getElem?_eq_some_iff.1 b4).1
  refine (eqScr_same s M3 A3 T3 B3 M1 A1 T1 B1 c _ ho4.sr hw4.sr hh3 hh1 (by omega)).mono ?_
  rintro e w5 ⟨rfl, hb5⟩
  have s5 := hb5.size
  have b5 := (hb5.block _ s4).trans b4
  have c5 := (hb5.block _ (by omega)).trans c4
  have ho5 := ho4.below hb5 (Nat.le_refl _)
  have hw5 := hw4.below hb5 (Nat.le_refl _)
  have t5 := t4.trans (hb5.mono t4.size)
  have N3 := cTot_holds hh3.out
  clear b4 c4 h2 h4 k2 k4
  go_wp2_with (first | (refine wpList_load_row rfl 49 _ rfl (w3.heap.size) rfl 49 (sC s M3 A3 T3 B3) (0, 0) _ b5 Try.underlying49 rfl size_scr ?_))
  refine (markScr_any s w2.heap.size M3 A3 T3 B3 _ ho5 (by omega)).mono ?_
  rintro e w6 ⟨rfl, ho6, k6⟩
  have n6 : ∀ k, k < w2.heap.size ∨ w3.heap.size ≤ k → some k ∉ sft M3 A3 T3 B3 := fun k hk hm => by
    have := (ho3.lt hm)
    omega
  have s6 := k6.size
  have b6 := (k6.block _ (by omega) (n6 _ (.inr (Nat.le_refl _)))).trans b5
  have c6 := (k6.block _ (by omega) (n6 _ (.inl s2))).trans c5
  have hw6 := hw5.chg k6 (fun k hk => n6 k (.inl (by have := (ho2.lt hk).2; omega)))
  have t6 : Below w.heap.size w w6 := t5.trans (k6.below (fun k hk => by have := (ho3.lt hk).1; have := t2.size; omega) (by have := t5.size; omega))
  clear b5 c5 hw4 hw5
  have Z3 : ¬ 1 + nMark M3 A3 T3 B3 < 0 := by unfold nMark; omega
  obtain ⟨nm, hnm⟩ : ∃ nm : Int, Hid (nm = 1 + nMark M3 A3 T3 B3) := ⟨_, Lib.hid rfl⟩
  rw [← hnm.out] at Z3 ⊢
  go_wp2_with (first | (refine wpList_load_row rfl 49 _ rfl (w3.heap.size) rfl 49 (sC s M3 A3 T3 B3) (0, 0) _ b6 Try.underlying49 rfl size_scr ?_))
  refine (heldScr_any s M3 A3 T3 B3 _ ho6.om.gs ho6.oa.gs ho6.ot.cs (by have := ho6.ol.cs; rwa [markR_map] at this) (fun e he => (ho6.ow e he).gs) (by omega)).mono ?_
  rw [← hnm.out]
  rintro e w7 ⟨rfl, hb7⟩
  have s7 := hb7.size
  have b7 := (hb7.block _ (by omega)).trans b6
  have c7 := (hb7.block _ (by omega)).trans c6
  have ho7 := ho6.below hb7 (Nat.le_refl _)
  have hw7 := hw6.below hb7 (Nat.le_refl _)
  have t7 := t6.trans (hb7.mono t6.size)
  clear b6 c6 hw6
  go_wp2_with fail
  refine (scrNew_impl W H L _).mono ?_
  rw [← hs.out, ← hc.out, ← hok.out]
  rintro e w8 ⟨M8, A8, T8, B8, rfl, hh8, ho8, hb8⟩
  have s8 := hb8.size
  go_wp2_with (first | (refine wp_store_blk rfl 49 _ _ rfl w8.heap.size (sC s M8 A8 T8 B8) rfl rfl 49 zC (heap_alloc_new _ _) size_scr rfl (sC_one s M8 A8 T8 B8) ?_; intro w9 d9 k9 z9; have h9 : Below w8.heap.size w8 w9 := ((Below.refl _ _).alloc (Nat.le_refl _) _).trans (k9.below (fun k hk => by simp at hk; omega) (by simp)); have b9 : w9.heap[w3.heap.size]? = some (.cells (sC s M3 A3 T3 B3) 49 (0, 0)) := (h9.block _ (by omega)).trans ((hb8.block _ (by omega)).trans b7); have c9 : w9.heap[w1.heap.size]? = some (.cells (sC s M1 A1 T1 B1) 49 (0, 0)) := (h9.block _ (by omega)).trans ((hb8.block _ (by omega)).trans c7)) | (refine wpList_load_row rfl 49 _ rfl (w8.heap.size) rfl 49 (sC s M8 A8 T8 B8) (0, 0) _ d9 Try.underlying49 rfl size_scr ?_) | (refine wpList_load_row rfl 49 _ rfl (w1.heap.size) rfl 49 (sC s M1 A1 T1 B1) (0, 0) _ c9 Try.underlying49 rfl size_scr ?_))
  have ho9 := ho8.below h9 (Nat.le_refl _)
  have hg9 := (ho7.below hb8 (Nat.le_refl _)).below h9 (Nat.le_refl _)
  have hw9 := (hw7.below hb8 (Nat.le_refl _)).below h9 (Nat.le_refl _)
  have t8 := t7.trans (hb8.mono t7.size)
  have t9 := t8.trans (h9.mono t8.size)
  have s9 : w8.heap.size < w9.heap.size := (Array.getElem?_eq_some_iff.1 d9).1
  refine (eqScr_same s M8 A8 T8 B8 M1 A1 T1 B1 c _ ho9.sr hw9.sr hh8 hh1 (by omega)).mono ?_
  rintro e w10 ⟨rfl, hb10⟩
  have b10 := (hb10.block _ (by omega)).trans b9
  have hg10 := hg9.below hb10 (Nat.le_refl _)
  have t10 := t9.trans (hb10.mono t9.size)
  clear b9 c9
  go_wp2_with (first | (refine wpList_load_row rfl 49 _ rfl (w3.heap.size) rfl 49 (sC s M3 A3 T3 B3) (0, 0) _ b10 Try.underlying49 rfl size_scr ?_))
  refine (heldScr_any s M3 A3 T3 B3 _ hg10.om.gs hg10.oa.gs hg10.ot.cs (by have := hg10.ol.cs; rwa [markR_map] at this) (fun e he => (hg10.ow e he).gs) (by omega)).mono ?_
  rw [← hnm.out]
  rintro e w11 ⟨rfl, hb11⟩
  have t11 := t10.trans (hb11.mono t10.size)
  go_wp2_with fail
  go_ret
  exact ⟨rfl, t11⟩
end Go.Proofs.Ytnilgcahggmncaa
