/- The law of ScrRune. -/
import Derived.Test.YtnilgcahggmncaaY8
namespace Go.Proofs.Ytnilgcahggmncaa
open Go.RowKit
set_option linter.unusedVariables false
set_option maxRecDepth 100000

set_option maxHeartbeats 8000000 in
theorem walk_FnExactScrRune (vs0 : List Value) (X : Int) (w : World) (h0 : Rd Try.prog w 58 vs0) (hX : (Lit.int .i64 X).wf = true) :
    Calls Try.prog 11 #[.agg vs0.toArray, .int .i64 X] w fun e w' => e = .returned (.bool true) ∧ Below w.heap.size w w' := by
  obtain ⟨s, M, A, T, B, rfl, hr, hz, hsb⟩ := rd_scr h0
  clear h0 hsb
  show Calls Try.prog _ #[sV s M A T B, .int .i64 X] _ _
  have t0 : Below w.heap.size w (w.alloc (.cells (sC s M A T B) 58)) := (Below.refl _ _).alloc (Nat.le_refl _) _
  have b0 : (w.alloc (.cells (sC s M A T B) 58)).heap[w.heap.size]? = some (.cells (sC s M A T B) 58 (0, 0)) := heap_alloc_new _ _
  go_enter Try.func11, Try.ntmps11
  go_wp2_with (first | (refine wpList_load_row rfl 58 _ rfl (w.heap.size) rfl 58 (sC s M A T B) (0, 0) _ b0 Try.underlying58 rfl size_scrL ?_))
  refine (szScr_any s M A T B _ (hr.below t0) hz).mono ?_
  rintro e w1 ⟨z, rfl, hb1, hz1⟩
  have t1 := t0.trans (hb1.mono t0.size)
  have bP1 := (hb1.block _ (Array.getElem?_eq_some_iff.1 b0).1).trans b0
  clear b0
  rcases hz1.out with hneg | ⟨hpos, hN⟩
  · clear hz1
    go_wp2_with fail
    go_ret
    exact ⟨rfl, t1⟩
  have hz' := Sz.of hN
  have hng : ¬ z < 0 := by omega
  obtain ⟨c, hc⟩ : ∃ c : Cont, Hid (c = ⟨M.2.2, A.2.2, T.2.2, rcs B.2.2⟩) := ⟨_, Lib.hid rfl⟩
  have hC : cTot c ≤ 1048576 := by rw [← cTot_holds (M := M) (A := A) (T := T) (B := B) (c := c) (by rw [hc.out]; exact ⟨rfl, rfl, rfl, rfl⟩)]; exact hN
  have HZ := Lib.hid hz'
  have HC := Lib.hid hC
  clear hz hz1 hN hz' hC hpos
  go_wp2_with (first | (refine wpList_load_row rfl 58 _ rfl (w.heap.size) rfl 58 (sC s M A T B) (0, 0) _ bP1 Try.underlying58 rfl size_scrL ?_))
  refine (toScr_any s M A T B _ (hr.below t1) HZ.out).mono ?_
  rw [← hc.out]
  rintro e w2 ⟨M2, A2, T2, B2, rfl, hh2, ho2, hb2⟩
  have t2 := t1.trans (hb2.mono t1.size)
  have bP2 := (hb2.block _ (Array.getElem?_eq_some_iff.1 bP1).1).trans bP1
  clear bP1
  have htot : cTot (chC s c (ruC s c X)) ≤ 1048576 := ch_tot2 (ru_tot X)
  obtain ⟨rs, HRS⟩ : ∃ x, Hid (x = chS s c (ruS s X)) := ⟨_, Lib.hid rfl⟩
  obtain ⟨rc, HRC⟩ : ∃ x, Hid (x = chC s c (ruC s c X)) := ⟨_, Lib.hid rfl⟩
  rw [← HRC.out] at htot
  go_wp2_with fail
  refine (scrRune_spec s M2 A2 T2 B2 c X _ ho2.sr (Sz.of (by rw [cTot_holds hh2.out]; exact HC.out)) hh2).mono ?_
  rw [← HRS.out, ← HRC.out]
  rintro e w3 ⟨M3, A3, T3, B3, rfl, hh3, ho3, hb3⟩
  have t3 := t2.trans (hb3.mono t2.size)
  have bP3 := (hb3.block _ (Array.getElem?_eq_some_iff.1 bP2).1).trans bP2
  have zP3 := (Array.getElem?_eq_some_iff.1 bP3).1
  clear bP2
  go_wp2_with (first | (refine wp_store_blk rfl 49 _ _ rfl w3.heap.size (sC rs M3 A3 T3 B3) rfl rfl 49 zC (heap_alloc_new _ _) size_scr rfl (sC_one rs M3 A3 T3 B3) ?_; intro w4 bS4 kS4 zS4; have hS4 : Below w3.heap.size w3 w4 := ((Below.refl _ _).alloc (Nat.le_refl _) _).trans (kS4.below (fun k hk => by simp at hk; omega) (by simp)); have bP4 := (hS4.block _ zP3).trans bP3) | (refine wpList_load_row rfl 58 _ rfl (w.heap.size) rfl 58 (sC s M A T B) (0, 0) _ bP4 Try.underlying58 rfl size_scrL ?_))
  have hb4 := hS4
  have t4 := t3.trans (hb4.mono t3.size)
  have ow4 := ho3.below hb4 (Nat.le_refl _)
  have y4 : w3.heap.size < w4.heap.size := (Array.getElem?_eq_some_iff.1 bS4).1
  clear hS4 kS4 zS4 bP3
  refine (toScr_any s M A T B _ (hr.below t4) HZ.out).mono ?_
  rw [← hc.out]
  rintro e w5 ⟨M5, A5, T5, B5, rfl, hh5, ho5, hb5⟩
  have t5 := t4.trans (hb5.mono t4.size)
  have bP5 := (hb5.block _ (Array.getElem?_eq_some_iff.1 bP4).1).trans bP4
  have bS5 := (hb5.block _ (Array.getElem?_eq_some_iff.1 bS4).1).trans bS4
  have zP5 := (Array.getElem?_eq_some_iff.1 bP5).1
  have zS5 := (Array.getElem?_eq_some_iff.1 bS5).1
  have ow5 := ow4.below hb5 (Nat.le_refl _)
  have y5 := hb5.size
  clear bP4 bS4
  go_wp2_with (first | (refine wp_store_blk rfl 49 _ _ rfl w5.heap.size (sC s M5 A5 T5 B5) rfl rfl 49 zC (heap_alloc_new _ _) size_scr rfl (sC_one s M5 A5 T5 B5) ?_; intro w6 bX6 kX6 zX6; have hX6 : Below w5.heap.size w5 w6 := ((Below.refl _ _).alloc (Nat.le_refl _) _).trans (kX6.below (fun k hk => by simp at hk; omega) (by simp)); have bS6 := (hX6.block _ zS5).trans bS5) | (refine wpList_load_row rfl 49 _ rfl (w5.heap.size) rfl 49 (sC s M5 A5 T5 B5) (0, 0) _ bX6 Try.underlying49 rfl size_scr ?_))
  have hb6 := hX6
  have t6 := t5.trans (hb6.mono t5.size)
  have bP6 := (hb6.block _ zP5).trans bP5
  have ow6 := ow5.below hb6 (Nat.le_refl _)
  have oX6 := ho5.below hb6 (Nat.le_refl _)
  have y6 : w5.heap.size < w6.heap.size := (Array.getElem?_eq_some_iff.1 bX6).1
  clear hX6 kX6 zX6 bP5 bS5
  refine (scrRune_impl s M5 A5 T5 B5 c X _ oX6.sr (Sz.of (by rw [cTot_holds hh5.out]; exact HC.out)) hh5).mono ?_
  rw [← HRS.out, ← HRC.out]
  rintro e w7 ⟨M7, A7, T7, B7, rfl, hh7, ho7, hb7⟩
  have t7 := t6.trans (hb7.mono t6.size)
  have bP7 := (hb7.block _ (Array.getElem?_eq_some_iff.1 bP6).1).trans bP6
  have bS7 := (hb7.block _ (Array.getElem?_eq_some_iff.1 bS6).1).trans bS6
  have bX7 := (hb7.block _ (Array.getElem?_eq_some_iff.1 bX6).1).trans bX6
  have zP7 := (Array.getElem?_eq_some_iff.1 bP7).1
  have zS7 := (Array.getElem?_eq_some_iff.1 bS7).1
  have zX7 := (Array.getElem?_eq_some_iff.1 bX7).1
  have ow7 := ow6.below hb7 (Nat.le_refl _)
  have oX7 := oX6.below hb7 (Nat.le_refl _)
  have y7 := hb7.size
  clear bP6 bS6 bX6
  go_wp2_with (first | (refine wp_store_blk rfl 49 _ _ rfl w7.heap.size (sC rs M7 A7 T7 B7) rfl rfl 49 zC (heap_alloc_new _ _) size_scr rfl (sC_one rs M7 A7 T7 B7) ?_; intro w8 bG8 kG8 zG8; have hG8 : Below w7.heap.size w7 w8 := ((Below.refl _ _).alloc (Nat.le_refl _) _).trans (kG8.below (fun k hk => by simp at hk; omega) (by simp)); have bS8 := (hG8.block _ zS7).trans bS7) | (refine wpList_load_row rfl 49 _ rfl (w7.heap.size) rfl 49 (sC rs M7 A7 T7 B7) (0, 0) _ bG8 Try.underlying49 rfl size_scr ?_) | (refine wpList_load_row rfl 49 _ rfl (w3.heap.size) rfl 49 (sC rs M3 A3 T3 B3) (0, 0) _ bS8 Try.underlying49 rfl size_scr ?_))
  have hb8 := hG8
  have t8 := t7.trans (hb8.mono t7.size)
  have bP8 := (hb8.block _ zP7).trans bP7
  have bX8 := (hb8.block _ zX7).trans bX7
  have ow8 := ow7.below hb8 (Nat.le_refl _)
  have oX8 := oX7.below hb8 (Nat.le_refl _)
  have og8 := ho7.below hb8 (Nat.le_refl _)
  have y8 : w7.heap.size < w8.heap.size := (Array.getElem?_eq_some_iff.1 bG8).1
  clear hG8 kG8 zG8 bP7 bS7 bX7
  refine (eqScr_same rs M7 A7 T7 B7 M3 A3 T3 B3 rc _ og8.sr ow8.sr hh7 hh3 htot).mono ?_
  rintro e w9 ⟨rfl, hb9⟩
  have t9 := t8.trans (hb9.mono t8.size)
  have bP9 := (hb9.block _ (Array.getElem?_eq_some_iff.1 bP8).1).trans bP8
  have bS9 := (hb9.block _ (Array.getElem?_eq_some_iff.1 bS8).1).trans bS8
  have bX9 := (hb9.block _ (Array.getElem?_eq_some_iff.1 bX8).1).trans bX8
  have bG9 := (hb9.block _ (Array.getElem?_eq_some_iff.1 bG8).1).trans bG8
  have ow9 := ow8.below hb9 (Nat.le_refl _)
  have oX9 := oX8.below hb9 (Nat.le_refl _)
  have og9 := og8.below hb9 (Nat.le_refl _)
  have y9 := hb9.size
  clear bP8 bS8 bX8 bG8
  go_wp2_with fail
  refine wp_region_held_drew (S := fun w' => w'.heap[w.heap.size]? = some (.cells (sC s M A T B) 58 (0, 0)) ∧ w'.heap[w5.heap.size]? = some (.cells (sC s M5 A5 T5 B5) 49 (0, 0))) (by kernel_rfl) ⟨bP9, bX9⟩ (fun hHeld => ?_)
  refine wpAnyH_take (i := 0) (v := sV s M5 A5 T5 B5) rfl (by kernel_rfl) (by kernel_rfl) (by kernel_rfl) (fun _ _ _ h => h) (yields_row (by rfl) 49 _ rfl (w5.heap.size) rfl 49 (sC s M5 A5 T5 B5) (0, 0) _ (fun _ h => h.2) Try.underlying49 rfl size_scr) (by assumption) ?_
  try simp only [Act.put, List.getElem_toArray, List.getElem_cons_zero, List.setIfInBounds_toArray, List.set_cons_zero, List.set_cons_succ]
  refine wpAnyH_take (i := 1) (v := sV s M A T B) rfl (by kernel_rfl) (by kernel_rfl) (by kernel_rfl) (fun _ _ _ h => h) (yields_row (by rfl) 58 _ rfl (w.heap.size) rfl 58 (sC s M A T B) (0, 0) _ (fun _ h => h.1) Try.underlying58 rfl size_scrL) (by assumption) ?_
  try simp only [Act.put, List.getElem_toArray, List.getElem_cons_succ, List.getElem_cons_zero, List.setIfInBounds_toArray, List.set_cons_zero, List.set_cons_succ]
  refine wpAnyH_ready (rs := [2]) (by kernel_rfl) (by simp) ?_
  refine AllReadyH.cons rfl (fun K hK => ?_) AllReadyH.nil
  go_simp
  refine (toScr_any s M A T B _ (hr.below t9.drew) HZ.out).mono ?_
  rw [← hc.out]
  rintro e w10 ⟨M10, A10, T10, B10, rfl, hh10, ho10, hb10⟩
  have s10 : Below w9.heap.size w9 w10 := (Below.refl _ _).drew.trans hb10
  have bP10 := (hb10.block _ (Array.getElem?_eq_some_iff.1 bP9).1).trans bP9
  have bX10 := (hb10.block _ (Array.getElem?_eq_some_iff.1 bX9).1).trans bX9
  refine hK.out _ _ ⟨bP10, bX10⟩ (fun hHeld => ?_)
  clear hK K
  try simp only [Act.put, List.getElem_toArray, List.getElem_cons_succ, List.getElem_cons_zero, List.setIfInBounds_toArray, List.set_cons_zero, List.set_cons_succ]
  refine wpAnyH_ready (rs := [3]) (by kernel_rfl) (by simp) ?_
  refine AllReadyH.cons rfl (fun K hK => ?_) AllReadyH.nil
  go_simp
  refine (eqScr_same s M5 A5 T5 B5 M10 A10 T10 B10 c _ (oX9.below s10 (Nat.le_refl _)).sr ho10.sr hh5 hh10 HC.out).mono ?_
  rintro e w11 ⟨rfl, hb11⟩
  have s11 : Below w9.heap.size w9 w11 := s10.trans (hb11.mono s10.size)
  have bP11 := (hb11.block _ (Array.getElem?_eq_some_iff.1 bP10).1).trans bP10
  have bX11 := (hb11.block _ (Array.getElem?_eq_some_iff.1 bX10).1).trans bX10
  refine hK.out _ _ ⟨bP11, bX11⟩ (fun hHeld => ?_)
  clear hK K
  try simp only [Act.put, List.getElem_toArray, List.getElem_cons_succ, List.getElem_cons_zero, List.setIfInBounds_toArray, List.set_cons_zero, List.set_cons_succ]
  refine wpAnyH_take (i := 4) (v := .bool false) rfl (by kernel_rfl) (by kernel_rfl) (by kernel_rfl) (fun _ _ _ h => h) (Or.inl ⟨by rfl, (by intro w hSw; (try dsimp only at hSw); go_simp; try first | rfl | assumption)⟩) (by assumption) ?_
  try simp only [Act.put, List.getElem_toArray, List.getElem_cons_succ, List.getElem_cons_zero, List.setIfInBounds_toArray, List.set_cons_zero, List.set_cons_succ]
  refine wpAnyH_done (by kernel_rfl) ?_ _
  clear hHeld bP9 bX9 bP10 bX10
  have t11 := t9.trans (s11.mono t9.size)
  have bS11 := (s11.block _ (Array.getElem?_eq_some_iff.1 bS9).1).trans bS9
  have bG11 := (s11.block _ (Array.getElem?_eq_some_iff.1 bG9).1).trans bG9
  have ow11 := ow9.below s11 (Nat.le_refl _)
  have oX11 := oX9.below s11 (Nat.le_refl _)
  have og11 := og9.below s11 (Nat.le_refl _)
  have y11 := s11.size
  clear bS9 bG9
  go_wp2_with (first | (refine wpList_load_row rfl 49 _ rfl (w5.heap.size) rfl 49 (sC s M5 A5 T5 B5) (0, 0) _ bX11 Try.underlying49 rfl size_scr ?_))
  have N5 := cTot_holds hh5.out
  have NC := HC.out
  have N7 := cTot_holds hh7.out
  refine (markScr_any s _ M5 A5 T5 B5 _ oX11 (by omega)).mono ?_
  rintro e w12 ⟨rfl, _, k12⟩
  have n12 : ∀ k, k < w4.heap.size ∨ w5.heap.size ≤ k → some k ∉ sft M5 A5 T5 B5 := fun k hk hm => by
    have := ho5.lt hm
    omega
  have y2 : w.heap.size < w3.heap.size := zP3
  have y3 : w2.heap.size ≤ w3.heap.size := hb3.size
  have y1 := t2.size
  have bP12 := (keep_chg k12 bP11 (n12 _ (.inl (by omega)))).1
  have bS12 := (keep_chg k12 bS11 (n12 _ (.inl (by omega)))).1
  have bG12 := (keep_chg k12 bG11 (n12 _ (.inr (by omega)))).1
  have t12 : Below w.heap.size w w12 := t11.trans (k12.below (fun k hk => by have := (ho5.lt hk).1; omega) (by omega))
  have ow12 := ow11.chg k12 (fun k hk => n12 k (.inl (by have := (ho3.lt hk).2; omega)))
  have og12 := og11.chg k12 (fun k hk => n12 k (.inr (by have := (ho7.lt hk).1; omega)))
  have y12 := k12.size
  have Z12 : ¬ 1 + nMark M5 A5 T5 B5 < 0 := by unfold nMark; omega
  clear bP11 bS11 bG11 bX11
  go_wp2_with (first | (refine wpList_load_rowG (by kernel_rfl) 49 _ rfl (w7.heap.size) rfl 49 (sC rs M7 A7 T7 B7) (0, 0) _ bG12 Try.underlying49 rfl size_scr ?_) | (refine wpList_load_rowG (by kernel_rfl) 49 _ rfl (w3.heap.size) rfl 49 (sC rs M3 A3 T3 B3) (0, 0) _ bS12 Try.underlying49 rfl size_scr ?_))
  refine (eqScr_same rs M7 A7 T7 B7 M3 A3 T3 B3 rc _ og12.sr ow12.sr hh7 hh3 htot).mono ?_
  rintro e w13 ⟨rfl, hb13⟩
  have t13 := t12.trans (hb13.mono t12.size)
  have bP13 := (hb13.block _ (Array.getElem?_eq_some_iff.1 bP12).1).trans bP12
  have bS13 := (hb13.block _ (Array.getElem?_eq_some_iff.1 bS12).1).trans bS12
  have bG13 := (hb13.block _ (Array.getElem?_eq_some_iff.1 bG12).1).trans bG12
  have ow13 := ow12.below hb13 (Nat.le_refl _)
  have og13 := og12.below hb13 (Nat.le_refl _)
  have y13 := hb13.size
  clear bP12 bS12 bG12
  go_wp2_with (first | (refine wpList_load_row rfl 49 _ rfl (w7.heap.size) rfl 49 (sC rs M7 A7 T7 B7) (0, 0) _ bG13 Try.underlying49 rfl size_scr ?_))
  refine (markScr_any rs _ M7 A7 T7 B7 _ og13 (by omega)).mono ?_
  rintro e w14 ⟨rfl, og14, k14⟩
  have n14 : ∀ k, k < w6.heap.size ∨ w7.heap.size ≤ k → some k ∉ sft M7 A7 T7 B7 := fun k hk hm => by
    have := ho7.lt hm
    omega
  have bP14 := (keep_chg k14 bP13 (n14 _ (.inl (by omega)))).1
  have bS14 := (keep_chg k14 bS13 (n14 _ (.inl (by omega)))).1
  have bG14 := (keep_chg k14 bG13 (n14 _ (.inr (by omega)))).1
  have t14 : Below w.heap.size w w14 := t13.trans (k14.below (fun k hk => by have := (ho7.lt hk).1; omega) (by omega))
  have ow14 := ow13.chg k14 (fun k hk => n14 k (.inl (by have := (ho3.lt hk).2; omega)))
  have y14 := k14.size
  clear bP13 bS13 bG13
  have Z14 : ¬ 1 + nMark M7 A7 T7 B7 < 0 := by unfold nMark; omega
  obtain ⟨nm, hnm⟩ : ∃ nm : Int, Hid (nm = 1 + nMark M7 A7 T7 B7) := ⟨_, Lib.hid rfl⟩
  rw [← hnm.out] at Z14 ⊢
  go_wp2_with (first | (refine wpList_load_row rfl 49 _ rfl (w7.heap.size) rfl 49 (sC rs M7 A7 T7 B7) (0, 0) _ bG14 Try.underlying49 rfl size_scr ?_))
  refine (heldScr_any rs M7 A7 T7 B7 _ og14.om.gs og14.oa.gs og14.ot.cs (by have := og14.ol.cs; rwa [markR_map] at this) (fun e he => (og14.ow e he).gs) (by omega)).mono ?_
  rw [← hnm.out]
  rintro e w15 ⟨rfl, hb15⟩
  have t15 := t14.trans (hb15.mono t14.size)
  have bP15 := (hb15.block _ (Array.getElem?_eq_some_iff.1 bP14).1).trans bP14
  have bS15 := (hb15.block _ (Array.getElem?_eq_some_iff.1 bS14).1).trans bS14
  have bG15 := (hb15.block _ (Array.getElem?_eq_some_iff.1 bG14).1).trans bG14
  have ow15 := ow14.below hb15 (Nat.le_refl _)
  have og15 := og14.below hb15 (Nat.le_refl _)
  have y15 := hb15.size
  clear bP14 bS14 bG14
  go_wp2_with (first | (refine wpList_load_row rfl 58 _ rfl (w.heap.size) rfl 58 (sC s M A T B) (0, 0) _ bP15 Try.underlying58 rfl size_scrL ?_))
  refine (toScr_any s M A T B _ (hr.below t15) HZ.out).mono ?_
  rw [← hc.out]
  rintro e w16 ⟨M16, A16, T16, B16, rfl, hh16, ho16, hb16⟩
  have t16 := t15.trans (hb16.mono t15.size)
  have bS16 := (hb16.block _ (Array.getElem?_eq_some_iff.1 bS15).1).trans bS15
  have bG16 := (hb16.block _ (Array.getElem?_eq_some_iff.1 bG15).1).trans bG15
  have ow16 := ow15.below hb16 (Nat.le_refl _)
  have og16 := og15.below hb16 (Nat.le_refl _)
  have y16 := hb16.size
  clear bP15 bS15 bG15
  go_wp2_with fail
  refine (scrRune_impl s M16 A16 T16 B16 c X _ ho16.sr (Sz.of (by rw [cTot_holds hh16.out]; exact HC.out)) hh16).mono ?_
  rw [← HRS.out, ← HRC.out]
  rintro e w17 ⟨M17, A17, T17, B17, rfl, hh17, ho17, hb17⟩
  have t17 := t16.trans (hb17.mono t16.size)
  have bS17 := (hb17.block _ (Array.getElem?_eq_some_iff.1 bS16).1).trans bS16
  have bG17 := (hb17.block _ (Array.getElem?_eq_some_iff.1 bG16).1).trans bG16
  have zS17 := (Array.getElem?_eq_some_iff.1 bS17).1
  have zG17 := (Array.getElem?_eq_some_iff.1 bG17).1
  have ow17 := ow16.below hb17 (Nat.le_refl _)
  have og17 := og16.below hb17 (Nat.le_refl _)
  have y17 := hb17.size
  clear bS16 bG16
  go_wp2_with (first | (refine wp_store_blk rfl 49 _ _ rfl w17.heap.size (sC rs M17 A17 T17 B17) rfl rfl 49 zC (heap_alloc_new _ _) size_scr rfl (sC_one rs M17 A17 T17 B17) ?_; intro w18 bH18 kH18 zH18; have hH18 : Below w17.heap.size w17 w18 := ((Below.refl _ _).alloc (Nat.le_refl _) _).trans (kH18.below (fun k hk => by simp at hk; omega) (by simp)); have bS18 := (hH18.block _ zS17).trans bS17) | (refine wpList_load_row rfl 49 _ rfl (w17.heap.size) rfl 49 (sC rs M17 A17 T17 B17) (0, 0) _ bH18 Try.underlying49 rfl size_scr ?_) | (refine wpList_load_row rfl 49 _ rfl (w3.heap.size) rfl 49 (sC rs M3 A3 T3 B3) (0, 0) _ bS18 Try.underlying49 rfl size_scr ?_))
  have hb18 := hH18
  have t18 := t17.trans (hb18.mono t17.size)
  have bG18 := (hb18.block _ zG17).trans bG17
  have ow18 := ow17.below hb18 (Nat.le_refl _)
  have og18 := og17.below hb18 (Nat.le_refl _)
  have oh18 := ho17.below hb18 (Nat.le_refl _)
  clear hH18 kH18 zH18 bS17 bG17
  refine (eqScr_same rs M17 A17 T17 B17 M3 A3 T3 B3 rc _ oh18.sr ow18.sr hh17 hh3 htot).mono ?_
  rintro e w19 ⟨rfl, hb19⟩
  have t19 := t18.trans (hb19.mono t18.size)
  have bG19 := (hb19.block _ (Array.getElem?_eq_some_iff.1 bG18).1).trans bG18
  have og19 := og18.below hb19 (Nat.le_refl _)
  clear bG18 bS18 bH18
  go_wp2_with (first | (refine wpList_load_row rfl 49 _ rfl (w7.heap.size) rfl 49 (sC rs M7 A7 T7 B7) (0, 0) _ bG19 Try.underlying49 rfl size_scr ?_))
  refine (heldScr_any rs M7 A7 T7 B7 _ og19.om.gs og19.oa.gs og19.ot.cs (by have := og19.ol.cs; rwa [markR_map] at this) (fun e he => (og19.ow e he).gs) (by omega)).mono ?_
  rw [← hnm.out]
  rintro e w20 ⟨rfl, hb20⟩
  have t20 := t19.trans (hb20.mono t19.size)
  go_wp2_with fail
  go_ret
  exact ⟨rfl, t20⟩
end Go.Proofs.Ytnilgcahggmncaa
