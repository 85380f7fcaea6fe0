/- The law of Shown. -/
import Derived.Test.YtnilgcahggmncaaX1
import Derived.Test.YtnilgcahggmncaaGm
namespace Go.Proofs.Ytnilgcahggmncaa
open Go.RowKit
set_option linter.unusedVariables false
set_option maxRecDepth 100000

theorem sw_len (s : Sc) (c : Cont) : (swR s c).2.2.length ≤ 1048576 := by
  unfold swR
  split
  · rename_i h
    obtain ⟨e1, e2, _, _, _⟩ := scr_grids h
    have := grid_pos e1
    have := grid_pos e2
    unfold shG
    split <;> simp <;> omega
  · simp
set_option maxHeartbeats 8000000 in
theorem walk_FnExactShown (vs0 : List Value) (w : World) (h0 : Rd Try.prog w 58 vs0) :
    Calls Try.prog 7 #[.agg vs0.toArray] w fun e w' => e = .returned (.bool true) ∧ Below w.heap.size w w' := by
  obtain ⟨s, M, A, T, B, rfl, hr, hz, hsb⟩ := rd_scr h0
  clear h0 hsb
  show Calls Try.prog _ #[sV s M A T B] _ _
  have t0 : Below w.heap.size w (w.alloc (.cells (sC s M A T B) 58)) := (Below.refl _ _).alloc (Nat.le_refl _) _
  have b0 : (w.alloc (.cells (sC s M A T B) 58)).heap[w.heap.size]? = some (.cells (sC s M A T B) 58 (0, 0)) := heap_alloc_new _ _
  go_enter Try.func7, Try.ntmps7
  go_wp2_with (first | (refine wpList_load_row rfl 58 _ rfl (w.heap.size) rfl 58 (sC s M A T B) (0, 0) _ b0 Try.underlying58 rfl size_scrL ?_))
  refine (szScr_any s M A T B _ (hr.below t0) hz).mono ?_
  rintro e w1 ⟨z, rfl, hb1, hz1⟩
  have t1 := t0.trans (hb1.mono t0.size)
  have bP1 := (hb1.block _ (Array.getElem?_eq_some_iff.1 b0).1).trans b0
  clear b0
  rcases hz1.out with hneg | ⟨hpos, hN⟩
  · clear hz1
    go_wp2_with fail
    go_ret
    exact ⟨rfl, t1⟩
  have hz' := Sz.of hN
  have hng : ¬ z < 0 := by omega
  obtain ⟨c, hc⟩ : ∃ c : Cont, Hid (c = ⟨M.2.2, A.2.2, T.2.2, rcs B.2.2⟩) := ⟨_, Lib.hid rfl⟩
  have hC : cTot c ≤ 1048576 := by rw [← cTot_holds (M := M) (A := A) (T := T) (B := B) (c := c) (by rw [hc.out]; exact ⟨rfl, rfl, rfl, rfl⟩)]; exact hN
  have HZ := Lib.hid hz'
  have HC := Lib.hid hC
  clear hz hz1 hN hz' hC hpos
  go_wp2_with (first | (refine wpList_load_row rfl 58 _ rfl (w.heap.size) rfl 58 (sC s M A T B) (0, 0) _ bP1 Try.underlying58 rfl size_scrL ?_))
  refine (toScr_any s M A T B _ (hr.below t1) HZ.out).mono ?_
  rw [← hc.out]
  rintro e w2 ⟨M2, A2, T2, B2, rfl, hh2, ho2, hb2⟩
  have t2 := t1.trans (hb2.mono t1.size)
  have bP2 := (hb2.block _ (Array.getElem?_eq_some_iff.1 bP1).1).trans bP1
  clear bP1
  have hrl : (swR s c).2.2.length ≤ 1048576 := sw_len s c
  obtain ⟨⟨RW, RH, rs⟩, HR⟩ : ∃ R, Hid (R = swR s c) := ⟨_, Lib.hid rfl⟩
  rw [← HR.out] at hrl
  replace hrl : rs.length ≤ 1048576 := hrl
  go_wp2_with fail
  refine (shown_spec s M2 A2 T2 B2 c _ ho2.sr (Sz.of (by rw [cTot_holds hh2.out]; exact HC.out)) hh2).mono ?_
  rw [← HR.out]
  rintro e w3 ⟨A3, c3, rfl, ho3, hs3, hi3, hb3⟩
  replace ho3 : Og w3 w2.heap.size A3 c3 rs := ho3
  replace hs3 : Gs w3 A3 rs := hs3
  have t3 := t2.trans (hb3.mono t2.size)
  have bP3 := (hb3.block _ (Array.getElem?_eq_some_iff.1 bP2).1).trans bP2
  have bQ3 : (w3.alloc (.cells #[.int .i64 RW, .int .i64 RH, .slice A3 rs.length c3] 29)).heap[w.heap.size]? = some (.cells (sC s M A T B) 58 (0, 0)) := heap_alloc_of _ bP3
  have u3 : Below w.heap.size w (w3.alloc (.cells #[.int .i64 RW, .int .i64 RH, .slice A3 rs.length c3] 29)) := t3.alloc t3.size _
  have v3 : Below w3.heap.size w3 (w3.alloc (.cells #[.int .i64 RW, .int .i64 RH, .slice A3 rs.length c3] 29)) := (Below.refl _ _).alloc (Nat.le_refl _) _
  go_wp2_with (first | (refine wpList_load_row rfl 58 _ rfl (w.heap.size) rfl 58 (sC s M A T B) (0, 0) _ bQ3 Try.underlying58 rfl size_scrL ?_))
  refine (toScr_any s M A T B _ (hr.below u3) HZ.out).mono ?_
  rw [← hc.out]
  rintro e w4 ⟨M4, A4, T4, B4, rfl, hh4, ho4, hb4⟩
  replace ho4 : So w4 (w3.heap.size + 1) M4 A4 T4 B4 := by simpa using ho4
  have y4 : w3.heap.size + 1 ≤ w4.heap.size := by have := hb4.size; simpa using this
  have t4 := u3.trans (hb4.mono u3.size)
  have v4 := v3.trans (hb4.mono v3.size)
  have bP4 := (hb4.block _ (Array.getElem?_eq_some_iff.1 bQ3).1).trans bQ3
  obtain ⟨Bs4, qs4, rs4, zs4⟩ := keep_blk hb4 (heap_alloc_new _ _)
  have bP2' := bP2
  clear bP2 bP3 bQ3
  go_wp2_with (first | (refine wp_store_blk rfl 49 _ _ rfl w4.heap.size (sC s M4 A4 T4 B4) rfl rfl 49 zC (heap_alloc_new _ _) size_scr rfl (sC_one s M4 A4 T4 B4) ?_; intro w5 bX5 kX5 zX5; have hX5 : Below w4.heap.size w4 w5 := ((Below.refl _ _).alloc (Nat.le_refl _) _).trans (kX5.below (fun k hk => by simp at hk; omega) (by simp))) | (refine wpList_load_row rfl 49 _ rfl (w4.heap.size) rfl 49 (sC s M4 A4 T4 B4) (0, 0) _ bX5 Try.underlying49 rfl size_scr ?_))
  have hb5 := hX5
  have bP5 := (hb5.block _ (Array.getElem?_eq_some_iff.1 bP4).1).trans bP4
  obtain ⟨Bs5, qs5, rs5, zs5⟩ := keep_blk hb5 Bs4
  clear Bs4 qs4 rs4
  have t5 := t4.trans (hb5.mono t4.size)
  have v5 := v4.trans (hb5.mono v4.size)
  have ho5 := ho4.below hb5 (Nat.le_refl _)
  clear hX5 kX5 zX5 bP4
  have y5 : w4.heap.size < w5.heap.size := (Array.getElem?_eq_some_iff.1 bX5).1
  refine (shown_impl s M4 A4 T4 B4 c _ ho5.sr (Sz.of (by rw [cTot_holds hh4.out]; exact HC.out)) hh4).mono ?_
  rw [← HR.out]
  rintro e w6 ⟨A6, c6, rfl, ho6, hs6, hi6, hb6⟩
  replace ho6 : Og w6 w5.heap.size A6 c6 rs := ho6
  replace hs6 : Gs w6 A6 rs := hs6
  have bP6 := (hb6.block _ (Array.getElem?_eq_some_iff.1 bP5).1).trans bP5
  have bX6 := (hb6.block _ (Array.getElem?_eq_some_iff.1 bX5).1).trans bX5
  obtain ⟨Bs6, qs6, rs6, zs6⟩ := keep_blk hb6 Bs5
  clear Bs5 qs5 rs5
  have t6 := t5.trans (hb6.mono t5.size)
  have v6 := v5.trans (hb6.mono v5.size)
  have oX6 := ho5.below hb6 (Nat.le_refl _)
  clear bP5 bX5
  go_wp2_with fail
  have g6 : Below w6.heap.size w6 (w6.alloc (.cells #[.int .i64 RW, .int .i64 RH, .slice A6 rs.length c6] 29)) := (Below.refl _ _).alloc (Nat.le_refl _) _
  have hw6 := hs3.below v6
  refine (eqGrid_same RW RH _ _ _ _ rs _ (hs6.below g6) (hw6.below g6) (by omega)).mono ?_
  rintro e w7 ⟨rfl, hb7'⟩
  have hb7 : Below w6.heap.size w6 w7 := g6.trans (hb7'.mono g6.size)
  have bP7 := (hb7.block _ (Array.getElem?_eq_some_iff.1 bP6).1).trans bP6
  have bX7 := (hb7.block _ (Array.getElem?_eq_some_iff.1 bX6).1).trans bX6
  obtain ⟨Bs7, qs7, rs7, zs7⟩ := keep_blk hb7 Bs6
  obtain ⟨Bg7, qg7, rg7, zg7⟩ := keep_blk hb7' (heap_alloc_new _ _)
  clear Bs6 qs6 rs6
  have t7 := t6.trans (hb7.mono t6.size)
  have v7 := v6.trans (hb7.mono v6.size)
  have oX7 := oX6.below hb7 (Nat.le_refl _)
  have og7 := ho6.below hb7 (Nat.le_refl _)
  clear bP6 bX6
  go_wp2_with fail
  refine wp_region_held_drew (S := fun w' => w'.heap[w.heap.size]? = some (.cells (sC s M A T B) 58 (0, 0)) ∧ w'.heap[w4.heap.size]? = some (.cells (sC s M4 A4 T4 B4) 49 (0, 0))) (by kernel_rfl) ⟨bP7, bX7⟩ (fun hHeld => ?_)
  refine wpAnyH_take (i := 0) (v := sV s M4 A4 T4 B4) rfl (by kernel_rfl) (by kernel_rfl) (by kernel_rfl) (fun _ _ _ h => h) (yields_row (by rfl) 49 _ rfl (w4.heap.size) rfl 49 (sC s M4 A4 T4 B4) (0, 0) _ (fun _ h => h.2) Try.underlying49 rfl size_scr) (by assumption) ?_
  try simp only [Act.put, List.getElem_toArray, List.getElem_cons_zero, List.setIfInBounds_toArray, List.set_cons_zero, List.set_cons_succ]
  refine wpAnyH_take (i := 1) (v := sV s M A T B) rfl (by kernel_rfl) (by kernel_rfl) (by kernel_rfl) (fun _ _ _ h => h) (yields_row (by rfl) 58 _ rfl (w.heap.size) rfl 58 (sC s M A T B) (0, 0) _ (fun _ h => h.1) Try.underlying58 rfl size_scrL) (by assumption) ?_
  try simp only [Act.put, List.getElem_toArray, List.getElem_cons_succ, List.getElem_cons_zero, List.setIfInBounds_toArray, List.set_cons_zero, List.set_cons_succ]
  refine wpAnyH_ready (rs := [2]) (by kernel_rfl) (by simp) ?_
  refine AllReadyH.cons rfl (fun K hK => ?_) AllReadyH.nil
  go_simp
  refine (toScr_any s M A T B _ (hr.below t7.drew) HZ.out).mono ?_
  rw [← hc.out]
  rintro e w8 ⟨M8, A8, T8, B8, rfl, hh8, ho8, hb8⟩
  have s8 : Below w7.heap.size w7 w8 := (Below.refl _ _).drew.trans hb8
  have bP8 := (hb8.block _ (Array.getElem?_eq_some_iff.1 bP7).1).trans bP7
  have bX8 := (hb8.block _ (Array.getElem?_eq_some_iff.1 bX7).1).trans bX7
  refine hK.out _ _ ⟨bP8, bX8⟩ (fun hHeld => ?_)
  clear hK K
  try simp only [Act.put, List.getElem_toArray, List.getElem_cons_succ, List.getElem_cons_zero, List.setIfInBounds_toArray, List.set_cons_zero, List.set_cons_succ]
  refine wpAnyH_ready (rs := [3]) (by kernel_rfl) (by simp) ?_
  refine AllReadyH.cons rfl (fun K hK => ?_) AllReadyH.nil
  go_simp
  refine (eqScr_same s M4 A4 T4 B4 M8 A8 T8 B8 c _ (oX7.below s8 (Nat.le_refl _)).sr ho8.sr hh4 hh8 HC.out).mono ?_
  rintro e w9 ⟨rfl, hb9⟩
  have s9 : Below w7.heap.size w7 w9 := s8.trans (hb9.mono s8.size)
  have bP9 := (hb9.block _ (Array.getElem?_eq_some_iff.1 bP8).1).trans bP8
  have bX9 := (hb9.block _ (Array.getElem?_eq_some_iff.1 bX8).1).trans bX8
  refine hK.out _ _ ⟨bP9, bX9⟩ (fun hHeld => ?_)
  clear hK K
  try simp only [Act.put, List.getElem_toArray, List.getElem_cons_succ, List.getElem_cons_zero, List.setIfInBounds_toArray, List.set_cons_zero, List.set_cons_succ]
  refine wpAnyH_take (i := 4) (v := .bool false) rfl (by kernel_rfl) (by kernel_rfl) (by kernel_rfl) (fun _ _ _ h => h) (Or.inl ⟨by rfl, (by intro w hSw; (try dsimp only at hSw); go_simp; try first | rfl | assumption)⟩) (by assumption) ?_
  try simp only [Act.put, List.getElem_toArray, List.getElem_cons_succ, List.getElem_cons_zero, List.setIfInBounds_toArray, List.set_cons_zero, List.set_cons_succ]
  refine wpAnyH_done (by kernel_rfl) ?_ _
  clear hHeld bP7 bX7 bP8 bX8
  obtain ⟨Bs9, qs9, rs9, zs9⟩ := keep_blk s9 Bs7
  obtain ⟨Bg9, qg9, rg9, zg9⟩ := keep_blk s9 Bg7
  clear Bs7 qs7 rs7 Bg7 qg7 rg7
  have t9 := t7.trans (s9.mono t7.size)
  have v9 := v7.trans (s9.mono v7.size)
  have oX9 := oX7.below s9 (Nat.le_refl _)
  have og9 := og7.below s9 (Nat.le_refl _)
  have hw9 := hs3.below v9
  go_wp2_with (first | (refine wpList_load_row rfl 49 _ rfl (w4.heap.size) rfl 49 (sC s M4 A4 T4 B4) (0, 0) _ bX9 Try.underlying49 rfl size_scr ?_))
  have N4 := cTot_holds hh4.out
  have NC := HC.out
  refine (markScr_any s _ M4 A4 T4 B4 _ oX9 (by omega)).mono ?_
  rintro e w10 ⟨rfl, _, k10⟩
  have n10 : ∀ k, k < w3.heap.size + 1 ∨ w4.heap.size ≤ k → some k ∉ sft M4 A4 T4 B4 := fun k hk hm => by
    have := ho4.lt hm
    omega
  have y3 : w2.heap.size ≤ w3.heap.size := hb3.size
  have y2 : w.heap.size < w2.heap.size := by have := (Array.getElem?_eq_some_iff.1 bP9).1; exact (Array.getElem?_eq_some_iff.1 bP2').1
  have y6 : w5.heap.size ≤ w6.heap.size := hb6.size
  have y7 : w6.heap.size < w7.heap.size := zg7
  have y9 : w7.heap.size ≤ w9.heap.size := s9.size
  have bP10 := (keep_chg k10 bP9 (n10 _ (.inl (by omega)))).1
  obtain ⟨Bs10, qs10, rs10, zs10⟩ := keep_chg k10 Bs9 (n10 _ (.inl (by omega)))
  obtain ⟨Bg10, qg10, rg10, zg10⟩ := keep_chg k10 Bg9 (n10 _ (.inr (by omega)))
  clear Bs9 qs9 rs9 Bg9 qg9 rg9
  have t10 : Below w.heap.size w w10 := t9.trans (k10.below (fun k hk => by have := (ho4.lt hk).1; omega) (by omega))
  have og10 := og9.chg k10 (fun k hk => n10 k (.inr (by have := (ho6.ob_lt hk).1; omega)))
  have hw10 := hw9.chg k10 (fun k hk => n10 k (.inl (by have := (ho3.ob_lt hk).2; omega)))
  have y10 := k10.size
  have Z10 : ¬ 1 + nMark M4 A4 T4 B4 < 0 := by unfold nMark; omega
  clear bP9 bX9
  go_wp2_with fail
  refine (eqGrid_same RW RH _ _ _ _ rs _ og10.gs hw10 (by omega)).mono ?_
  rintro e w11 ⟨rfl, hb11⟩
  have bP11 := (hb11.block _ (Array.getElem?_eq_some_iff.1 bP10).1).trans bP10
  obtain ⟨Bs11, qs11, rs11, zs11⟩ := keep_blk hb11 Bs10
  obtain ⟨Bg11, qg11, rg11, zg11⟩ := keep_blk hb11 Bg10
  clear Bs10 qs10 rs10 Bg10 qg10 rg10
  have t11 := t10.trans (hb11.mono t10.size)
  have og11 := og10.below hb11 (Nat.le_refl _)
  have hw11 := hw10.below hb11
  have y11 := hb11.size
  clear bP10
  go_wp2_with fail
  refine (markGrid_any RW RH A6 c6 _ rs 1 _ og11 hrl (by omega) (by omega)).mono ?_
  rintro e w12 ⟨rfl, og12, hg12⟩
  have k12 : Chg [ob A6] w11 w12 := Chg.of_grown hg12 (fun k hk => by rw [ob_eq] at hk; simp [hk])
  have n12 : ∀ k, k < w5.heap.size ∨ w6.heap.size ≤ k → some k ∉ [ob A6] := fun k hk hm => by
    have := ho6.ob_lt (List.mem_singleton.1 hm).symm
    omega
  have bP12 := (keep_chg k12 bP11 (n12 _ (.inl (by omega)))).1
  obtain ⟨Bs12, qs12, rs12, zs12⟩ := keep_chg k12 Bs11 (n12 _ (.inl (by omega)))
  obtain ⟨Bg12, qg12, rg12, zg12⟩ := keep_chg k12 Bg11 (n12 _ (.inr (by omega)))
  clear Bs11 qs11 rs11 Bg11 qg11 rg11
  have t12 : Below w.heap.size w w12 := t11.trans (k12.below (fun k hk => by have := (ho6.ob_lt (List.mem_singleton.1 hk).symm).1; omega) (by omega))
  have hw12 := hw11.chg k12 (fun k hk => n12 k (.inl (by have := (ho3.ob_lt hk).2; omega)))
  have y12 := k12.size
  clear bP11
  have Z12 : ¬ (1 : Int) + 6 * (rs.length : Int) < 0 := by omega
  go_wp2_with fail
  refine (heldGrid_any RW RH A6 c6 rs.length 1 _ og12.gs hrl (by omega) (by omega)).mono ?_
  rintro e w13 ⟨rfl, hb13⟩
  have bP13 := (hb13.block _ (Array.getElem?_eq_some_iff.1 bP12).1).trans bP12
  obtain ⟨Bs13, qs13, rs13, zs13⟩ := keep_blk hb13 Bs12
  obtain ⟨Bg13, qg13, rg13, zg13⟩ := keep_blk hb13 Bg12
  clear Bs12 qs12 rs12 Bg12 qg12 rg12
  have t13 := t12.trans (hb13.mono t12.size)
  have og13 := og12.below hb13 (Nat.le_refl _)
  have hw13 := hw12.below hb13
  have y13 := hb13.size
  clear bP12
  go_wp2_with (first | (refine wpList_load_row rfl 58 _ rfl (w.heap.size) rfl 58 (sC s M A T B) (0, 0) _ bP13 Try.underlying58 rfl size_scrL ?_))
  refine (toScr_any s M A T B _ (hr.below t13) HZ.out).mono ?_
  rw [← hc.out]
  rintro e w14 ⟨M14, A14, T14, B14, rfl, hh14, ho14, hb14⟩
  obtain ⟨Bs14, qs14, rs14, zs14⟩ := keep_blk hb14 Bs13
  obtain ⟨Bg14, qg14, rg14, zg14⟩ := keep_blk hb14 Bg13
  clear Bs13 qs13 rs13 Bg13 qg13 rg13
  have t14 := t13.trans (hb14.mono t13.size)
  have og14 := og13.below hb14 (Nat.le_refl _)
  have hw14 := hw13.below hb14
  have y14 := hb14.size
  clear bP13
  go_wp2_with fail
  refine (shown_impl s M14 A14 T14 B14 c _ ho14.sr (Sz.of (by rw [cTot_holds hh14.out]; exact HC.out)) hh14).mono ?_
  rw [← HR.out]
  rintro e w15 ⟨A15, c15, rfl, ho15, hs15, hi15, hb15⟩
  replace hs15 : Gs w15 A15 rs := hs15
  obtain ⟨Bs15, qs15, rs15, zs15⟩ := keep_blk hb15 Bs14
  obtain ⟨Bg15, qg15, rg15, zg15⟩ := keep_blk hb15 Bg14
  clear Bs14 qs14 rs14 Bg14 qg14 rg14
  have t15 := t14.trans (hb15.mono t14.size)
  have og15 := og14.below hb15 (Nat.le_refl _)
  have hw15 := hw14.below hb15
  go_wp2_with fail
  have g15 : Below w15.heap.size w15 (w15.alloc (.cells #[.int .i64 RW, .int .i64 RH, .slice A15 rs.length c15] 29)) := (Below.refl _ _).alloc (Nat.le_refl _) _
  refine (eqGrid_same RW RH _ _ _ _ rs _ (hs15.below g15) (hw15.below g15) (by omega)).mono ?_
  rintro e w16 ⟨rfl, hb16'⟩
  have hb16 : Below w15.heap.size w15 w16 := g15.trans (hb16'.mono g15.size)
  obtain ⟨Bg16, qg16, rg16, zg16⟩ := keep_blk hb16 Bg15
  have t16 := t15.trans (hb16.mono t15.size)
  have og16 := og15.below hb16 (Nat.le_refl _)
  go_wp2_with fail
  refine (heldGrid_any RW RH A6 c6 rs.length 1 _ og16.gs hrl (by omega) (by omega)).mono ?_
  rintro e w17 ⟨rfl, hb17⟩
  have t17 := t16.trans (hb17.mono t16.size)
  go_wp2_with fail
  go_ret
  exact ⟨rfl, t17⟩
end Go.Proofs.Ytnilgcahggmncaa
