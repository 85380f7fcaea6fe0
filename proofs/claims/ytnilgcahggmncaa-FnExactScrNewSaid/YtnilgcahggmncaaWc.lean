/- A new screen: the reference's way. -/
import Derived.Test.YtnilgcahggmncaaWb
import Derived.Test.YtnilgcahggmncaaN6
import Derived.Deep.RegionHeld3
import Derived.Deep.RegionWith
namespace Go.Proofs.Ytnilgcahggmncaa
open Go.RowKit
set_option linter.unusedVariables false
set_option maxRecDepth 100000

set_option maxHeartbeats 4000000 in
theorem scrNew_spec (W H L : Int) (w : World) : Calls Try.prog 26 #[.int .i64 W, .int .i64 H, .int .i64 L] w (Scr2 w (snS W H L) (snC W H L) (snOk W H L)) := by
  have t0 : Below w.heap.size w (w.alloc (.cells zC 49)) := (Below.refl _ _).alloc (Nat.le_refl _) _
  by_cases hs : sizeB W H = true
  case neg =>
    have HS : Hid (sizeB W H = false) := by show _ = _; simpa using hs
    have hq : snOk W H L = false := by rw [snOk, HS.out]; rfl
    have HN := Lib.hid (size_no HS.out)
    clear hs
    obtain ⟨e1, e2⟩ := sn_no (W := W) (H := H) (L := L) (by rw [hq]; simp)
    rw [e1, e2, hq]
    clear hq e1 e2
    go_enter Try.func26, Try.ntmps26
    go_wp2_with fail
    refine (gridNew_spec W H _).mono ?_
    rw [HN.out]
    rintro e w1 ⟨A1, c1, rfl, om1, hb1⟩
    have z1 : w.heap.size + 1 ≤ w1.heap.size := by have := hb1.size; simpa using this
    have B1 : w1.heap[w.heap.size]? = some (.cells zC 49 (0, 0)) := (hb1.block _ (by simp)).trans (heap_alloc_new _ _)
    have HB1 := Lib.hid B1
    have t1 := t0.trans (hb1.mono t0.size)
    clear B1
    go_wp2_with (first
      | (refine wp_store_blk rfl 49 _ _ rfl w.heap.size zC rfl rfl 49 zC (heap_alloc_of _ HB1.out) size_scr rfl (by simp [Value.oneCell']) ?_; intro w7 B7 C7 z7))
    refine bodyPost_ret (results_row2 Try.results26 _ _ w.heap.size zC rfl (load_scr B7 rfl)) rfl (nil2 ?_)
    exact (t1.alloc t1.size _).trans (C7.below (fun k hk => by simp at hk; omega) (by simp; omega))
  obtain ⟨s1, s2, s3, s4, s5⟩ := of_decide_eq_true hs
  obtain ⟨p1, p2⟩ := prod_bd s1 s2 s3 s4
  have HS := Lib.hid hs
  clear hs
  obtain ⟨a, rfl⟩ := Int.eq_ofNat_of_zero_le (show 0 ≤ W by omega)
  obtain ⟨b, rfl⟩ := Int.eq_ofNat_of_zero_le (show 0 ≤ H by omega)
  obtain ⟨n, hn⟩ : ∃ n, Hid (n = b * a) := ⟨_, Lib.hid rfl⟩
  have hnn : (a : Int) * (b : Int) = (n : Int) := by rw [hn.out, Int.mul_comm]; exact (Int.natCast_mul b a).symm
  have hn1 : 1 ≤ n := by omega
  have hn2 : n ≤ 4000 := by omega
  have HN := Lib.hid (gn_yes (a := a) (b := b) hn.out ⟨⟨by omega, by omega⟩, ⟨by omega, by omega⟩, hn2⟩)
  have HC : Hid (contN a b = ⟨List.replicate n bk, List.replicate n bk, tabL (tabK a), []⟩) := by
    show _ = _
    rw [contN, hnn]
    rfl
  clear hnn s5 p1 p2
  by_cases k1 : L < 0
  · have hq : snOk a b L = false := by rw [snOk, show withinB L 0 100 = false from decide_eq_false (by omega)]; simp
    obtain ⟨e1, e2⟩ := sn_no (W := (a : Int)) (H := (b : Int)) (L := L) (by rw [hq]; simp)
    rw [e1, e2, hq]
    clear hq e1 e2
    go_enter Try.func26, Try.ntmps26
    go_wp2_with fail
    refine (gridNew_spec a b _).mono ?_
    rw [HN.out]
    rintro e w1 ⟨A1, c1, rfl, om1, hb1⟩
    have z1 : w.heap.size + 1 ≤ w1.heap.size := by have := hb1.size; simpa using this
    have B1 : w1.heap[w.heap.size]? = some (.cells zC 49 (0, 0)) := (hb1.block _ (by simp)).trans (heap_alloc_new _ _)
    have HB1 := Lib.hid B1
    have t1 := t0.trans (hb1.mono t0.size)
    clear B1
    go_wp2_with (first
      | (refine wp_store_blk rfl 49 _ _ rfl w.heap.size zC rfl rfl 49 zC (heap_alloc_of _ HB1.out) size_scr rfl (by simp [Value.oneCell']) ?_; intro w7 B7 C7 z7))
    refine bodyPost_ret (results_row2 Try.results26 _ _ w.heap.size zC rfl (load_scr B7 rfl)) rfl (nil2 ?_)
    exact (t1.alloc t1.size _).trans (C7.below (fun k hk => by simp at hk; omega) (by simp; omega))
  by_cases k2 : 100 < L
  · have hq : snOk a b L = false := by rw [snOk, show withinB L 0 100 = false from decide_eq_false (by omega)]; simp
    obtain ⟨e1, e2⟩ := sn_no (W := (a : Int)) (H := (b : Int)) (L := L) (by rw [hq]; simp)
    rw [e1, e2, hq]
    clear hq e1 e2
    go_enter Try.func26, Try.ntmps26
    go_wp2_with fail
    refine (gridNew_spec a b _).mono ?_
    rw [HN.out]
    rintro e w1 ⟨A1, c1, rfl, om1, hb1⟩
    have z1 : w.heap.size + 1 ≤ w1.heap.size := by have := hb1.size; simpa using this
    have B1 : w1.heap[w.heap.size]? = some (.cells zC 49 (0, 0)) := (hb1.block _ (by simp)).trans (heap_alloc_new _ _)
    have HB1 := Lib.hid B1
    have t1 := t0.trans (hb1.mono t0.size)
    clear B1
    go_wp2_with (first
      | (refine wp_store_blk rfl 49 _ _ rfl w.heap.size zC rfl rfl 49 zC (heap_alloc_of _ HB1.out) size_scr rfl (by simp [Value.oneCell']) ?_; intro w7 B7 C7 z7))
    refine bodyPost_ret (results_row2 Try.results26 _ _ w.heap.size zC rfl (load_scr B7 rfl)) rfl (nil2 ?_)
    exact (t1.alloc t1.size _).trans (C7.below (fun k hk => by simp at hk; omega) (by simp; omega))
  have hq : snOk a b L = true := by rw [snOk, HS.out, show withinB L 0 100 = true from decide_eq_true (by omega)]; rfl
  obtain ⟨e1, e2⟩ := sn_yes hq
  rw [e1, e2, hq, HC.out]
  clear hq e1 e2
  go_enter Try.func26, Try.ntmps26
  go_wp2_with fail
  refine (gridNew_spec a b _).mono ?_
  rw [HN.out]
  rintro e w1 ⟨A1, c1x, rfl, om1, hb1⟩
  simp only at om1
  have z1 : w.heap.size + 1 ≤ w1.heap.size := by have := hb1.size; simpa using this
  have B1 : w1.heap[w.heap.size]? = some (.cells zC 49 (0, 0)) := (hb1.block _ (by simp)).trans (heap_alloc_new _ _)
  have HB1 := Lib.hid B1
  have t1 := t0.trans (hb1.mono t0.size)
  clear B1
  go_wp2_with fail
  have z1' : w.heap.size < w1.heap.size := by omega
  have HW0 : Hid ((w1.alloc (.cells #[.int .i64 a, .int .i64 b, .slice A1 n c1x] 29)).heap[w.heap.size]? = some (.cells zC 49 (0, 0))) := heap_alloc_of _ HB1.out
  have HG0 : Hid ((w1.alloc (.cells #[.int .i64 a, .int .i64 b, .slice A1 n c1x] 29)).heap[w1.heap.size]? = some (.cells #[.int .i64 a, .int .i64 b, .slice A1 n c1x] 29 (0, 0))) := heap_alloc_new _ _
  have om2 : Og (w1.alloc (.cells #[.int .i64 a, .int .i64 b, .slice A1 n c1x] 29)) (w.heap.size + 1) A1 c1x (List.replicate n bk) := by simpa using om1.alloc _
  have t2 : Below w.heap.size w (w1.alloc (.cells #[.int .i64 a, .int .i64 b, .slice A1 n c1x] 29)) := t1.alloc t1.size _
  have zW : (w1.alloc (.cells #[.int .i64 a, .int .i64 b, .slice A1 n c1x] 29)).heap.size = w1.heap.size + 1 := by simp
  have HZW := Lib.hid zW
  clear zW om1 HB1
  obtain ⟨g0, hg0⟩ : ∃ g, Hid (g = w1.heap.size) := ⟨_, Lib.hid rfl⟩
  rw [← hg0.out] at HG0 ⊢
  generalize w1.alloc (.cells #[.int .i64 a, .int .i64 b, .slice A1 n c1x] 29) = w2 at HW0 HG0 om2 t2 HZW ⊢
  have qg : ∀ i, w2.cell? ⟨g0, i, none⟩ = _ := fun i => cell_of_row w2 _ i _ _ (0, 0) HG0.out
  have hb20 : Below w2.heap.size w2 w2.drew := (Below.refl _ _).drew
  have ewr : IntKind.i64.wrap ((b : Int) - 1) = (b : Int) - 1 := by rw [IntKind.wrap_i64]; omega
  have zg : g0 < w2.heap.size := (Array.getElem?_eq_some_iff.1 HG0.out).1
  refine wp_region_held_drew (S := (fun w' => w'.cell? ⟨g0, 0, none⟩ = some (.int .i64 a) ∧ w'.cell? ⟨g0, 1, none⟩ = some (.int .i64 b) ∧ w'.cell? ⟨g0, 2, none⟩ = some (.slice A1 n c1x))) (by kernel_rfl) ⟨by simpa using qg 0, by simpa using qg 1, by simpa using qg 2⟩ (fun hHeld => ?_)
  refine wpAnyH_take (i := 0) (v := .int .i64 a) rfl (by kernel_rfl) (by kernel_rfl) (by kernel_rfl) (fun _ _ _ h => h) (Or.inl ⟨by rfl, (by intro w hSw; (try dsimp only at hSw); go_simp; try first | rfl | assumption)⟩) (by assumption) ?_
  simp only [Act.put, List.getElem_toArray, List.getElem_cons_zero, List.setIfInBounds_toArray, List.set_cons_zero, List.set_cons_succ]
  refine wpAnyH_take (i := 1) (v := .int .i64 b) rfl (by kernel_rfl) (by kernel_rfl) (by kernel_rfl) (fun _ _ _ h => h) (Or.inl ⟨by rfl, (by intro w hSw; (try dsimp only at hSw); go_simp; try first | rfl | assumption)⟩) (by assumption) ?_
  simp only [Act.put, List.getElem_toArray, List.getElem_cons_succ, List.getElem_cons_zero, List.setIfInBounds_toArray, List.set_cons_zero, List.set_cons_succ]
  refine wpAnyH_take (i := 2) (v := .agg #[.int .i64 a, .int .i64 b, .slice A1 n c1x]) rfl (by kernel_rfl) (by kernel_rfl) (by kernel_rfl) (fun _ _ _ h => h) (Or.inl ⟨by rfl, (by intro w hSw; (try dsimp only at hSw); go_simp; try first | rfl | assumption)⟩) (by assumption) ?_
  simp only [Act.put, List.getElem_toArray, List.getElem_cons_succ, List.getElem_cons_zero, List.setIfInBounds_toArray, List.set_cons_zero, List.set_cons_succ]
  refine wpAnyH_take (i := 3) (v := .agg #[.int .i64 a, .int .i64 b, .slice A1 n c1x]) rfl (by kernel_rfl) (by kernel_rfl) (by kernel_rfl) (fun _ _ _ h => h) (Or.inl ⟨by rfl, (by intro w hSw; (try dsimp only at hSw); go_simp; try first | rfl | assumption)⟩) (by assumption) ?_
  simp only [Act.put, List.getElem_toArray, List.getElem_cons_succ, List.getElem_cons_zero, List.setIfInBounds_toArray, List.set_cons_zero, List.set_cons_succ]
  refine wpAnyH_take (i := 5) (v := .int .i64 b) rfl (by kernel_rfl) (by kernel_rfl) (by kernel_rfl) (fun _ _ _ h => h) (Or.inl ⟨by rfl, (by intro w hSw; (try dsimp only at hSw); go_simp; try first | rfl | assumption)⟩) (by assumption) ?_
  simp only [Act.put, List.getElem_toArray, List.getElem_cons_succ, List.getElem_cons_zero, List.setIfInBounds_toArray, List.set_cons_zero, List.set_cons_succ]
  refine wpAnyH_take (i := 6) (v := .int .i64 ((b : Int) - 1)) rfl (by kernel_rfl) (by kernel_rfl) (by kernel_rfl) (fun _ _ _ h => h) (Or.inl ⟨by rfl, (by intro w hSw; (try dsimp only at hSw); go_simp; try first | rfl | assumption)⟩) (by assumption) ?_
  simp only [Act.put, List.getElem_toArray, List.getElem_cons_succ, List.getElem_cons_zero, List.setIfInBounds_toArray, List.set_cons_zero, List.set_cons_succ]
  refine wpAnyH_take (i := 7) (v := .int .i64 a) rfl (by kernel_rfl) (by kernel_rfl) (by kernel_rfl) (fun _ _ _ h => h) (Or.inl ⟨by rfl, (by intro w hSw; (try dsimp only at hSw); go_simp; try first | rfl | assumption)⟩) (by assumption) ?_
  simp only [Act.put, List.getElem_toArray, List.getElem_cons_succ, List.getElem_cons_zero, List.setIfInBounds_toArray, List.set_cons_zero, List.set_cons_succ]
  refine wpAnyH_take (i := 9) (v := .int .i64 L) rfl (by kernel_rfl) (by kernel_rfl) (by kernel_rfl) (fun _ _ _ h => h) (Or.inl ⟨by rfl, (by intro w hSw; (try dsimp only at hSw); go_simp; try first | rfl | assumption)⟩) (by assumption) ?_
  simp only [Act.put, List.getElem_toArray, List.getElem_cons_succ, List.getElem_cons_zero, List.setIfInBounds_toArray, List.set_cons_zero, List.set_cons_succ]
  clear ewr qg
  refine wpAnyH_ready (rs := [4]) (by kernel_rfl) (by simp) ?_
  refine AllReadyH.cons rfl (fun K hK => ?_) AllReadyH.nil
  go_simp
  have hcopy := l07Copy_any (a : Int) (b : Int) A1 c1x (List.replicate n bk) w2.drew (om2.gs.below hb20) (by simp; omega) (by simp; omega)
  rw [List.length_replicate] at hcopy
  refine hcopy.mono ?_
  rintro e w4 ⟨A2, c2x, rfl, oa4, _, _, hb4⟩
  rw [List.length_replicate]
  clear hcopy
  have hb24 : Below w2.heap.size w2 w4 := hb20.trans hb4
  obtain ⟨G4, p4, r4, y4⟩ := keep_blk hb24 HG0.out
  obtain ⟨B4, q4, s4', x4⟩ := keep_blk hb24 HW0.out
  refine hK.out _ _ ⟨p4 0, p4 1, p4 2⟩ (fun hHeld => ?_)
  clear hK K
  try simp only [Act.put, List.getElem_toArray, List.getElem_cons_succ, List.getElem_cons_zero, List.setIfInBounds_toArray, List.set_cons_zero, List.set_cons_succ]
  refine wpAnyH_ready (rs := [8]) (by kernel_rfl) (by simp) ?_
  refine AllReadyH.cons rfl (fun K hK => ?_) AllReadyH.nil
  go_simp
  refine (tabs_spec _ w4 s1 s2).mono ?_
  rintro e w3 ⟨A3, c3x, rfl, ot3, hb3⟩
  obtain ⟨G3, p3, r3, y3⟩ := keep_blk hb3 G4
  obtain ⟨B3, q3, s3', x3⟩ := keep_blk hb3 B4
  refine hK.out _ _ ⟨p3 0, p3 1, p3 2⟩ (fun hHeld => ?_)
  clear hK K
  try simp only [Act.put, List.getElem_toArray, List.getElem_cons_succ, List.getElem_cons_zero, List.setIfInBounds_toArray, List.set_cons_zero, List.set_cons_succ]
  refine wpAnyH_take (i := 10) (v := .agg #[.int .i64 a, .int .i64 b, .int .i64 a, .int .i64 b, .slice A1 n c1x, .int .i64 a, .int .i64 b, .slice A2 n c2x, .bool false, .int .i64 0, .int .i64 0, .bool false, .int .i64 0, .int .i64 0, .bool false, .bool false, .bool false, .int .i64 0, .int .i64 ((b : Int) - 1), .bool false, .bool false, .int .i64 0, .int .i64 0, .int .i64 0, .int .i64 0, .bool false, .bool false, .bool false, .slice A3 (tabL (tabK a)).length c3x, .int .i64 L, .slice none 0 0]) rfl (by kernel_rfl) (by kernel_rfl) (by kernel_rfl) (fun _ _ _ h => h) (Or.inl ⟨by rfl, (by intro w hSw; (try dsimp only at hSw); go_simp; try first | rfl | assumption)⟩) (by assumption) ?_
  try simp only [Act.put, List.getElem_toArray, List.getElem_cons_succ, List.getElem_cons_zero, List.setIfInBounds_toArray, List.set_cons_zero, List.set_cons_succ]
  refine wpAnyH_ready (rs := [11]) (by kernel_rfl) (by simp) ?_
  refine AllReadyH.cons rfl (fun K hK => ?_) AllReadyH.nil
  rw [if_pos (by rfl)]
  refine wp_store_blkO 49 _ _ rfl w.heap.size #[.int .i64 a, .int .i64 b, .int .i64 a, .int .i64 b, .slice A1 n c1x, .int .i64 a, .int .i64 b, .slice A2 n c2x, .bool false, .int .i64 0, .int .i64 0, .bool false, .int .i64 0, .int .i64 0, .bool false, .bool false, .bool false, .int .i64 0, .int .i64 ((b : Int) - 1), .bool false, .bool false, .int .i64 0, .int .i64 0, .int .i64 0, .int .i64 0, .bool false, .bool false, .bool false, .slice A3 (tabL (tabK a)).length c3x, .int .i64 L, .slice none 0 0] rfl rfl 49 zC B3 size_scr rfl (by simp [Value.oneCell']) ?_
  intro w7 B7 C7 z7
  have hgne : ¬ g0 = w.heap.size := by have := hg0.out; omega
  have hk7 : ∀ i, w7.cell? ⟨g0, i, none⟩ = w3.cell? ⟨g0, i, none⟩ := fun i => World.cell?_of_block (C7.block g0 y3 (fun h => by simp at h; exact hgne h))
  refine hK.out _ _ ⟨(hk7 0).trans (p3 0), (hk7 1).trans (p3 1), (hk7 2).trans (p3 2)⟩ (fun hHeld => ?_)
  clear hK K hk7
  try simp only [Act.put, List.getElem_toArray, List.getElem_cons_succ, List.getElem_cons_zero]
  refine wpAnyH_take (i := 12) (v := .bool true) rfl (by kernel_rfl) (by kernel_rfl) (by kernel_rfl) (fun _ _ _ h => h) (Or.inl ⟨by rfl, (by intro w hSw; (try dsimp only at hSw); go_simp; try first | rfl | assumption)⟩) (by assumption) ?_
  try simp only [Act.put, List.getElem_toArray, List.getElem_cons_succ, List.getElem_cons_zero, List.setIfInBounds_toArray, List.set_cons_zero, List.set_cons_succ]
  refine wpAnyH_done (by kernel_rfl) ?_ _
  clear q4 s4' p4 r4 G4 B4 q3 s3' p3 r3 G3 B3 hHeld
  go_wp2_with fail
  refine bodyPost_ret (results_row2 Try.results26 _ _ w.heap.size _ rfl (load_scr B7 rfl)) rfl ?_
  have F0 : ∀ k, w.heap.size + 1 ≤ k → some k ∉ [some w.heap.size] := fun k hk hm => by
    simp at hm
    omega
  have k2 : Chg [some w.heap.size] w2 w7 := (Chg.of_below _ hb24).trans ((Chg.of_below _ hb3).trans C7)
  have k4 : Chg [some w.heap.size] w4 w7 := (Chg.of_below _ hb3).trans C7
  have x24 := hb24.size
  have x43 := hb3.size
  have x02 := t2.size
  have zz := HZW.out
  have oa4' : Og w4 w2.heap.size A2 c2x (List.replicate n bk) := oa4
  have om : Og w7 w.heap.size A1 c1x (List.replicate n bk) := (om2.chg k2 fun k hk => F0 k (by have := (om2.ob_lt hk).1; omega)).mono (by omega)
  have oa : Og w7 w.heap.size A2 c2x (List.replicate n bk) := (oa4'.chg k4 fun k hk => F0 k (by have := (oa4'.ob_lt hk).1; omega)).mono (by omega)
  have ot : Oi w7 w.heap.size A3 c3x (tabL (tabK a)) := (ot3.chg C7 fun k hk => F0 k (by have := (ot3.ob_lt hk).1; omega)).mono (by omega)
  refine ⟨(A1, c1x, List.replicate n bk), (A2, c2x, List.replicate n bk), (A3, c3x, tabL (tabK a)), tr0, by simp [scN], ⟨rfl, rfl, rfl, rfl⟩, So.of_order (n1 := w2.heap.size) (n2 := w4.heap.size) (n3 := w3.heap.size) om oa ot (Or.nil _ _) (Ow.nil _ _ _) (fun k hk => (om2.ob_lt hk).2) (fun k hk => ⟨(oa4'.ob_lt hk).1, (oa4'.ob_lt hk).2⟩) (fun k hk => ⟨(ot3.ob_lt hk).1, (ot3.ob_lt hk).2⟩) (fun k hk => by simp [ft, ob, Value.ownBlock] at hk) (by omega) (by omega), ?_⟩
  exact (t2.trans ((hb24.mono x02).trans (hb3.mono (by omega)))).trans (C7.below (fun k hk => by simp at hk; omega) (by omega))
end Go.Proofs.Ytnilgcahggmncaa
