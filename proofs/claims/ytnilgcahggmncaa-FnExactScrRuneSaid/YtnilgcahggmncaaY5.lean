/- One row scrolled: the reference's way. One row scrolled: the reference's way. The cursor moved down, on a screen of its own: the reference's way. The cursor moved down, on a screen of its own: the reference's way. ScrDown: the reference's way. -/
import Derived.Test.YtnilgcahggmncaaY4
namespace Go.Proofs.Ytnilgcahggmncaa
open Go.RowKit

set_option linter.unusedVariables false
set_option maxRecDepth 100000

theorem Wk.newA {w : World} {lo : Nat} {M A A' : Rw} {T : Ti} {B : Tr} (h : Wk w lo M A T B) (g : Gs w A'.1 A'.2.2) (hk : ∀ k, ob A'.1 = some k → lo ≤ k ∧ k < w.heap.size) : Wk w lo M A' T B :=
  ⟨⟨h.sr.gm, g, h.sr.gt, h.sr.gb⟩, fun k hm => (sft_putA hm).elim (hk k) (h.lt' k)⟩
theorem Wk.newM {w : World} {lo : Nat} {M A M' : Rw} {T : Ti} {B : Tr} (h : Wk w lo M A T B) (g : Gs w M'.1 M'.2.2) (hk : ∀ k, ob M'.1 = some k → lo ≤ k ∧ k < w.heap.size) : Wk w lo M' A T B :=
  ⟨⟨g, h.sr.ga, h.sr.gt, h.sr.gb⟩, fun k hm => (sft_putM hm).elim (hk k) (h.lt' k)⟩
/-- A screen is answered that can be read, from lo on. -/
def ReadPost (lo p : Nat) (w : World) (s : Sc) (c : Cont) (e : Ending) (w' : World) : Prop :=
  ∃ (M A : Rw) (T : Ti) (B : Tr), e = .returned (sV s M A T B) ∧ Hid (Holds M A T B c) ∧ Wk w' lo M A T B ∧ (∀ k, some k ∈ sft M A T B → k < p ∨ w.heap.size ≤ k) ∧ (∀ k, p ≤ k → k < w.heap.size → w'.heap[k]? = w.heap[k]?) ∧ Below lo w w'
set_option maxHeartbeats 4000000 in
theorem l09Roll_a (s : Sc) (M A : Rw) (T : Ti) (B : Tr) (c : Cont) (lo p : Nat) (w : World) (hq : scrB s c = true) (hp : Hid (∀ k, some k ∈ sft M A T B → k < p)) (hS : So w lo M A T B) (hh : Hid (Holds M A T B c)) (hlo : lo ≤ w.heap.size) (ho : s.onA = true) :
    Calls Try.prog 133 #[sV s M A T B, .int .i64 1] w (ReadPost lo p w s (rollC s (keepC s c) 1)) := by
  have t0 : Below w.heap.size w ((w.alloc (.cells (sC s M A T B) 49)).alloc (.cells zC 49)) := bel2 _ _ _
  have b0 : ((w.alloc (.cells (sC s M A T B) 49)).alloc (.cells zC 49)).heap[w.heap.size]? = some (.cells (sC s M A T B) 49 (0, 0)) := heap_alloc_of _ (heap_alloc_new _ _)
  have z0 : ((w.alloc (.cells (sC s M A T B) 49)).alloc (.cells zC 49)).heap[w.heap.size + 1]? = some (.cells zC 49 (0, 0)) := hat2 _ _ _
  have q0 : ∀ i, ((w.alloc (.cells (sC s M A T B) 49)).alloc (.cells zC 49)).cell? ⟨w.heap.size, i, none⟩ = _ := fun i => cell_of_row _ _ i _ _ (0, 0) b0
  obtain ⟨⟨u1, u2, u3, u4⟩, ⟨_, _, y1, y2⟩, ⟨v1, v2, v3'⟩, ⟨m1, m2, m3⟩⟩ := scr_nums hq
  obtain ⟨⟨d1, d2⟩, d3, d4⟩ := scr_dims hq
  obtain ⟨g1, g2, _, _, _⟩ := scr_grids hq
  obtain ⟨pp1, pp2⟩ := grid_pos g1
  obtain ⟨pp3, pp4⟩ := grid_pos g2
  have hHo := hh.out
  obtain ⟨ns, hns⟩ : ∃ ns, Hid (ns = roL c.a s.aW.toNat s.top.toNat s.bot.toNat 1) := ⟨_, Lib.hid rfl⟩
  have hR : roR s.aW s.aH c.a s.top s.bot 1 = (s.aW, s.aH, ns) := by rw [hns.out]; exact if_pos ⟨g2, v1, v3', by omega⟩
  have HGR : Hid (∀ w', Gs w' A.1 A.2.2 → Calls Try.prog 101 #[gV s.aW s.aH A.1 A.2.2.length A.2.1, .int .i64 s.top, .int .i64 s.bot, .int .i64 1] w' (GridPost w' s.aW s.aH ns)) := fun w' hg => by
    have := gridRoll_spec s.aW s.aH A.1 A.2.1 A.2.2 s.top s.bot 1 w' hg (by rw [hHo.2.1]; omega)
    rw [hHo.2.1, hR] at this
    rw [hHo.2.1]
    exact this
  have hkc : keepC s c = c := if_neg (by rw [ho]; simp)
  have HRC : Hid (rollC s (keepC s c) 1 = { c with a := ns }) := by show _ = _; rw [hkc, hns.out]; exact if_pos ho
  have HHO : Hid (Hid (Holds M (none, 0, ns) T B { c with a := ns })) := ⟨hHo.1, rfl, hHo.2.2.1, hHo.2.2.2⟩
  have HO := Lib.hid ho
  have ew : IntKind.i64.wrap (s.bot - s.top) = s.bot - s.top := by rw [IntKind.wrap_i64]; omega
  clear hkc hR u1 u2 u3 u4 g1 g2 pp1 pp2 pp3 pp4 m1 m2 m3 d3 d4 y1 y2
  go_enter Try.func133, Try.ntmps133
  go_wp2_with fail
  refine wp_loop_rounds 2 ?_
  rw [rounds_succ]
  go_wp2_with fail
  obtain ⟨v, hv⟩ : ∃ v, v = ((w.alloc (.cells (sC s M A T B) 49)).alloc (.cells zC 49)) := ⟨_, rfl⟩
  rw [← hv] at t0 b0 z0 ⊢
  clear hv q0 v1 v2 v3' ew
  have tP := t0
  have bP := b0
  have zO := z0
  have HTV := Lib.hid (t0.mono hlo)
  have HWK := Lib.hid ((Wk.of_so hS).below t0 (Nat.le_refl _))
  have HNB : Hid (∀ k, some k ∈ sft M A T B → k < w.heap.size) := fun k hk => (hS.lt hk).2
  have HGS : Hid (∀ w', Below v.heap.size v w' → Gs w' A.1 A.2.2) := fun w' hb => (hS.oa.gs.below t0).below hb
  clear ho t0 b0 z0 hHo
  refine wp_regionK (fun w' => w'.heap[w.heap.size]? = some (.cells (sC s M A T B) 49 (0, 0))) 10 (by kernel_rfl) ?_
  refine wpAnyK_take (i := 0) (v := sV s M A T B) rfl (by kernel_rfl) (by kernel_rfl) (by kernel_rfl) (fun _ _ _ h => h) (by kernel_rfl) (by kernel_rfl) (by decide) (yields_row (by rfl) 49 _ rfl (w.heap.size) rfl 49 (sC s M A T B) (0, 0) _ (fun _ h => h) Try.underlying49 rfl size_scr) (bP) ?_
  try simp only [Act.put, List.getElem_toArray, List.getElem_cons_zero, List.setIfInBounds_toArray, List.set_cons_zero, List.set_cons_succ]
  refine wpAnyK_take (i := 1) (v := sV s M A T B) rfl (by kernel_rfl) (by kernel_rfl) (by kernel_rfl) (fun _ _ _ h => h) (by kernel_rfl) (by kernel_rfl) (by decide) (yields_row (by rfl) 49 _ rfl (w.heap.size) rfl 49 (sC s M A T B) (0, 0) _ (fun _ h => h) Try.underlying49 rfl size_scr) (bP) ?_
  try simp only [Act.put, List.getElem_toArray, List.getElem_cons_succ, List.getElem_cons_zero, List.setIfInBounds_toArray, List.set_cons_zero, List.set_cons_succ]
  refine wpAnyK_free (i := 3) (v := .pointer (some ⟨w.heap.size, 17, none⟩)) rfl (by kernel_rfl) (by kernel_rfl) (by kernel_rfl) (fun _ _ _ h => h) (by decide) (Or.inl ⟨by rfl, (by intro w' _; go_simp; try rfl)⟩) (fun _ => bP) ?_
  try simp only [Act.put, List.getElem_toArray, List.getElem_cons_succ, List.getElem_cons_zero, List.setIfInBounds_toArray, List.set_cons_zero, List.set_cons_succ]
  refine wpAnyK_take (i := 4) (v := .int .i64 s.top) rfl (by kernel_rfl) (by kernel_rfl) (by kernel_rfl) (fun _ _ _ h => h) (by kernel_rfl) (by kernel_rfl) (by decide) (Or.inl ⟨by rfl, (by intro w' hSw; have q : ∀ i, w'.cell? ⟨w.heap.size, i, none⟩ = _ := fun i => cell_of_row w' _ i _ _ (0, 0) hSw; go_simp; try first | rfl | simp [q])⟩) (bP) ?_
  try simp only [Act.put, List.getElem_toArray, List.getElem_cons_succ, List.getElem_cons_zero, List.setIfInBounds_toArray, List.set_cons_zero, List.set_cons_succ]
  refine wpAnyK_free (i := 5) (v := .pointer (some ⟨w.heap.size, 18, none⟩)) rfl (by kernel_rfl) (by kernel_rfl) (by kernel_rfl) (fun _ _ _ h => h) (by decide) (Or.inl ⟨by rfl, (by intro w' _; go_simp; try rfl)⟩) (fun _ => bP) ?_
  try simp only [Act.put, List.getElem_toArray, List.getElem_cons_succ, List.getElem_cons_zero, List.setIfInBounds_toArray, List.set_cons_zero, List.set_cons_succ]
  refine wpAnyK_take (i := 6) (v := .int .i64 s.bot) rfl (by kernel_rfl) (by kernel_rfl) (by kernel_rfl) (fun _ _ _ h => h) (by kernel_rfl) (by kernel_rfl) (by decide) (Or.inl ⟨by rfl, (by intro w' hSw; have q : ∀ i, w'.cell? ⟨w.heap.size, i, none⟩ = _ := fun i => cell_of_row w' _ i _ _ (0, 0) hSw; go_simp; try first | rfl | simp [q])⟩) (bP) ?_
  try simp only [Act.put, List.getElem_toArray, List.getElem_cons_succ, List.getElem_cons_zero, List.setIfInBounds_toArray, List.set_cons_zero, List.set_cons_succ]
  refine wpAnyK_free (i := 7) (v := .int .i64 1) rfl (by kernel_rfl) (by kernel_rfl) (by kernel_rfl) (fun _ _ _ h => h) (by decide) (Or.inl ⟨by rfl, (by intro w' _; go_simp; try rfl)⟩) (fun _ => bP) ?_
  try simp only [Act.put, List.getElem_toArray, List.getElem_cons_succ, List.getElem_cons_zero, List.setIfInBounds_toArray, List.set_cons_zero, List.set_cons_succ]
  refine wpAnyK_ready (rs := [2]) (by kernel_rfl) (by simp) ?_
  refine AllReadyK.cons rfl (fun K hK => ?_) AllReadyK.nil
  go_simp
  refine (l09Shown_any s M A T B _).mono ?_
  rintro e w4 ⟨he, hb4⟩
  rw [if_pos HO.out] at he
  subst he
  have tP0 := tP.drew
  have hb4' : Below v.heap.size v w4 := (Below.refl _ _).drew.trans hb4
  have t4 := tP.drew.trans (hb4.mono tP.size)
  have bP4 := (hb4.block _ (Array.getElem?_eq_some_iff.1 bP).1).trans bP
  have zO4 := (hb4.block _ (Array.getElem?_eq_some_iff.1 zO).1).trans zO
  refine hK.out _ _ (fun _ => bP4) ?_
  clear hK K
  try simp only [Act.put, List.getElem_toArray, List.getElem_cons_succ, List.getElem_cons_zero, List.setIfInBounds_toArray, List.set_cons_zero, List.set_cons_succ]
  refine wpAnyK_ready (rs := [8]) (by kernel_rfl) (by simp) ?_
  refine AllReadyK.cons rfl (fun K hK => ?_) AllReadyK.nil
  go_simp
  refine (HGR.out _ (HGS.out _ hb4')).mono ?_
  rintro e w5 ⟨G, gc, rfl, og5, _, _, hb5⟩
  have t5 := t4.trans (hb5.mono t4.size)
  have bP5 := (hb5.block _ (Array.getElem?_eq_some_iff.1 bP4).1).trans bP4
  have zO5 := (hb5.block _ (Array.getElem?_eq_some_iff.1 zO4).1).trans zO4
  refine hK.out _ _ (fun _ => bP5) ?_
  clear hK K
  try simp only [Act.put, List.getElem_toArray, List.getElem_cons_succ, List.getElem_cons_zero, List.setIfInBounds_toArray, List.set_cons_zero, List.set_cons_succ]
  refine wpAnyK_ready (rs := [9]) (by kernel_rfl) (by simp) ?_
  refine AllReadyK.cons rfl (fun K hK => ?_) AllReadyK.nil
  go_simp
  refine (l09Put_alt s M A T B G ns.length gc ns s.aW s.aH _ rfl HO.out).mono ?_
  rintro e w6 ⟨rfl, hb6⟩
  have t6 := t5.trans (hb6.mono t5.size)
  have bP6 := (hb6.block _ (Array.getElem?_eq_some_iff.1 bP5).1).trans bP5
  have zO6 := (hb6.block _ (Array.getElem?_eq_some_iff.1 zO5).1).trans zO5
  refine hK.out _ _ (fun _ => bP6) ?_
  clear hK K
  try simp only [Act.put, List.getElem_toArray, List.getElem_cons_succ, List.getElem_cons_zero, List.setIfInBounds_toArray, List.set_cons_zero, List.set_cons_succ]
  refine wpAnyK_ready (rs := [10]) (by kernel_rfl) (by simp) ?_
  refine AllReadyK.cons rfl (fun K hK => ?_) AllReadyK.nil
  rw [if_pos (by rfl)]
  refine wp_store_blkO 49 _ _ rfl (w.heap.size + 1) (sC s M (G, gc, ns) T B) rfl rfl 49 zC zO6 size_scr rfl (sC_one _ _ _ _ _) ?_
  intro w7 B7 C7 z7
  refine hK.out _ _ (late (by kernel_rfl)) ?_
  clear hK K
  try simp only [Act.put, List.getElem_toArray, List.getElem_cons_succ, List.getElem_cons_zero]
  refine wpAnyK_done (by kernel_rfl) ?_ _
  go_wp2_with fail
  refine bodyPost_ret (results_cell_row Try.results133 _ _ (w.heap.size + 1) 49 (sC s M (G, gc, ns) T B) (0, 0) _ rfl B7 Try.underlying49 rfl size_scr) rfl ?_
  have s46 : Below v.heap.size v w6 := hb4'.trans ((hb5.mono hb4'.size).trans (hb6.mono (Nat.le_trans hb4'.size hb5.size)))
  have k7 := HWK.out.below s46 (Nat.le_refl _)
  have y5 := hb4'.size
  have yv := tP.size
  have k8 := k7.chg C7 (fun k hk hm => by have := HNB.out k hk; simp at hm; omega)
  have og7 : Gs w7 G ns := ((og5.below hb6 (Nat.le_refl _)).chg C7 (fun k hk hm => by have := (og5.ob_lt hk).1; have := (Array.getElem?_eq_some_iff.1 zO4).1; simp at hm; omega)).gs
  have ogl := fun k hk => (og5.ob_lt (k := k) hk)
  have y6 := hb6.size
  have y56 := hb5.size
  have y7 := C7.size
  refine ⟨M, (G, gc, ns), T, B, rfl, ?_, ?_, ?_, ?_, ?_⟩
  · rw [HRC.out]
    exact HHO.out
  · exact Wk.newA k8 og7 (fun k hk => by have := ogl k hk; omega)
  · exact fun k hk => (sft_putA hk).elim (fun h => .inr (by have := ogl k h; omega)) (fun h => .inl (hp.out k h))
  · exact fun k _ hk => (C7.block k (by omega) (by simp; omega)).trans (t6.block k hk)
  · exact ((HTV.out.trans (s46.mono (by omega))).trans (C7.below (fun k hk => by simp at hk; omega) (by omega)))
set_option maxHeartbeats 4000000 in
theorem l09Roll_b (s : Sc) (M A : Rw) (T : Ti) (B : Tr) (c : Cont) (lo p : Nat) (w : World) (hq : scrB s c = true) (hp : Hid (∀ k, some k ∈ sft M A T B → k < p)) (hS : So w lo M A T B) (hh : Hid (Holds M A T B c)) (hlo : lo ≤ w.heap.size) (ho : s.onA = false) (ht : s.top ≠ 0) :
    Calls Try.prog 133 #[sV s M A T B, .int .i64 1] w (ReadPost lo p w s (rollC s (keepC s c) 1)) := by
  have t0 : Below w.heap.size w ((w.alloc (.cells (sC s M A T B) 49)).alloc (.cells zC 49)) := bel2 _ _ _
  have b0 : ((w.alloc (.cells (sC s M A T B) 49)).alloc (.cells zC 49)).heap[w.heap.size]? = some (.cells (sC s M A T B) 49 (0, 0)) := heap_alloc_of _ (heap_alloc_new _ _)
  have z0 : ((w.alloc (.cells (sC s M A T B) 49)).alloc (.cells zC 49)).heap[w.heap.size + 1]? = some (.cells zC 49 (0, 0)) := hat2 _ _ _
  have q0 : ∀ i, ((w.alloc (.cells (sC s M A T B) 49)).alloc (.cells zC 49)).cell? ⟨w.heap.size, i, none⟩ = _ := fun i => cell_of_row _ _ i _ _ (0, 0) b0
  obtain ⟨⟨u1, u2, u3, u4⟩, ⟨_, _, y1, y2⟩, ⟨v1, v2, v3'⟩, ⟨m1, m2, m3⟩⟩ := scr_nums hq
  obtain ⟨⟨d1, d2⟩, d3, d4⟩ := scr_dims hq
  obtain ⟨g1, g2, _, _, _⟩ := scr_grids hq
  obtain ⟨pp1, pp2⟩ := grid_pos g1
  obtain ⟨pp3, pp4⟩ := grid_pos g2
  have hHo := hh.out
  obtain ⟨ns, hns⟩ : ∃ ns, Hid (ns = roL c.m s.mW.toNat s.top.toNat s.bot.toNat 1) := ⟨_, Lib.hid rfl⟩
  have hR : roR s.mW s.mH c.m s.top s.bot 1 = (s.mW, s.mH, ns) := by rw [hns.out]; exact if_pos ⟨g1, v1, v3', by omega⟩
  have HGR : Hid (∀ w', Gs w' M.1 M.2.2 → Calls Try.prog 101 #[gV s.mW s.mH M.1 M.2.2.length M.2.1, .int .i64 s.top, .int .i64 s.bot, .int .i64 1] w' (GridPost w' s.mW s.mH ns)) := fun w' hg => by
    have := gridRoll_spec s.mW s.mH M.1 M.2.1 M.2.2 s.top s.bot 1 w' hg (by rw [hHo.1]; omega)
    rw [hHo.1, hR] at this
    rw [hHo.1]
    exact this
  have hkc : keepC s c = c := if_neg (fun h => ht h.2)
  have HRC : Hid (rollC s (keepC s c) 1 = { c with m := ns }) := by show _ = _; rw [hkc, hns.out]; exact if_neg (by rw [ho]; simp)
  have HHO : Hid (Hid (Holds (none, 0, ns) A T B { c with m := ns })) := ⟨rfl, hHo.2.1, hHo.2.2.1, hHo.2.2.2⟩
  have HO := Lib.hid ho
  have ew : IntKind.i64.wrap (s.bot - s.top) = s.bot - s.top := by rw [IntKind.wrap_i64]; omega
  have ht' : (s.top == 0) = false := by simpa using ht
  clear hkc hR u1 u2 u3 u4 g1 g2 pp1 pp2 pp3 pp4 m1 m2 m3 d3 d4 y1 y2
  go_enter Try.func133, Try.ntmps133
  go_wp2_with fail
  refine wp_loop_rounds 2 ?_
  rw [rounds_succ]
  go_wp2_with fail
  obtain ⟨v, hv⟩ : ∃ v, v = ((w.alloc (.cells (sC s M A T B) 49)).alloc (.cells zC 49)) := ⟨_, rfl⟩
  rw [← hv] at t0 b0 z0 ⊢
  clear hv q0 v1 v2 v3' ew ht' ht
  have tP := t0
  have bP := b0
  have zO := z0
  have HTV := Lib.hid (t0.mono hlo)
  have HWK := Lib.hid ((Wk.of_so hS).below t0 (Nat.le_refl _))
  have HNB : Hid (∀ k, some k ∈ sft M A T B → k < w.heap.size) := fun k hk => (hS.lt hk).2
  have HGS : Hid (∀ w', Below v.heap.size v w' → Gs w' M.1 M.2.2) := fun w' hb => (hS.om.gs.below t0).below hb
  clear ho t0 b0 z0 hHo
  refine wp_regionK (fun w' => w'.heap[w.heap.size]? = some (.cells (sC s M A T B) 49 (0, 0))) 10 (by kernel_rfl) ?_
  refine wpAnyK_take (i := 0) (v := sV s M A T B) rfl (by kernel_rfl) (by kernel_rfl) (by kernel_rfl) (fun _ _ _ h => h) (by kernel_rfl) (by kernel_rfl) (by decide) (yields_row (by rfl) 49 _ rfl (w.heap.size) rfl 49 (sC s M A T B) (0, 0) _ (fun _ h => h) Try.underlying49 rfl size_scr) (bP) ?_
  try simp only [Act.put, List.getElem_toArray, List.getElem_cons_zero, List.setIfInBounds_toArray, List.set_cons_zero, List.set_cons_succ]
  refine wpAnyK_take (i := 1) (v := sV s M A T B) rfl (by kernel_rfl) (by kernel_rfl) (by kernel_rfl) (fun _ _ _ h => h) (by kernel_rfl) (by kernel_rfl) (by decide) (yields_row (by rfl) 49 _ rfl (w.heap.size) rfl 49 (sC s M A T B) (0, 0) _ (fun _ h => h) Try.underlying49 rfl size_scr) (bP) ?_
  try simp only [Act.put, List.getElem_toArray, List.getElem_cons_succ, List.getElem_cons_zero, List.setIfInBounds_toArray, List.set_cons_zero, List.set_cons_succ]
  refine wpAnyK_free (i := 3) (v := .pointer (some ⟨w.heap.size, 17, none⟩)) rfl (by kernel_rfl) (by kernel_rfl) (by kernel_rfl) (fun _ _ _ h => h) (by decide) (Or.inl ⟨by rfl, (by intro w' _; go_simp; try rfl)⟩) (fun _ => bP) ?_
  try simp only [Act.put, List.getElem_toArray, List.getElem_cons_succ, List.getElem_cons_zero, List.setIfInBounds_toArray, List.set_cons_zero, List.set_cons_succ]
  refine wpAnyK_take (i := 4) (v := .int .i64 s.top) rfl (by kernel_rfl) (by kernel_rfl) (by kernel_rfl) (fun _ _ _ h => h) (by kernel_rfl) (by kernel_rfl) (by decide) (Or.inl ⟨by rfl, (by intro w' hSw; have q : ∀ i, w'.cell? ⟨w.heap.size, i, none⟩ = _ := fun i => cell_of_row w' _ i _ _ (0, 0) hSw; go_simp; try first | rfl | simp [q])⟩) (bP) ?_
  try simp only [Act.put, List.getElem_toArray, List.getElem_cons_succ, List.getElem_cons_zero, List.setIfInBounds_toArray, List.set_cons_zero, List.set_cons_succ]
  refine wpAnyK_free (i := 5) (v := .pointer (some ⟨w.heap.size, 18, none⟩)) rfl (by kernel_rfl) (by kernel_rfl) (by kernel_rfl) (fun _ _ _ h => h) (by decide) (Or.inl ⟨by rfl, (by intro w' _; go_simp; try rfl)⟩) (fun _ => bP) ?_
  try simp only [Act.put, List.getElem_toArray, List.getElem_cons_succ, List.getElem_cons_zero, List.setIfInBounds_toArray, List.set_cons_zero, List.set_cons_succ]
  refine wpAnyK_take (i := 6) (v := .int .i64 s.bot) rfl (by kernel_rfl) (by kernel_rfl) (by kernel_rfl) (fun _ _ _ h => h) (by kernel_rfl) (by kernel_rfl) (by decide) (Or.inl ⟨by rfl, (by intro w' hSw; have q : ∀ i, w'.cell? ⟨w.heap.size, i, none⟩ = _ := fun i => cell_of_row w' _ i _ _ (0, 0) hSw; go_simp; try first | rfl | simp [q])⟩) (bP) ?_
  try simp only [Act.put, List.getElem_toArray, List.getElem_cons_succ, List.getElem_cons_zero, List.setIfInBounds_toArray, List.set_cons_zero, List.set_cons_succ]
  refine wpAnyK_free (i := 7) (v := .int .i64 1) rfl (by kernel_rfl) (by kernel_rfl) (by kernel_rfl) (fun _ _ _ h => h) (by decide) (Or.inl ⟨by rfl, (by intro w' _; go_simp; try rfl)⟩) (fun _ => bP) ?_
  try simp only [Act.put, List.getElem_toArray, List.getElem_cons_succ, List.getElem_cons_zero, List.setIfInBounds_toArray, List.set_cons_zero, List.set_cons_succ]
  refine wpAnyK_ready (rs := [2]) (by kernel_rfl) (by simp) ?_
  refine AllReadyK.cons rfl (fun K hK => ?_) AllReadyK.nil
  go_simp
  refine (l09Shown_any s M A T B _).mono ?_
  rintro e w4 ⟨he, hb4⟩
  rw [if_neg (by rw [HO.out]; simp)] at he
  subst he
  have tP0 := tP.drew
  have hb4' : Below v.heap.size v w4 := (Below.refl _ _).drew.trans hb4
  have t4 := tP.drew.trans (hb4.mono tP.size)
  have bP4 := (hb4.block _ (Array.getElem?_eq_some_iff.1 bP).1).trans bP
  have zO4 := (hb4.block _ (Array.getElem?_eq_some_iff.1 zO).1).trans zO
  refine hK.out _ _ (fun _ => bP4) ?_
  clear hK K
  try simp only [Act.put, List.getElem_toArray, List.getElem_cons_succ, List.getElem_cons_zero, List.setIfInBounds_toArray, List.set_cons_zero, List.set_cons_succ]
  refine wpAnyK_ready (rs := [8]) (by kernel_rfl) (by simp) ?_
  refine AllReadyK.cons rfl (fun K hK => ?_) AllReadyK.nil
  go_simp
  refine (HGR.out _ (HGS.out _ hb4')).mono ?_
  rintro e w5 ⟨G, gc, rfl, og5, _, _, hb5⟩
  have t5 := t4.trans (hb5.mono t4.size)
  have bP5 := (hb5.block _ (Array.getElem?_eq_some_iff.1 bP4).1).trans bP4
  have zO5 := (hb5.block _ (Array.getElem?_eq_some_iff.1 zO4).1).trans zO4
  refine hK.out _ _ (fun _ => bP5) ?_
  clear hK K
  try simp only [Act.put, List.getElem_toArray, List.getElem_cons_succ, List.getElem_cons_zero, List.setIfInBounds_toArray, List.set_cons_zero, List.set_cons_succ]
  refine wpAnyK_ready (rs := [9]) (by kernel_rfl) (by simp) ?_
  refine AllReadyK.cons rfl (fun K hK => ?_) AllReadyK.nil
  go_simp
  refine (l09Put_main s M A T B G ns.length gc ns s.mW s.mH _ rfl HO.out).mono ?_
  rintro e w6 ⟨rfl, hb6⟩
  have t6 := t5.trans (hb6.mono t5.size)
  have bP6 := (hb6.block _ (Array.getElem?_eq_some_iff.1 bP5).1).trans bP5
  have zO6 := (hb6.block _ (Array.getElem?_eq_some_iff.1 zO5).1).trans zO5
  refine hK.out _ _ (fun _ => bP6) ?_
  clear hK K
  try simp only [Act.put, List.getElem_toArray, List.getElem_cons_succ, List.getElem_cons_zero, List.setIfInBounds_toArray, List.set_cons_zero, List.set_cons_succ]
  refine wpAnyK_ready (rs := [10]) (by kernel_rfl) (by simp) ?_
  refine AllReadyK.cons rfl (fun K hK => ?_) AllReadyK.nil
  rw [if_pos (by rfl)]
  refine wp_store_blkO 49 _ _ rfl (w.heap.size + 1) (sC s (G, gc, ns) A T B) rfl rfl 49 zC zO6 size_scr rfl (sC_one _ _ _ _ _) ?_
  intro w7 B7 C7 z7
  refine hK.out _ _ (late (by kernel_rfl)) ?_
  clear hK K
  try simp only [Act.put, List.getElem_toArray, List.getElem_cons_succ, List.getElem_cons_zero]
  refine wpAnyK_done (by kernel_rfl) ?_ _
  go_wp2_with fail
  refine bodyPost_ret (results_cell_row Try.results133 _ _ (w.heap.size + 1) 49 (sC s (G, gc, ns) A T B) (0, 0) _ rfl B7 Try.underlying49 rfl size_scr) rfl ?_
  have s46 : Below v.heap.size v w6 := hb4'.trans ((hb5.mono hb4'.size).trans (hb6.mono (Nat.le_trans hb4'.size hb5.size)))
  have k7 := HWK.out.below s46 (Nat.le_refl _)
  have y5 := hb4'.size
  have yv := tP.size
  have k8 := k7.chg C7 (fun k hk hm => by have := HNB.out k hk; simp at hm; omega)
  have og7 : Gs w7 G ns := ((og5.below hb6 (Nat.le_refl _)).chg C7 (fun k hk hm => by have := (og5.ob_lt hk).1; have := (Array.getElem?_eq_some_iff.1 zO4).1; simp at hm; omega)).gs
  have ogl := fun k hk => (og5.ob_lt (k := k) hk)
  have y6 := hb6.size
  have y56 := hb5.size
  have y7 := C7.size
  refine ⟨(G, gc, ns), A, T, B, rfl, ?_, ?_, ?_, ?_, ?_⟩
  · rw [HRC.out]
    exact HHO.out
  · exact Wk.newM k8 og7 (fun k hk => by have := ogl k hk; omega)
  · exact fun k hk => (sft_putM hk).elim (fun h => .inr (by have := ogl k h; omega)) (fun h => .inl (hp.out k h))
  · exact fun k _ hk => (C7.block k (by omega) (by simp; omega)).trans (t6.block k hk)
  · exact ((HTV.out.trans (s46.mono (by omega))).trans (C7.below (fun k hk => by simp at hk; omega) (by omega)))

set_option linter.unusedVariables false
set_option maxRecDepth 100000

set_option maxHeartbeats 4000000 in
theorem l09Roll_c (s : Sc) (M A : Rw) (T : Ti) (B : Tr) (c : Cont) (lo p : Nat) (w : World) (hq : scrB s c = true) (hp : Hid (∀ k, some k ∈ sft M A T B → k < p)) (hS : So w lo M A T B) (hh : Hid (Holds M A T B c)) (hlo : lo ≤ w.heap.size) (ho : s.onA = false) (ht : s.top = 0) :
    Calls Try.prog 133 #[sV s M A T B, .int .i64 1] w (ReadPost lo p w s (rollC s (keepC s c) 1)) := by
  have t0 : Below w.heap.size w ((w.alloc (.cells (sC s M A T B) 49)).alloc (.cells zC 49)) := bel2 _ _ _
  have b0 : ((w.alloc (.cells (sC s M A T B) 49)).alloc (.cells zC 49)).heap[w.heap.size]? = some (.cells (sC s M A T B) 49 (0, 0)) := heap_alloc_of _ (heap_alloc_new _ _)
  have z0 : ((w.alloc (.cells (sC s M A T B) 49)).alloc (.cells zC 49)).heap[w.heap.size + 1]? = some (.cells zC 49 (0, 0)) := hat2 _ _ _
  have q0 : ∀ i, ((w.alloc (.cells (sC s M A T B) 49)).alloc (.cells zC 49)).cell? ⟨w.heap.size, i, none⟩ = _ := fun i => cell_of_row _ _ i _ _ (0, 0) b0
  obtain ⟨⟨u1, u2, u3, u4⟩, ⟨_, _, y1, y2⟩, ⟨v1, v2, v3'⟩, ⟨m1, m2, m3⟩⟩ := scr_nums hq
  obtain ⟨⟨d1, d2⟩, d3, d4⟩ := scr_dims hq
  obtain ⟨g1, g2, _, _, _⟩ := scr_grids hq
  obtain ⟨pp1, pp2⟩ := grid_pos g1
  obtain ⟨pp3, pp4⟩ := grid_pos g2
  have hHo := hh.out
  obtain ⟨ns, hns⟩ : ∃ ns, Hid (ns = roL c.m s.mW.toNat s.top.toNat s.bot.toNat 1) := ⟨_, Lib.hid rfl⟩
  have hR : roR s.mW s.mH c.m s.top s.bot 1 = (s.mW, s.mH, ns) := by rw [hns.out]; exact if_pos ⟨g1, v1, v3', by omega⟩
  have HGR : Hid (∀ w', Gs w' M.1 M.2.2 → Calls Try.prog 101 #[gV s.mW s.mH M.1 M.2.2.length M.2.1, .int .i64 s.top, .int .i64 s.bot, .int .i64 1] w' (GridPost w' s.mW s.mH ns)) := fun w' hg => by
    have := gridRoll_spec s.mW s.mH M.1 M.2.1 M.2.2 s.top s.bot 1 w' hg (by rw [hHo.1]; omega)
    rw [hHo.1, hR] at this
    rw [hHo.1]
    exact this
  obtain ⟨mA, mc, ms⟩ := M
  obtain ⟨bA, bc, bs⟩ := B
  obtain ⟨gm, hgm, _, _, _, _⟩ := hS.om.fill (by rw [hHo.1]; exact pp1)
  simp only at hgm
  subst hgm
  obtain ⟨a, ha⟩ : ∃ a : Nat, s.W = (a : Int) := ⟨s.W.toNat, by omega⟩
  have hle : s.mW * 1 ≤ s.mW * s.mH := Int.mul_le_mul_of_nonneg_left (by omega) (by omega)
  obtain ⟨_, _, _, hml⟩ := grid_len g1
  have hms : ms = c.m := hHo.1
  have hbs : rcs bs = c.b := hHo.2.2.2
  have hal : a ≤ ms.length := by rw [hms]; omega
  have hbl0 : bs.length = c.b.length := by rw [← hbs]; simp [rcs]
  have hbl : (bs.length : Int) ≤ s.limit := by omega
  have HKP : Hid (∀ v', Below w.heap.size w v' → Calls Try.prog 144 #[sV s (some ⟨gm, 0, none⟩, mc, ms) A T (bA, bc, bs), .int .i64 0] v' (KeepPost v' s (some ⟨gm, 0, none⟩, mc, ms) A T bA bs (ms.take a))) := fun v' hb => by
    have hS' := hS.below hb (Nat.le_refl _)
    exact l09Keep_any s a gm mc ms A T bA bc bs lo v' ha (by omega) (by omega) hal hS.om.cap (by rw [hms]; omega) hS'.om.gs hS'.ol hS'.rows (by omega) (Nat.le_trans hlo hb.size) hbl
  have HO := Lib.hid ho
  have ht' : (s.top == 0) = true := by simpa using ht
  have ew : IntKind.i64.wrap (s.bot - s.top) = s.bot - s.top := by rw [IntKind.wrap_i64]; omega
  have ew0 : ¬ s.bot - s.top < 0 := by omega
  have HHO0 := Lib.hid hHo
  have HT := Lib.hid ht
  have HA := Lib.hid ha
  clear hle hml hms hal hbl0 hbl hbs u1 u2 u3 u4 g1 g2 pp1 pp2 pp3 pp4 m1 m2 m3 d1 d2 d3 d4 y1 y2 ha hHo hR ht
  go_enter Try.func133, Try.ntmps133
  go_wp2_with fail
  refine wp_loop_rounds 2 ?_
  rw [rounds_succ]
  go_wp2_with (first | (refine wpList_load_row rfl 49 _ rfl (w.heap.size) rfl 49 (sC s (some ⟨gm, 0, none⟩, mc, ms) A T (bA, bc, bs)) (0, 0) _ b0 Try.underlying49 rfl size_scr ?_))
  refine (HKP.out _ t0).mono ?_
  rintro e w1 ⟨⟨bA', bc', bs'⟩, rfl, hk1, rB1, mem1, lt1, k1⟩
  have nP : some w.heap.size ∉ [ob bA] := fun hm => by have := (hS.ol.ob_lt (List.mem_singleton.1 hm).symm).2; omega
  have nZ : some (w.heap.size + 1) ∉ [ob bA] := fun hm => by have := (hS.ol.ob_lt (List.mem_singleton.1 hm).symm).2; omega
  have b1 := (keep_chg k1 b0 nP).1
  have z1 := (keep_chg k1 z0 nZ).1
  have x1 := k1.size
  have x0 := t0.size
  go_wp2_with (first | (refine wp_store_blk rfl 49 _ _ rfl (w.heap.size) (sC s (some ⟨gm, 0, none⟩, mc, ms) A T (bA', bc', bs')) rfl rfl 49 (sC s (some ⟨gm, 0, none⟩, mc, ms) A T (bA, bc, bs)) b1 size_scr rfl (sC_one _ _ _ _ _) ?_; intro v bP kP zP))
  rw [rounds_succ]
  go_wp2_with fail
  have nv : ∀ k, some k ∈ [some w.heap.size] → k = w.heap.size := fun k hk => by simpa using hk
  have zO := (keep_chg kP z1 (by intro hm; simp at hm)).1
  have hlx := hlo
  have xP := kP.size
  have tP : Below lo w v := ((t0.mono hlo).trans (k1.below (fun k hk => (hS.ol.ob_lt (List.mem_singleton.1 hk).symm).1) (by omega))).trans (kP.below (fun k hk => by have := nv k hk; omega) (by omega))
  obtain ⟨⟨_, _, p3, _⟩, ⟨_, p6, _⟩, ⟨p8, _⟩, _⟩ := hS.pairs
  have gsM : Gs v (some ⟨gm, 0, none⟩) ms := ((hS.om.gs.below t0).chg k1 (nm2 p3)).chg kP (fun k hk hm => by have := (hS.om.ob_lt hk).2; have := nv k hm; omega)
  have gsA : Gs v A.1 A.2.2 := ((hS.oa.gs.below t0).chg k1 (nm2 p6)).chg kP (fun k hk hm => by have := (hS.oa.ob_lt hk).2; have := nv k hm; omega)
  have csT : Cs v T.1 (T.2.2.map I) := ((hS.ot.cs.below t0).chg k1 (nm2 p8)).chg kP (fun k hk hm => by have := (hS.ot.ob_lt hk).2; have := nv k hm; omega)
  have hx0 : ((w.alloc (.cells (sC s (some ⟨gm, 0, none⟩, mc, ms) A T (bA, bc, bs)) 49)).alloc (.cells zC 49)).heap.size = w.heap.size + 2 := ale2 _ _ _
  have memB : ∀ k, some k ∈ ob bA' :: ft bs' → (lo ≤ k ∧ k < w.heap.size) ∨ w.heap.size + 2 ≤ k := fun k hk => by
    rcases mem1 k hk with h | h
    · refine .inl (hS.lt ?_)
      exact List.mem_cons_of_mem _ (List.mem_cons_of_mem _ (List.mem_cons_of_mem _ h))
    · exact .inr (by omega)
  have rsB : Rs v bA' bs' := rB1.chg kP (fun k hk hm => by have := memB k hk; have := nv k hm; omega)
  have HWK : Hid (Wk v lo (some ⟨gm, 0, none⟩, mc, ms) A T (bA', bc', bs')) := ⟨⟨gsM, gsA, csT, rsB⟩, fun k hk => by
    rcases List.mem_cons.1 hk with hk | hk
    · have := hS.om.ob_lt hk.symm; omega
    · rcases List.mem_cons.1 hk with hk | hk
      · have := hS.oa.ob_lt hk.symm; omega
      · rcases List.mem_cons.1 hk with hk | hk
        · have := hS.ot.ob_lt hk.symm; omega
        · have := memB k hk; have := lt1 k hk; omega⟩
  have HNB : Hid (∀ k, some k ∈ sft (some ⟨gm, 0, none⟩, mc, ms) A T (bA', bc', bs') → k ≠ w.heap.size + 1) := fun k hk => by
    rcases List.mem_cons.1 hk with hk | hk
    · have := hS.om.ob_lt hk.symm; omega
    · rcases List.mem_cons.1 hk with hk | hk
      · have := hS.oa.ob_lt hk.symm; omega
      · rcases List.mem_cons.1 hk with hk | hk
        · have := hS.ot.ob_lt hk.symm; omega
        · have := memB k hk; omega
  have HN2 : Hid (∀ k, some k ∈ sft (some ⟨gm, 0, none⟩, mc, ms) A T (bA', bc', bs') → k < p ∨ w.heap.size ≤ k) := fun k hk => by
    rcases List.mem_cons.1 hk with hk | hk
    · exact .inl (hp.out k (List.mem_cons.2 (.inl hk)))
    · rcases List.mem_cons.1 hk with hk | hk
      · exact .inl (hp.out k (List.mem_cons.2 (.inr (List.mem_cons.2 (.inl hk)))))
      · rcases List.mem_cons.1 hk with hk | hk
        · exact .inl (hp.out k (List.mem_cons_of_mem _ (List.mem_cons_of_mem _ (List.mem_cons.2 (.inl hk)))))
        · rcases mem1 k hk with h | h
          · exact .inl (hp.out k (List.mem_cons_of_mem _ (List.mem_cons_of_mem _ (List.mem_cons_of_mem _ h))))
          · exact .inr (by omega)
  have HPV : Hid (∀ k, p ≤ k → k < w.heap.size → v.heap[k]? = w.heap[k]?) := fun k h1 h2 => ((kP.block k (by omega) (fun hm => by have := nv k hm; omega)).trans (k1.block k (by omega) (fun hm => by have := hp.out k (List.mem_cons_of_mem _ (List.mem_cons_of_mem _ (List.mem_cons_of_mem _ (List.mem_cons.2 (.inl (List.mem_singleton.1 hm)))))); omega))).trans (t0.block k h2)
  have HGS : Hid (∀ w', Below v.heap.size v w' → Gs w' (some ⟨gm, 0, none⟩) ms) := fun w' hb => gsM.below hb
  have HTV := Lib.hid tP
  have hHo := HHO0.out
  have HRC : Hid (rollC s (keepC s c) 1 = { c with m := ns, b := keepL c.b (c.m.take s.W.toNat) s.limit }) := by
    show _ = _
    rw [show keepC s c = { c with b := keepL c.b (c.m.take s.W.toNat) s.limit } from if_pos ⟨ho, HT.out⟩, hns.out]
    exact if_neg (by rw [ho]; simp)
  have HHO : Hid (Hid (Holds (none, 0, ns) A T (bA', bc', bs') { c with m := ns, b := keepL c.b (c.m.take s.W.toNat) s.limit })) := ⟨rfl, hHo.2.1, hHo.2.2.1, by
    have h := hk1.out
    have e1 : ms = c.m := hHo.1
    have e2 : rcs bs = c.b := hHo.2.2.2
    rw [e1, e2] at h
    rw [h, HA.out]
    simp⟩
  clear ho ht' ew ew0 v1 v2 v3' b0 z0 b1 z1 t0 q0 hHo gsM gsA csT rsB memB nv p3 p6 p8 hx0 mem1 lt1 rB1 nP nZ x0 x1 xP
  refine wp_regionK (fun w' => w'.heap[w.heap.size]? = some (.cells (sC s (some ⟨gm, 0, none⟩, mc, ms) A T (bA', bc', bs')) 49 (0, 0))) 10 (by kernel_rfl) ?_
  refine wpAnyK_take (i := 0) (v := sV s (some ⟨gm, 0, none⟩, mc, ms) A T (bA', bc', bs')) rfl (by kernel_rfl) (by kernel_rfl) (by kernel_rfl) (fun _ _ _ h => h) (by kernel_rfl) (by kernel_rfl) (by decide) (yields_row (by rfl) 49 _ rfl (w.heap.size) rfl 49 (sC s (some ⟨gm, 0, none⟩, mc, ms) A T (bA', bc', bs')) (0, 0) _ (fun _ h => h) Try.underlying49 rfl size_scr) (bP) ?_
  try simp only [Act.put, List.getElem_toArray, List.getElem_cons_zero, List.setIfInBounds_toArray, List.set_cons_zero, List.set_cons_succ]
  refine wpAnyK_take (i := 1) (v := sV s (some ⟨gm, 0, none⟩, mc, ms) A T (bA', bc', bs')) rfl (by kernel_rfl) (by kernel_rfl) (by kernel_rfl) (fun _ _ _ h => h) (by kernel_rfl) (by kernel_rfl) (by decide) (yields_row (by rfl) 49 _ rfl (w.heap.size) rfl 49 (sC s (some ⟨gm, 0, none⟩, mc, ms) A T (bA', bc', bs')) (0, 0) _ (fun _ h => h) Try.underlying49 rfl size_scr) (bP) ?_
  try simp only [Act.put, List.getElem_toArray, List.getElem_cons_succ, List.getElem_cons_zero, List.setIfInBounds_toArray, List.set_cons_zero, List.set_cons_succ]
  refine wpAnyK_free (i := 3) (v := .pointer (some ⟨w.heap.size, 17, none⟩)) rfl (by kernel_rfl) (by kernel_rfl) (by kernel_rfl) (fun _ _ _ h => h) (by decide) (Or.inl ⟨by rfl, (by intro w' _; go_simp; try rfl)⟩) (fun _ => bP) ?_
  try simp only [Act.put, List.getElem_toArray, List.getElem_cons_succ, List.getElem_cons_zero, List.setIfInBounds_toArray, List.set_cons_zero, List.set_cons_succ]
  refine wpAnyK_take (i := 4) (v := .int .i64 s.top) rfl (by kernel_rfl) (by kernel_rfl) (by kernel_rfl) (fun _ _ _ h => h) (by kernel_rfl) (by kernel_rfl) (by decide) (Or.inl ⟨by rfl, (by intro w' hSw; have q : ∀ i, w'.cell? ⟨w.heap.size, i, none⟩ = _ := fun i => cell_of_row w' _ i _ _ (0, 0) hSw; go_simp; try first | rfl | simp [q])⟩) (bP) ?_
  try simp only [Act.put, List.getElem_toArray, List.getElem_cons_succ, List.getElem_cons_zero, List.setIfInBounds_toArray, List.set_cons_zero, List.set_cons_succ]
  refine wpAnyK_free (i := 5) (v := .pointer (some ⟨w.heap.size, 18, none⟩)) rfl (by kernel_rfl) (by kernel_rfl) (by kernel_rfl) (fun _ _ _ h => h) (by decide) (Or.inl ⟨by rfl, (by intro w' _; go_simp; try rfl)⟩) (fun _ => bP) ?_
  try simp only [Act.put, List.getElem_toArray, List.getElem_cons_succ, List.getElem_cons_zero, List.setIfInBounds_toArray, List.set_cons_zero, List.set_cons_succ]
  refine wpAnyK_take (i := 6) (v := .int .i64 s.bot) rfl (by kernel_rfl) (by kernel_rfl) (by kernel_rfl) (fun _ _ _ h => h) (by kernel_rfl) (by kernel_rfl) (by decide) (Or.inl ⟨by rfl, (by intro w' hSw; have q : ∀ i, w'.cell? ⟨w.heap.size, i, none⟩ = _ := fun i => cell_of_row w' _ i _ _ (0, 0) hSw; go_simp; try first | rfl | simp [q])⟩) (bP) ?_
  try simp only [Act.put, List.getElem_toArray, List.getElem_cons_succ, List.getElem_cons_zero, List.setIfInBounds_toArray, List.set_cons_zero, List.set_cons_succ]
  refine wpAnyK_free (i := 7) (v := .int .i64 1) rfl (by kernel_rfl) (by kernel_rfl) (by kernel_rfl) (fun _ _ _ h => h) (by decide) (Or.inl ⟨by rfl, (by intro w' _; go_simp; try rfl)⟩) (fun _ => bP) ?_
  try simp only [Act.put, List.getElem_toArray, List.getElem_cons_succ, List.getElem_cons_zero, List.setIfInBounds_toArray, List.set_cons_zero, List.set_cons_succ]
  refine wpAnyK_ready (rs := [2]) (by kernel_rfl) (by simp) ?_
  refine AllReadyK.cons rfl (fun K hK => ?_) AllReadyK.nil
  go_simp
  refine (l09Shown_any s (some ⟨gm, 0, none⟩, mc, ms) A T (bA', bc', bs') _).mono ?_
  rintro e w4 ⟨he, hb4⟩
  rw [if_neg (by rw [HO.out]; simp)] at he
  subst he
  have tP0 := tP.drew
  have hb4' : Below v.heap.size v w4 := (Below.refl _ _).drew.trans hb4
  have t4 := tP.drew.trans (hb4.mono (Nat.le_trans hlx tP.size))
  have bP4 := (hb4.block _ (Array.getElem?_eq_some_iff.1 bP).1).trans bP
  have zO4 := (hb4.block _ (Array.getElem?_eq_some_iff.1 zO).1).trans zO
  refine hK.out _ _ (fun _ => bP4) ?_
  clear hK K
  try simp only []
  refine wpAnyK_ready (rs := [8]) (by kernel_rfl) (by simp) ?_
  refine AllReadyK.cons rfl (fun K hK => ?_) AllReadyK.nil
  go_simp
  refine (HGR.out _ (HGS.out _ hb4')).mono ?_
  rintro e w5 ⟨G, gc, rfl, og5, _, _, hb5⟩
  have t5 := t4.trans (hb5.mono (Nat.le_trans hlx t4.size))
  have bP5 := (hb5.block _ (Array.getElem?_eq_some_iff.1 bP4).1).trans bP4
  have zO5 := (hb5.block _ (Array.getElem?_eq_some_iff.1 zO4).1).trans zO4
  refine hK.out _ _ (fun _ => bP5) ?_
  clear hK K
  try simp only [Act.put, List.getElem_toArray, List.getElem_cons_succ, List.getElem_cons_zero, List.setIfInBounds_toArray, List.set_cons_zero, List.set_cons_succ]
  refine wpAnyK_ready (rs := [9]) (by kernel_rfl) (by simp) ?_
  refine AllReadyK.cons rfl (fun K hK => ?_) AllReadyK.nil
  go_simp
  refine (l09Put_main s (some ⟨gm, 0, none⟩, mc, ms) A T (bA', bc', bs') G ns.length gc ns s.mW s.mH _ rfl HO.out).mono ?_
  rintro e w6 ⟨rfl, hb6⟩
  have t6 := t5.trans (hb6.mono (Nat.le_trans hlx t5.size))
  have bP6 := (hb6.block _ (Array.getElem?_eq_some_iff.1 bP5).1).trans bP5
  have zO6 := (hb6.block _ (Array.getElem?_eq_some_iff.1 zO5).1).trans zO5
  refine hK.out _ _ (fun _ => bP6) ?_
  clear hK K
  try simp only [Act.put, List.getElem_toArray, List.getElem_cons_succ, List.getElem_cons_zero, List.setIfInBounds_toArray, List.set_cons_zero, List.set_cons_succ]
  refine wpAnyK_ready (rs := [10]) (by kernel_rfl) (by simp) ?_
  refine AllReadyK.cons rfl (fun K hK => ?_) AllReadyK.nil
  rw [if_pos (by rfl)]
  refine wp_store_blkO 49 _ _ rfl (w.heap.size + 1) (sC s (G, gc, ns) A T (bA', bc', bs')) rfl rfl 49 zC zO6 size_scr rfl (sC_one _ _ _ _ _) ?_
  intro w7 B7 C7 z7
  refine hK.out _ _ (late (by kernel_rfl)) ?_
  clear hK K
  try simp only [Act.put, List.getElem_toArray, List.getElem_cons_succ, List.getElem_cons_zero]
  refine wpAnyK_done (by kernel_rfl) ?_ _
  go_wp2_with fail
  refine bodyPost_ret (results_cell_row Try.results133 _ _ (w.heap.size + 1) 49 (sC s (G, gc, ns) A T (bA', bc', bs')) (0, 0) _ rfl B7 Try.underlying49 rfl size_scr) rfl ?_
  have s46 : Below v.heap.size v w6 := hb4'.trans ((hb5.mono hb4'.size).trans (hb6.mono (Nat.le_trans hb4'.size hb5.size)))
  have k7 := HWK.out.below s46 (Nat.le_refl _)
  have y5 := hb4'.size
  have yv := tP.size
  have k8 := k7.chg C7 (fun k hk hm => by have := HNB.out k hk; simp at hm; omega)
  have og7 : Gs w7 G ns := ((og5.below hb6 (Nat.le_refl _)).chg C7 (fun k hk hm => by have := (og5.ob_lt hk).1; have := (Array.getElem?_eq_some_iff.1 zO4).1; simp at hm; omega)).gs
  have ogl := fun k hk => (og5.ob_lt (k := k) hk)
  have y6 := hb6.size
  have y56 := hb5.size
  have y7 := C7.size
  refine ⟨(G, gc, ns), A, T, (bA', bc', bs'), rfl, ?_, ?_, ?_, ?_, ?_⟩
  · rw [HRC.out]
    exact HHO.out
  · exact Wk.newM k8 og7 (fun k hk => by have := ogl k hk; omega)
  · exact fun k hk => (sft_putM hk).elim (fun h => .inr (by have := ogl k h; omega)) (HN2.out k)
  · exact fun k h1 hk => ((C7.block k (by omega) (by simp; omega)).trans (s46.block k (by omega))).trans (HPV.out k h1 hk)
  · exact ((HTV.out.trans (s46.mono (by omega))).trans (C7.below (fun k hk => by simp at hk; omega) (by omega)))

set_option linter.unusedVariables false
set_option maxRecDepth 100000

theorem l09Roll_any (s : Sc) (M A : Rw) (T : Ti) (B : Tr) (c : Cont) (lo p : Nat) (w : World) (hq : scrB s c = true) (hp : Hid (∀ k, some k ∈ sft M A T B → k < p)) (hS : So w lo M A T B) (hh : Hid (Holds M A T B c)) (hlo : lo ≤ w.heap.size) :
    Calls Try.prog 133 #[sV s M A T B, .int .i64 1] w (ReadPost lo p w s (rollC s (keepC s c) 1)) := by
  rcases Bool.eq_false_or_eq_true s.onA with ho | ho
  · exact l09Roll_a s M A T B c lo p w hq hp hS hh hlo ho
  · by_cases ht : s.top = 0
    · exact l09Roll_c s M A T B c lo p w hq hp hS hh hlo ho ht
    · exact l09Roll_b s M A T B c lo p w hq hp hS hh hlo ho ht

set_option linter.unusedVariables false
set_option maxRecDepth 100000

/-- One cell of a block is written: the block is known behind it, all else is as it was. -/
theorem wp_store_c {ops : Array Oper} {rest : List Oper} {o : Oper} {a : Act} {w : World} {Q : Exit → Act → World → Prop} (hgd : o.guard = none) (ty : TypeId) (x y : Operand) (ho : o.op = .store ty x y)
    (g i : Nat) (v : Value) (hx : a.eval x = .pointer (some ⟨g, i, none⟩)) (hy : a.eval y = v) (h1 : v.oneCell' = true) (cs : Array Value) (t : TypeId) (hg : w.heap[g]? = some (.cells cs t (0, 0))) (hlt : i < cs.size) (hi : (Try.prog.info? ty).map (·.size) = some 1)
    (h : ∀ w', w'.heap[g]? = some (.cells (cs.setIfInBounds i v) t (0, 0)) → Chg [some g] w w' → w'.heap.size = w.heap.size → wpList Try.prog ops Q rest (a.put o.dst undef) w') : wpList Try.prog ops Q (o :: rest) a w :=
  wpList_plain hgd fun _ hK => by
    have hc : v.cells = #[v] := by cases v <;> first | rfl | cases h1
    have hr : (storeVar ty ⟨g, i, none⟩ v).run Try.prog w = .ok () (w.setCell ⟨g, i, none⟩ v) := by
      have q : w.cell? ⟨g, i, none⟩ = some cs[i] := (cell_of_row w g i cs t (0, 0) hg).trans (Array.getElem?_eq_getElem hlt)
      have f : w.frozen? ⟨g, i, none⟩ = false := frz hg i
      cases hq : (Try.prog.info? ty) with
      | none => simp [hq] at hi
      | some j =>
        have hs : j.size = 1 := by simpa [hq] using hi
        simp [storeVar, sizeOf, typeInfo, hq, hc, hs, storeCells, show (⟨g, i, none⟩ : Addr).add 0 = ⟨g, i, none⟩ from by simp [Addr.add], run_store Try.prog w ⟨g, i, none⟩ v _ h1, q, f]
    unfold Oper.wp execOp
    simp only [ho, hx, hy, Instr.storeAt, Instr.sureAddr, Sem.run_bind, Sem.run_pure, Result.andThen_ok, hr]
    exact hK _ _ (h _ (heap_setCell_same (i := i) v hg) (chg1 _ _ _ _) (by simp))
theorem set_wrap (s : Sc) (M A : Rw) (T : Ti) (B : Tr) (x : Bool) : (sC s M A T B).setIfInBounds 11 (.bool x) = sC { s with wrap := x } M A T B := by
  unfold sC
  simp only [List.setIfInBounds_toArray, List.set_cons_succ, List.set_cons_zero]
theorem set_y (s : Sc) (M A : Rw) (T : Ti) (B : Tr) (x : Int) : (sC s M A T B).setIfInBounds 10 (.int .i64 x) = sC { s with Y := x } M A T B := by
  unfold sC
  simp only [List.setIfInBounds_toArray, List.set_cons_succ, List.set_cons_zero]
set_option maxHeartbeats 4000000 in
theorem l09Down_a (s : Sc) (M A : Rw) (T : Ti) (B : Tr) (c : Cont) (lo p : Nat) (w : World) (hq : scrB s c = true) (hp : Hid (∀ k, some k ∈ sft M A T B → k < p)) (hpw : p ≤ w.heap.size) (hS : So w lo M A T B) (hh : Hid (Holds M A T B c)) (hlo : lo ≤ w.heap.size) (h1 : s.Y = s.bot) :
    Calls Try.prog 104 #[sV s M A T B] w (ReadPost lo p w (downS s) (downC s c)) := by
  have t0 : Below w.heap.size w ((w.alloc (.cells (sC s M A T B) 49)).alloc (.cells zC 49)) := bel2 _ _ _
  have b0 : ((w.alloc (.cells (sC s M A T B) 49)).alloc (.cells zC 49)).heap[w.heap.size]? = some (.cells (sC s M A T B) 49 (0, 0)) := heap_alloc_of _ (heap_alloc_new _ _)
  have z0 : ((w.alloc (.cells (sC s M A T B) 49)).alloc (.cells zC 49)).heap[w.heap.size + 1]? = some (.cells zC 49 (0, 0)) := hat2 _ _ _
  have s0 : Hid (((w.alloc (.cells (sC s M A T B) 49)).alloc (.cells zC 49)).heap.size = w.heap.size + 2) := ale2 _ _ _
  obtain ⟨-, ⟨-, -, y1, y2⟩, -, -⟩ := scr_nums hq
  obtain ⟨⟨d1, d2⟩, d3, d4⟩ := scr_dims hq
  obtain ⟨ps, hps⟩ : ∃ x, Hid (x = { s with wrap := false }) := ⟨_, Lib.hid rfl⟩
  have HNB : Hid (∀ k, some k ∈ sft M A T B → k < w.heap.size) := fun k hk => (hS.lt hk).2
  have e1 : downS s = ps := by rw [hps.out]; unfold downS; rw [if_pos h1]
  obtain ⟨rc, hrc⟩ : ∃ x, Hid (x = rollC s (keepC s c) 1) := ⟨_, Lib.hid rfl⟩
  have e2 : downC s c = rc := by rw [hrc.out]; exact if_pos h1
  rw [e1, e2]
  have HR : Hid (∀ (v : World), So v lo M A T B → lo ≤ v.heap.size → Calls Try.prog 133 #[sV ps M A T B, .int .i64 1] v (ReadPost lo p v ps rc)) := fun v hv hl => by
    have := l09Roll_any ps M A T B c lo p v (by rw [hps.out]; exact scr_wrap hq) hp hv hh hl
    have e : rollC ps (keepC ps c) 1 = rc := by rw [hrc.out, hps.out]; rfl
    rwa [e] at this
  have h1' : (ps.Y == ps.bot) = true := by rw [hps.out]; simpa using h1
  clear e1 e2 h1 y1 y2 d1 d2 d3 d4
  go_enter Try.func104, Try.ntmps104
  go_wp2_with (first | (refine wp_store_c rfl _ _ _ rfl w.heap.size 11 (.bool false) rfl rfl rfl (sC s M A T B) 49 b0 (show 11 < 31 by omega) (by kernel_rfl) ?_; intro w3 b3' k3 s3; have b3 : w3.heap[w.heap.size]? = some (.cells (sC ps M A T B) 49 (0, 0)) := (by rw [b3', hps.out, set_wrap s M A T B false]); have z3 := (keep_chg k3 z0 (by intro hm; simp at hm)).1; have q3 : ∀ i, w3.cell? ⟨w.heap.size, i, none⟩ = _ := (fun i => cell_of_row w3 _ i _ _ (0, 0) b3); have r3 : ∀ i, w3.frozen? ⟨w.heap.size, i, none⟩ = false := (fun i => by simp [World.frozen?, b3]); have S3 := Lib.hid (s3.trans s0.out); have S30 := Lib.hid s3; clear b3' s3) | (refine wpList_load_row rfl 49 _ rfl (w.heap.size) rfl 49 (sC ps M A T B) (0, 0) _ b3 Try.underlying49 rfl size_scr ?_))
  have hS3 := (hS.below t0 (Nat.le_refl _)).chg k3 (fun k hk hm => by have := HNB.out k hk; simp at hm; omega)
  have s3 := S3.out
  refine (HR.out w3 hS3 (by omega)).mono ?_
  rintro e w4 ⟨M4, A4, T4, B4, rfl, hh4, ho4, hn4, hv4, hb4⟩
  have z4 := (hv4 _ (by omega) (by omega)).trans z3
  have x4 := hb4.size
  have t4 : Below lo w w4 := ((t0.mono hlo).trans (k3.below (fun k hk => by simp at hk; omega) (by have := S30.out; have := S3.out; omega))).trans hb4
  clear q3 r3 b0 z0
  go_wp2_with (first | (refine wp_store_blk rfl 49 _ _ rfl (w.heap.size + 1) (sC ps M4 A4 T4 B4) rfl rfl 49 zC z4 size_scr rfl (sC_one _ _ _ _ _) ?_; intro w7 B7 C7 z7))
  refine bodyPost_ret (results_cell_row Try.results104 _ _ (w.heap.size + 1) 49 (sC ps M4 A4 T4 B4) (0, 0) _ rfl B7 Try.underlying49 rfl size_scr) rfl ?_
  exact ⟨M4, A4, T4, B4, rfl, hh4, ho4.chg C7 (fun k hk hm => by have := hn4 k hk; simp at hm; omega), fun k hk => by have := hn4 k hk; omega, fun k h1 hk => ((C7.block k (by omega) (by simp; omega)).trans (hv4 k h1 (by omega))).trans ((k3.block k (by have := S30.out; have := S3.out; omega) (by simp; omega)).trans (t0.block k hk)), t4.trans (C7.below (fun k hk => by simp at hk; omega) (by omega))⟩
set_option maxHeartbeats 4000000 in
theorem l09Down_b (s : Sc) (M A : Rw) (T : Ti) (B : Tr) (c : Cont) (lo p : Nat) (w : World) (hq : scrB s c = true) (hp : Hid (∀ k, some k ∈ sft M A T B → k < p)) (hpw : p ≤ w.heap.size) (hS : So w lo M A T B) (hh : Hid (Holds M A T B c)) (hlo : lo ≤ w.heap.size) (h1 : s.Y ≠ s.bot) (h2 : s.Y < s.H - 1) :
    Calls Try.prog 104 #[sV s M A T B] w (ReadPost lo p w (downS s) (downC s c)) := by
  have t0 : Below w.heap.size w ((w.alloc (.cells (sC s M A T B) 49)).alloc (.cells zC 49)) := bel2 _ _ _
  have b0 : ((w.alloc (.cells (sC s M A T B) 49)).alloc (.cells zC 49)).heap[w.heap.size]? = some (.cells (sC s M A T B) 49 (0, 0)) := heap_alloc_of _ (heap_alloc_new _ _)
  have z0 : ((w.alloc (.cells (sC s M A T B) 49)).alloc (.cells zC 49)).heap[w.heap.size + 1]? = some (.cells zC 49 (0, 0)) := hat2 _ _ _
  have s0 : Hid (((w.alloc (.cells (sC s M A T B) 49)).alloc (.cells zC 49)).heap.size = w.heap.size + 2) := ale2 _ _ _
  obtain ⟨-, ⟨-, -, y1, y2⟩, -, -⟩ := scr_nums hq
  obtain ⟨⟨d1, d2⟩, d3, d4⟩ := scr_dims hq
  obtain ⟨ps, hps⟩ : ∃ x, Hid (x = { s with wrap := false }) := ⟨_, Lib.hid rfl⟩
  have HNB : Hid (∀ k, some k ∈ sft M A T B → k < w.heap.size) := fun k hk => (hS.lt hk).2
  obtain ⟨rs, hrs⟩ : ∃ x, Hid (x = { ps with Y := ps.Y + 1 }) := ⟨_, Lib.hid rfl⟩
  have e1 : downS s = rs := by rw [hrs.out, hps.out]; unfold downS; rw [if_neg h1, if_pos h2]
  have e2 : downC s c = c := if_neg h1
  rw [e1, e2]
  have h1' : (ps.Y == ps.bot) = false := by rw [hps.out]; simpa using h1
  have h2' : ps.Y < ps.H - 1 := by rw [hps.out]; exact h2
  have ew1 : IntKind.i64.wrap (ps.H - 1) = ps.H - 1 := by rw [IntKind.wrap_i64, hps.out]; simp only; omega
  have ew2 : IntKind.i64.wrap (ps.Y + 1) = ps.Y + 1 := by rw [IntKind.wrap_i64, hps.out]; simp only; omega
  clear e1 e2 h1 h2 y1 y2 d1 d2 d3 d4
  go_enter Try.func104, Try.ntmps104
  go_wp2_with (first | (refine wp_store_c rfl _ _ _ rfl w.heap.size 11 (.bool false) rfl rfl rfl (sC s M A T B) 49 b0 (show 11 < 31 by omega) (by kernel_rfl) ?_; intro w3 b3' k3 s3; have b3 : w3.heap[w.heap.size]? = some (.cells (sC ps M A T B) 49 (0, 0)) := (by rw [b3', hps.out, set_wrap s M A T B false]); have z3 := (keep_chg k3 z0 (by intro hm; simp at hm)).1; have q3 : ∀ i, w3.cell? ⟨w.heap.size, i, none⟩ = _ := (fun i => cell_of_row w3 _ i _ _ (0, 0) b3); have r3 : ∀ i, w3.frozen? ⟨w.heap.size, i, none⟩ = false := (fun i => by simp [World.frozen?, b3]); have S3 := Lib.hid (s3.trans s0.out); have S30 := Lib.hid s3; clear b3' s3) | (refine wp_store_c rfl _ _ _ rfl w.heap.size 10 (.int .i64 (ps.Y + 1)) rfl (by first | rfl | (simp [Act.eval, *]; done)) rfl (sC ps M A T B) 49 b3 (show 10 < 31 by omega) (by kernel_rfl) ?_; intro w4 b4' k4 s4; have b4 : w4.heap[w.heap.size]? = some (.cells (sC rs M A T B) 49 (0, 0)) := (by rw [b4', hrs.out, set_y ps M A T B (ps.Y + 1)]); have z4 := (keep_chg k4 z3 (by intro hm; simp at hm)).1; have S4 := Lib.hid (s4.trans S3.out); clear b4' s4) | (refine wpList_load_row rfl 49 _ rfl (w.heap.size) rfl 49 (sC rs M A T B) (0, 0) _ b4 Try.underlying49 rfl size_scr ?_) | (refine wp_store_blk rfl 49 _ _ rfl (w.heap.size + 1) (sC rs M A T B) rfl rfl 49 zC z4 size_scr rfl (sC_one _ _ _ _ _) ?_; intro w7 B7 C7 z7))
  refine bodyPost_ret (results_cell_row Try.results104 _ _ (w.heap.size + 1) 49 (sC rs M A T B) (0, 0) _ rfl B7 Try.underlying49 rfl size_scr) rfl ?_
  have s3 := S3.out
  have s4 := S4.out
  have n1 : ∀ k, some k ∈ sft M A T B → some k ∉ [some w.heap.size] := fun k hk hm => by have := HNB.out k hk; simp at hm; omega
  have n2 : ∀ k, some k ∈ sft M A T B → some k ∉ [some (w.heap.size + 1)] := fun k hk hm => by have := HNB.out k hk; simp at hm; omega
  exact ⟨M, A, T, B, rfl, hh, Wk.of_so ((((hS.below t0 (Nat.le_refl _)).chg k3 n1).chg k4 n1).chg C7 n2), fun k hk => .inl (hp.out k hk), fun k h1 hk => ((C7.block k (by omega) (by simp; omega)).trans (k4.block k (by omega) (by simp; omega))).trans ((k3.block k (by have := S30.out; have := S3.out; omega) (by simp; omega)).trans (t0.block k hk)), (((t0.mono hlo).trans (k3.below (fun k hk => by simp at hk; omega) (by have := S30.out; have := S3.out; omega))).trans (k4.below (fun k hk => by simp at hk; omega) (by omega))).trans (C7.below (fun k hk => by simp at hk; omega) (by omega))⟩
set_option maxHeartbeats 4000000 in
theorem l09Down_c (s : Sc) (M A : Rw) (T : Ti) (B : Tr) (c : Cont) (lo p : Nat) (w : World) (hq : scrB s c = true) (hp : Hid (∀ k, some k ∈ sft M A T B → k < p)) (hpw : p ≤ w.heap.size) (hS : So w lo M A T B) (hh : Hid (Holds M A T B c)) (hlo : lo ≤ w.heap.size) (h1 : s.Y ≠ s.bot) (h2 : ¬ s.Y < s.H - 1) :
    Calls Try.prog 104 #[sV s M A T B] w (ReadPost lo p w (downS s) (downC s c)) := by
  have t0 : Below w.heap.size w ((w.alloc (.cells (sC s M A T B) 49)).alloc (.cells zC 49)) := bel2 _ _ _
  have b0 : ((w.alloc (.cells (sC s M A T B) 49)).alloc (.cells zC 49)).heap[w.heap.size]? = some (.cells (sC s M A T B) 49 (0, 0)) := heap_alloc_of _ (heap_alloc_new _ _)
  have z0 : ((w.alloc (.cells (sC s M A T B) 49)).alloc (.cells zC 49)).heap[w.heap.size + 1]? = some (.cells zC 49 (0, 0)) := hat2 _ _ _
  have s0 : Hid (((w.alloc (.cells (sC s M A T B) 49)).alloc (.cells zC 49)).heap.size = w.heap.size + 2) := ale2 _ _ _
  obtain ⟨-, ⟨-, -, y1, y2⟩, -, -⟩ := scr_nums hq
  obtain ⟨⟨d1, d2⟩, d3, d4⟩ := scr_dims hq
  obtain ⟨ps, hps⟩ : ∃ x, Hid (x = { s with wrap := false }) := ⟨_, Lib.hid rfl⟩
  have HNB : Hid (∀ k, some k ∈ sft M A T B → k < w.heap.size) := fun k hk => (hS.lt hk).2
  have e1 : downS s = ps := by rw [hps.out]; unfold downS; rw [if_neg h1, if_neg h2]
  have e2 : downC s c = c := if_neg h1
  rw [e1, e2]
  have h1' : (ps.Y == ps.bot) = false := by rw [hps.out]; simpa using h1
  have h2' : ¬ ps.Y < ps.H - 1 := by rw [hps.out]; exact h2
  have ew1 : IntKind.i64.wrap (ps.H - 1) = ps.H - 1 := by rw [IntKind.wrap_i64, hps.out]; simp only; omega
  clear e1 e2 h1 h2 y1 y2 d1 d2 d3 d4
  go_enter Try.func104, Try.ntmps104
  go_wp2_with (first | (refine wp_store_c rfl _ _ _ rfl w.heap.size 11 (.bool false) rfl rfl rfl (sC s M A T B) 49 b0 (show 11 < 31 by omega) (by kernel_rfl) ?_; intro w3 b3' k3 s3; have b3 : w3.heap[w.heap.size]? = some (.cells (sC ps M A T B) 49 (0, 0)) := (by rw [b3', hps.out, set_wrap s M A T B false]); have z3 := (keep_chg k3 z0 (by intro hm; simp at hm)).1; have q3 : ∀ i, w3.cell? ⟨w.heap.size, i, none⟩ = _ := (fun i => cell_of_row w3 _ i _ _ (0, 0) b3); have r3 : ∀ i, w3.frozen? ⟨w.heap.size, i, none⟩ = false := (fun i => by simp [World.frozen?, b3]); have S3 := Lib.hid (s3.trans s0.out); have S30 := Lib.hid s3; clear b3' s3) | (refine wpList_load_row rfl 49 _ rfl (w.heap.size) rfl 49 (sC ps M A T B) (0, 0) _ b3 Try.underlying49 rfl size_scr ?_) | (refine wp_store_blk rfl 49 _ _ rfl (w.heap.size + 1) (sC ps M A T B) rfl rfl 49 zC z3 size_scr rfl (sC_one _ _ _ _ _) ?_; intro w7 B7 C7 z7))
  refine bodyPost_ret (results_cell_row Try.results104 _ _ (w.heap.size + 1) 49 (sC ps M A T B) (0, 0) _ rfl B7 Try.underlying49 rfl size_scr) rfl ?_
  have s3 := S3.out
  have n1 : ∀ k, some k ∈ sft M A T B → some k ∉ [some w.heap.size] := fun k hk hm => by have := HNB.out k hk; simp at hm; omega
  have n2 : ∀ k, some k ∈ sft M A T B → some k ∉ [some (w.heap.size + 1)] := fun k hk hm => by have := HNB.out k hk; simp at hm; omega
  exact ⟨M, A, T, B, rfl, hh, Wk.of_so (((hS.below t0 (Nat.le_refl _)).chg k3 n1).chg C7 n2), fun k hk => .inl (hp.out k hk), fun k h1 hk => (C7.block k (by omega) (by simp; omega)).trans ((k3.block k (by have := S30.out; have := S3.out; omega) (by simp; omega)).trans (t0.block k hk)), ((t0.mono hlo).trans (k3.below (fun k hk => by simp at hk; omega) (by have := S30.out; have := S3.out; omega))).trans (C7.below (fun k hk => by simp at hk; omega) (by omega))⟩
theorem l09Down_any (s : Sc) (M A : Rw) (T : Ti) (B : Tr) (c : Cont) (lo p : Nat) (w : World) (hq : scrB s c = true) (hp : Hid (∀ k, some k ∈ sft M A T B → k < p)) (hpw : p ≤ w.heap.size) (hS : So w lo M A T B) (hh : Hid (Holds M A T B c)) (hlo : lo ≤ w.heap.size) :
    Calls Try.prog 104 #[sV s M A T B] w (ReadPost lo p w (downS s) (downC s c)) := by
  by_cases h1 : s.Y = s.bot
  · exact l09Down_a s M A T B c lo p w hq hp hpw hS hh hlo h1
  · by_cases h2 : s.Y < s.H - 1
    · exact l09Down_b s M A T B c lo p w hq hp hpw hS hh hlo h1 h2
    · exact l09Down_c s M A T B c lo p w hq hp hpw hS hh hlo h1 h2

set_option linter.unusedVariables false
set_option maxRecDepth 100000

theorem read_nil {w w' : World} (hb : Below w.heap.size w w') : ScrRead w sc0 cont0 (.returned (.agg zC)) w' := by
  obtain ⟨M, A, T, B, h1, h2, h3, h4⟩ := own_nil hb
  exact ⟨M, A, T, B, h1, h2, Wk.of_so h3, h4⟩
set_option maxHeartbeats 4000000 in
theorem scrDown_spec (s : Sc) (M A : Rw) (T : Ti) (B : Tr) (c : Cont) (w : World) (hr : Sr w M A T B) (hz : Sz M A T B 1048576) (hh : Hid (Holds M A T B c)) :
    Calls Try.prog 43 #[sV s M A T B] w (ScrRead w (chS s c (downS s)) (chC s c (downC s c))) := by
  have hno := Lib.hid (fun h => ch_no (s := s) (c := c) h (downS s) (downC s c))
  have hyes := Lib.hid (fun h => ch_yes (s := s) (c := c) h (downS s) (downC s c))
  obtain ⟨rs, hrs⟩ : ∃ x', Hid (x' = chS s c (downS s)) := ⟨_, Lib.hid rfl⟩
  obtain ⟨rc, hrc⟩ : ∃ x', Hid (x' = chC s c (downC s c)) := ⟨_, Lib.hid rfl⟩
  rw [← hrs.out, ← hrc.out] at hno hyes ⊢
  have t0 : Below w.heap.size w ((w.alloc (.cells (sC s M A T B) 49)).alloc (.cells zC 49)) := bel2 _ _ _
  have b0 : ((w.alloc (.cells (sC s M A T B) 49)).alloc (.cells zC 49)).heap[w.heap.size]? = some (.cells (sC s M A T B) 49 (0, 0)) := heap_alloc_of _ (heap_alloc_new _ _)
  have z0 : ((w.alloc (.cells (sC s M A T B) 49)).alloc (.cells zC 49)).heap[w.heap.size + 1]? = some (.cells zC 49 (0, 0)) := hat2 _ _ _
  go_enter Try.func43, Try.ntmps43
  go_wp2_with (first | (refine wpList_load_row rfl 49 _ rfl (w.heap.size) rfl 49 (sC s M A T B) (0, 0) _ b0 Try.underlying49 rfl size_scr ?_))
  refine (scrOk_spec s M A T B _ (hr.below t0) hz).mono ?_
  rw [hh.out.eq]
  rintro e w1 ⟨he, hb1⟩
  have b1 := (hb1.block _ (Array.getElem?_eq_some_iff.1 b0).1).trans b0
  have z1 := (hb1.block _ (Array.getElem?_eq_some_iff.1 z0).1).trans z0
  have zz1 := (Array.getElem?_eq_some_iff.1 z1).1
  have t1 := t0.trans (hb1.mono t0.size)
  clear b0 z0
  cases hq : scrB s c with
  | false =>
    obtain ⟨e1, e2⟩ := hno.out hq
    subst e1 e2
    rw [hq] at he
    subst he
    clear hq hno hyes hrs hrc
    go_wp2_with (first | (refine wp_store_blk rfl 49 _ _ rfl (w.heap.size + 1) zC rfl rfl 49 zC z1 size_scr rfl (by simp [Value.oneCell']) ?_; intro w7 B7 C7 z7))
    refine bodyPost_ret (results_cell_row Try.results43 _ _ (w.heap.size + 1) 49 zC (0, 0) _ rfl B7 Try.underlying49 rfl size_scr) rfl ?_
    exact read_nil (t1.trans (C7.below (fun k hk => by simp at hk; omega) (by omega)))
  | true =>
    obtain ⟨e1, e2⟩ := hyes.out hq
    have E1 := Lib.hid e1
    clear e1
    have E2 := Lib.hid e2
    clear e2
    have hq' : scrB s ⟨M.2.2, A.2.2, T.2.2, rcs B.2.2⟩ = true := by rw [hh.out.eq]; exact hq
    obtain ⟨⟨d1, d2⟩, d3, d4⟩ := scr_dims hq
    rw [hq] at he
    subst he
    have HQ := Lib.hid hq'
    have HQQ := Lib.hid hq
    clear hq hno hyes hrs hrc hq'
    go_wp2_with (first | (refine wpList_load_row rfl 49 _ rfl (w.heap.size) rfl 49 (sC s M A T B) (0, 0) _ b1 Try.underlying49 rfl size_scr ?_))
    refine (l09Copy_any s M A T B _ (hr.below t1) hz HQ.out).mono ?_
    rw [hh.out.eq]
    rintro e w2 ⟨M2, A2, T2, B2, rfl, hh2, ho2, hb2⟩
    have b2 := (hb2.block _ (Array.getElem?_eq_some_iff.1 b1).1).trans b1
    have z2 := (hb2.block _ (Array.getElem?_eq_some_iff.1 z1).1).trans z1
    have zz2 := (Array.getElem?_eq_some_iff.1 z2).1
    have x2 := hb2.size
    have t2 := t1.trans (hb2.mono t1.size)
    clear b1 z1
    have HE := Lib.hid E1.out
    go_wp2_with fail
    refine (l09Down_any s M2 A2 T2 B2 c w1.heap.size w2.heap.size _ HQQ.out (fun k hk => (ho2.lt hk).2) (Nat.le_refl _) ho2 hh2 (by omega)).mono ?_
    rintro e w3 ⟨M3, A3, T3, B3, rfl, hh3, ho3, hn3, hv3, hb3⟩
    have y1 := t1.size
    have y3 := hb3.size
    have z3 := (hb3.block _ (by omega)).trans z2
    clear b2 z2
    have e9 : downS s = rs := E1.out.symm
    rw [e9]
    go_wp2_with (first | (refine wp_store_blk rfl 49 _ _ rfl (w.heap.size + 1) (sC rs M3 A3 T3 B3) rfl rfl 49 zC z3 size_scr rfl (sC_one _ _ _ _ _) ?_; intro w7 B7 C7 z7))
    refine bodyPost_ret (results_cell_row Try.results43 _ _ (w.heap.size + 1) 49 (sC rs M3 A3 T3 B3) (0, 0) _ rfl B7 Try.underlying49 rfl size_scr) rfl ?_
    rw [E2.out]
    exact ⟨M3, A3, T3, B3, rfl, hh3, (ho3.chg C7 (fun k hk hm => by have := (ho3.lt hk).1; simp at hm; omega)).mono (by omega), (t2.trans (hb3.mono (by omega))).trans (C7.below (fun k hk => by simp at hk; omega) (by omega))⟩
end Go.Proofs.Ytnilgcahggmncaa
