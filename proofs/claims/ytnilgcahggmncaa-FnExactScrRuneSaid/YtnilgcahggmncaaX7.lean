/- ScrGo: both ways. -/
import Derived.Test.YtnilgcahggmncaaY2
namespace Go.Proofs.Ytnilgcahggmncaa
open Go.RowKit
set_option linter.unusedVariables false
set_option maxRecDepth 100000

theorem bel2 (w : World) (o1 o2 : Obj) : Below w.heap.size w ((w.alloc o1).alloc o2) := ((Below.refl _ _).alloc (Nat.le_refl _) _).alloc (by simp) _
theorem bel3 (w : World) (o1 o2 o3 : Obj) : Below w.heap.size w (((w.alloc o1).alloc o2).alloc o3) := (bel2 w o1 o2).alloc (by simp; omega) _
theorem bel4 (w : World) (o1 o2 o3 o4 : Obj) : Below w.heap.size w ((((w.alloc o1).alloc o2).alloc o3).alloc o4) := (bel3 w o1 o2 o3).alloc (by simp; omega) _
theorem hat2 (w : World) (o1 o2 : Obj) : ((w.alloc o1).alloc o2).heap[w.heap.size + 1]? = some o2 := heap_alloc_at _ (by simp)
theorem hat3 (w : World) (o1 o2 o3 : Obj) : (((w.alloc o1).alloc o2).alloc o3).heap[w.heap.size + 1 + 1]? = some o3 := heap_alloc_at _ (by simp)
theorem hat4 (w : World) (o1 o2 o3 o4 : Obj) : ((((w.alloc o1).alloc o2).alloc o3).alloc o4).heap[w.heap.size + 1 + 1 + 1]? = some o4 := heap_alloc_at _ (by simp)
theorem ale2 (w : World) (o1 o2 : Obj) : ((w.alloc o1).alloc o2).heap.size = w.heap.size + 2 := by simp
theorem ale3 (w : World) (o1 o2 o3 : Obj) : (((w.alloc o1).alloc o2).alloc o3).heap.size = w.heap.size + 3 := by simp
/-- A whole struct read under a guard that says yes. -/
theorem wpList_load_rowG {P : Program} {ops : Array Oper} {rest : List Oper} {o : Oper} {a : Act} {w : World} {Q : Exit → Act → World → Prop} (hw : Region.wanted o (yielded ops a.tmps) = true) (ty : TypeId) (x : Operand) (ho : o.op = .load ty x)
    (g : Nat) (hx : a.eval x = .pointer (some ⟨g, 0, none⟩)) (t : TypeId) (cs : Array Value) (fr : Nat × Nat) (d : TypeDesc) (hg : w.heap[g]? = some (.cells cs t fr))
    (hu : P.underlying ty = some d) (hd : (match d with | .struct _ | .array _ _ => true | _ => false) = true) (hi : (P.info? ty).map (·.size) = some cs.size)
    (h : wpList P ops Q rest (a.put o.dst (.agg cs)) w) : wpList P ops Q (o :: rest) a w :=
  wpList_step fun _ hK => by rw [if_pos hw]; exact wp_load_row ty x ho g hx t cs fr d hg hu hd hi (hK _ _ h)
theorem ch_tot {s : Sc} {c c2 : Cont} (h : cTot c2 ≤ 1048576) : cTot (chC s c c2) ≤ 1048576 := by
  unfold chC
  split
  · exact h
  · simp [cTot, cont0]
theorem scr_dims {s : Sc} {c : Cont} (h : scrB s c = true) : (1 ≤ s.W ∧ s.W ≤ 120) ∧ (1 ≤ s.H ∧ s.H ≤ 120) := by
  obtain ⟨e1, _, e3, _, _⟩ := scr_grids h
  obtain ⟨⟨a, b⟩, ⟨c, d⟩, _, _⟩ := grid_len e1
  have := (of_decide_eq_true e3).1
  omega
set_option maxHeartbeats 4000000 in
theorem scrGo_spec (s : Sc) (M A : Rw) (T : Ti) (B : Tr) (c : Cont) (x y : Int) (w : World) (hr : Sr w M A T B) (hz : Sz M A T B 1048576) (hh : Hid (Holds M A T B c)) :
    Calls Try.prog 39 #[sV s M A T B, .int .i64 x, .int .i64 y] w (ScrOwn w (chS s c (goS s x y)) (chC s c c)) := by
  have hno := Lib.hid (fun h => ch_no (s := s) (c := c) h (goS s x y) c)
  have hyes := Lib.hid (fun h => ch_yes (s := s) (c := c) h (goS s x y) c)
  obtain ⟨rs, hrs⟩ : ∃ x', Hid (x' = chS s c (goS s x y)) := ⟨_, Lib.hid rfl⟩
  obtain ⟨rc, hrc⟩ : ∃ x', Hid (x' = chC s c c) := ⟨_, Lib.hid rfl⟩
  rw [← hrs.out, ← hrc.out] at hno hyes ⊢
  have t0 : Below w.heap.size w ((w.alloc (.cells (sC s M A T B) 49)).alloc (.cells zC 49)) := bel2 _ _ _
  have b0 : ((w.alloc (.cells (sC s M A T B) 49)).alloc (.cells zC 49)).heap[w.heap.size]? = some (.cells (sC s M A T B) 49 (0, 0)) := heap_alloc_of _ (heap_alloc_new _ _)
  have z0 : ((w.alloc (.cells (sC s M A T B) 49)).alloc (.cells zC 49)).heap[w.heap.size + 1]? = some (.cells zC 49 (0, 0)) := hat2 _ _ _
  go_enter Try.func39, Try.ntmps39
  go_wp2_with (first | (refine wpList_load_row rfl 49 _ rfl (w.heap.size) rfl 49 (sC s M A T B) (0, 0) _ b0 Try.underlying49 rfl size_scr ?_))
  refine (scrOk_spec s M A T B _ (hr.below t0) hz).mono ?_
  rw [hh.out.eq]
  rintro e w1 ⟨he, hb1⟩
  have b1 := (hb1.block _ (Array.getElem?_eq_some_iff.1 b0).1).trans b0
  have z1 := (hb1.block _ (Array.getElem?_eq_some_iff.1 z0).1).trans z0
  have zz1 := (Array.getElem?_eq_some_iff.1 z1).1
  have t1 := t0.trans (hb1.mono t0.size)
  clear b0 z0
  cases hq : scrB s c with
  | false =>
    obtain ⟨e1, e2⟩ := hno.out hq
    subst e1 e2
    rw [hq] at he
    subst he
    clear hq hno hyes hrs hrc
    go_wp2_with (first | (refine wp_store_blk rfl 49 _ _ rfl (w.heap.size + 1) zC rfl rfl 49 zC z1 size_scr rfl (by simp [Value.oneCell']) ?_; intro w7 B7 C7 z7))
    refine bodyPost_ret (results_cell_row Try.results39 _ _ (w.heap.size + 1) 49 zC (0, 0) _ rfl B7 Try.underlying49 rfl size_scr) rfl ?_
    exact own_nil (t1.trans (C7.below (fun k hk => by simp at hk; omega) (by omega)))
  | true =>
    obtain ⟨e1, e2⟩ := hyes.out hq
    have E1 := Lib.hid e1
    clear e1
    subst e2
    have hq' : scrB s ⟨M.2.2, A.2.2, T.2.2, rcs B.2.2⟩ = true := by rw [hh.out.eq]; exact hq
    obtain ⟨⟨d1, d2⟩, d3, d4⟩ := scr_dims hq
    rw [hq] at he
    subst he
    have HQ := Lib.hid hq'
    clear hq hno hyes hrs hrc hq'
    go_wp2_with (first | (refine wpList_load_row rfl 49 _ rfl (w.heap.size) rfl 49 (sC s M A T B) (0, 0) _ b1 Try.underlying49 rfl size_scr ?_))
    refine (l09Copy_any s M A T B _ (hr.below t1) hz HQ.out).mono ?_
    rw [hh.out.eq]
    rintro e w2 ⟨M2, A2, T2, B2, rfl, hh2, ho2, hb2⟩
    have b2 := (hb2.block _ (Array.getElem?_eq_some_iff.1 b1).1).trans b1
    have z2 := (hb2.block _ (Array.getElem?_eq_some_iff.1 z1).1).trans z1
    have zz2 := (Array.getElem?_eq_some_iff.1 z2).1
    have x2 := hb2.size
    have t2 := t1.trans (hb2.mono t1.size)
    clear b1 z1
    go_wp2_with (first | (refine wp_store_blk rfl 49 _ _ rfl w2.heap.size (sC s M2 A2 T2 B2) rfl rfl 49 zC (heap_alloc_new _ _) size_scr rfl (sC_one s M2 A2 T2 B2) ?_; intro w3 b3 k3 zz3; have h3 : Below w2.heap.size w2 w3 := ((Below.refl _ _).alloc (Nat.le_refl _) _).trans (k3.below (fun k hk => by simp at hk; omega) (by simp)); have bP3 := (h3.block _ (Array.getElem?_eq_some_iff.1 b2).1).trans b2; have qP : ∀ i, w3.cell? ⟨w.heap.size, i, none⟩ = _ := (fun i => cell_of_row w3 _ i _ _ (0, 0) bP3); have rG : ∀ i, w3.frozen? ⟨w2.heap.size, i, none⟩ = false := (fun i => by simp [World.frozen?, b3]); have qG : ∀ i, w3.cell? ⟨w2.heap.size, i, none⟩ = _ := (fun i => cell_of_row w3 _ i _ _ (0, 0) b3)))
    have kx := blk_x b3 (clampZ x (s.W - 1))
    have ky := blk_y kx.1 (clampZ y (s.H - 1))
    have kw := blk_wrap ky.1 false
    have kC := kx.2.1.trans (ky.2.1.trans kw.2.1)
    have z3 := (h3.block _ zz2).trans z2
    have HB : Hid ((((w3.setCell ⟨w2.heap.size, 9, none⟩ (.int .i64 (clampZ x (s.W - 1)))).setCell ⟨w2.heap.size, 10, none⟩ (.int .i64 (clampZ y (s.H - 1)))).setCell ⟨w2.heap.size, 11, none⟩ (.bool false)).heap[w2.heap.size]? = some (.cells (sC (goS s x y) M2 A2 T2 B2) 49 (0, 0))) := kw.1
    have HZ := Lib.hid (keep_chg kC z3 (by intro hm; simp at hm; omega)).1
    have HK : Hid (Chg [some w2.heap.size] w3 (((w3.setCell ⟨w2.heap.size, 9, none⟩ (.int .i64 (clampZ x (s.W - 1)))).setCell ⟨w2.heap.size, 10, none⟩ (.int .i64 (clampZ y (s.H - 1)))).setCell ⟨w2.heap.size, 11, none⟩ (.bool false))) := kC
    have HS : Hid ((((w3.setCell ⟨w2.heap.size, 9, none⟩ (.int .i64 (clampZ x (s.W - 1)))).setCell ⟨w2.heap.size, 10, none⟩ (.int .i64 (clampZ y (s.H - 1)))).setCell ⟨w2.heap.size, 11, none⟩ (.bool false)).heap.size = w3.heap.size) := by show _ = _; simp
    have t3 := t2.trans (h3.mono t2.size)
    have n1 : ¬ w2.heap.size = w.heap.size := by omega
    have n2 : ¬ w.heap.size = w2.heap.size := by omega
    have x3 := (Array.getElem?_eq_some_iff.1 b3).1
    clear kx ky kw kC z3 b3 z2 b2 bP3
    go_wp2_with (first | (go_at_call 96; refine (l02Clamp_any _ _ _).mono ?_; rintro e w' ⟨rfl, rfl⟩) | (refine wpList_load_row rfl 49 _ rfl (w2.heap.size) rfl 49 (sC (goS s x y) M2 A2 T2 B2) (0, 0) _ HB.out Try.underlying49 rfl size_scr ?_) | (refine wp_store_blk rfl 49 _ _ rfl (w.heap.size + 1) (sC (goS s x y) M2 A2 T2 B2) rfl rfl 49 zC HZ.out size_scr rfl (sC_one _ _ _ _ _) ?_; intro w7 B7 C7 z7))
    refine bodyPost_ret (results_cell_row Try.results39 _ _ (w.heap.size + 1) 49 (sC (goS s x y) M2 A2 T2 B2) (0, 0) _ rfl B7 Try.underlying49 rfl size_scr) rfl ?_
    rw [E1.out]
    have hs := HS.out
    have ho3 := ho2.below h3 (Nat.le_refl _)
    exact ⟨M2, A2, T2, B2, rfl, hh2, (((ho3.chg HK.out (fun k hk hm => by have := (ho2.lt hk).2; simp at hm; omega)).chg C7 (fun k hk hm => by have := (ho2.lt hk).1; simp at hm; omega))).mono (by omega), (t3.trans (HK.out.below (fun k hk => by simp at hk; omega) (by omega))).trans (C7.below (fun k hk => by simp at hk; omega) (by omega))⟩
/-- The cursor moved, as the program calls it. -/
theorem goClosure_any (s : Sc) (M A : Rw) (T : Ti) (B : Tr) (c : Cont) (x y : Int) (lo g g1 g2 : Nat) (w : World) (hq : scrB s c = true) (hb : w.heap[g]? = some (.cells (sC s M A T B) 49 (0, 0))) (ho : So w lo M A T B) (hh : Hid (Holds M A T B c)) (hn : some g ∉ sft M A T B)
    (h1 : w.cell? ⟨g1, 0, none⟩ = some (.int .i64 x)) (h2 : w.cell? ⟨g2, 0, none⟩ = some (.int .i64 y)) :
    Calls Try.prog 98 #[.pointer (some ⟨g, 0, none⟩), .pointer (some ⟨g1, 0, none⟩), .pointer (some ⟨g2, 0, none⟩)] w (ChPost lo g M A T B w (goS s x y) c) := by
  obtain ⟨⟨d1, d2⟩, d3, d4⟩ := scr_dims hq
  go_enter Try.func98, Try.ntmps98
  go_wp2_with fail
  refine (move_any s M A T B x y g _ hb d1 d2 d3 d4).mono ?_
  rintro e w1 ⟨rfl, b1, k1⟩
  go_wp2_with fail
  refine bodyPost_end (results_none rfl _ _ _) rfl ?_
  exact ⟨rfl, M, A, T, B, b1, hh, ho.chg k1 (fun k hk hm => by simp at hm; exact hn (by rw [← hm]; exact hk)), hn, k1.mono (fun k hk => List.mem_cons.2 (.inl (by simpa using hk))), fun k hk => .inl hk⟩
set_option maxHeartbeats 4000000 in
theorem scrGo_impl (s : Sc) (M A : Rw) (T : Ti) (B : Tr) (c : Cont) (x y : Int) (w : World) (hr : Sr w M A T B) (hz : Sz M A T B 1048576) (hh : Hid (Holds M A T B c)) :
    Calls Try.prog 40 #[sV s M A T B, .int .i64 x, .int .i64 y] w (ScrOwn w (chS s c (goS s x y)) (chC s c c)) := by
  obtain ⟨rs, hrs⟩ : ∃ x', Hid (x' = chS s c (goS s x y)) := ⟨_, Lib.hid rfl⟩
  obtain ⟨rc, hrc⟩ : ∃ x', Hid (x' = chC s c c) := ⟨_, Lib.hid rfl⟩
  rw [← hrs.out, ← hrc.out]
  have b0 : (((((w.alloc (.cells (sC s M A T B) 49)).alloc (.cells #[.int .i64 x] 3)).alloc (.cells #[.int .i64 y] 3)).alloc (.cells zC 49))).heap[w.heap.size]? = some (.cells (sC s M A T B) 49 (0, 0)) := heap_alloc_of _ (heap_alloc_of _ (heap_alloc_of _ (heap_alloc_new _ _)))
  have c0 : (((((w.alloc (.cells (sC s M A T B) 49)).alloc (.cells #[.int .i64 x] 3)).alloc (.cells #[.int .i64 y] 3)).alloc (.cells zC 49))).heap[w.heap.size + 1]? = some (.cells #[.int .i64 x] 3 (0, 0)) := heap_alloc_of _ (heap_alloc_of _ (hat2 _ _ _))
  have e0 : (((((w.alloc (.cells (sC s M A T B) 49)).alloc (.cells #[.int .i64 x] 3)).alloc (.cells #[.int .i64 y] 3)).alloc (.cells zC 49))).heap[w.heap.size + 1 + 1]? = some (.cells #[.int .i64 y] 3 (0, 0)) := heap_alloc_of _ (hat3 _ _ _ _)
  have z0 : (((((w.alloc (.cells (sC s M A T B) 49)).alloc (.cells #[.int .i64 x] 3)).alloc (.cells #[.int .i64 y] 3)).alloc (.cells zC 49))).heap[w.heap.size + 1 + 1 + 1]? = some (.cells zC 49 (0, 0)) := hat4 _ _ _ _ _
  have t0 : Below w.heap.size w ((((w.alloc (.cells (sC s M A T B) 49)).alloc (.cells #[.int .i64 x] 3)).alloc (.cells #[.int .i64 y] 3)).alloc (.cells zC 49)) := bel4 _ _ _ _ _
  go_enter Try.func40, Try.ntmps40
  go_wp2_with (first | (refine wpList_load_row rfl 49 _ rfl (w.heap.size) rfl 49 (sC s M A T B) (0, 0) _ b0 Try.underlying49 rfl size_scr ?_))
  refine (changed_any 98 #[.pointer (some ⟨w.heap.size + 1, 0, none⟩), .pointer (some ⟨w.heap.size + 1 + 1, 0, none⟩)] s M A T B c (goS s x y) c _ (hr.below t0) hz hh (fun args w => by go_simp) (fun hq lo g M1 A1 T1 B1 w1 hb1 hB ho hH hn _ _ => ?_)).mono ?_
  · have c1 := (hb1.block _ (Array.getElem?_eq_some_iff.1 c0).1).trans c0
    have e1 := (hb1.block _ (Array.getElem?_eq_some_iff.1 e0).1).trans e0
    exact goClosure_any s M1 A1 T1 B1 c x y lo g (w.heap.size + 1) (w.heap.size + 1 + 1) w1 hq hB ho hH hn (cell_of_row w1 _ 0 _ _ (0, 0) c1) (cell_of_row w1 _ 0 _ _ (0, 0) e1)
  rw [← hrs.out, ← hrc.out]
  rintro e w2 ⟨M2, A2, T2, B2, rfl, hh2, ho2, hb2⟩
  have z2 := (hb2.block _ (Array.getElem?_eq_some_iff.1 z0).1).trans z0
  have zz2 := (Array.getElem?_eq_some_iff.1 z2).1
  have t2 := t0.trans (hb2.mono t0.size)
  have x0 := t0.size
  have lz := (Array.getElem?_eq_some_iff.1 z0).1
  clear b0 c0 e0 z0
  go_wp2_with (first | (refine wp_store_blk rfl 49 _ _ rfl (w.heap.size + 1 + 1 + 1) (sC rs M2 A2 T2 B2) rfl rfl 49 zC z2 size_scr rfl (sC_one rs M2 A2 T2 B2) ?_; intro w7 B7 C7 z7))
  refine bodyPost_ret (results_cell_row Try.results40 _ _ (w.heap.size + 1 + 1 + 1) 49 (sC rs M2 A2 T2 B2) (0, 0) _ rfl B7 Try.underlying49 rfl size_scr) rfl ?_
  exact ⟨M2, A2, T2, B2, rfl, hh2, (ho2.chg C7 (fun k hk hm => by have := (ho2.lt hk).1; simp at hm; omega)).mono (by omega), t2.trans (C7.below (fun k hk => by simp at hk; omega) (by omega))⟩
end Go.Proofs.Ytnilgcahggmncaa
