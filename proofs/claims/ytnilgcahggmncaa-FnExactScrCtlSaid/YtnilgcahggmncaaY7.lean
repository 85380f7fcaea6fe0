/- ScrCtl: what it answers; the reference's way. ScrCtl, the reference: a line down. ScrCtl, the reference: the next tab stop. ScrCtl: the reference. -/
import Derived.Test.YtnilgcahggmncaaY5
namespace Go.Proofs.Ytnilgcahggmncaa
open Go.RowKit

set_option linter.unusedVariables false
set_option maxRecDepth 100000

/-- The next tab stop, or the last column. -/
def tabN (ts : List Int) (X W : Int) : Int := ts.foldr (fun t a => if X < t then t else a) (W - 1)
theorem tabN_drop {ts : List Int} {X W : Int} {u : Nat} (h : u < ts.length) : tabN (ts.drop u) X W = if X < ts[u] then ts[u] else tabN (ts.drop (u + 1)) X W := by
  rw [List.drop_eq_getElem_cons h]
  rfl
def ctlS (s : Sc) (c : Cont) (b : Int) : Sc :=
  if b = 8 then goS s (s.X - 1) s.Y else if b = 9 then goS s (tabN c.t s.X s.W) s.Y else if b = 10 ∨ b = 11 ∨ b = 12 then downS s else if b = 13 then goS s 0 s.Y else s
def ctlC (s : Sc) (c : Cont) (b : Int) : Cont := if b = 10 ∨ b = 11 ∨ b = 12 then downC s c else c
set_option maxHeartbeats 4000000 in
theorem ctl_8 (s : Sc) (M A : Rw) (T : Ti) (B : Tr) (c : Cont) (b : Int) (w : World) (hr : Sr w M A T B) (hz : Sz M A T B 1048576) (hh : Hid (Holds M A T B c)) (hb : b = 8) :
    Calls Try.prog 47 #[sV s M A T B, .int .i64 b] w (ScrRead w (chS s c (ctlS s c b)) (chC s c (ctlC s c b))) := by
  have hno := Lib.hid (fun h => ch_no (s := s) (c := c) h (ctlS s c b) (ctlC s c b))
  have hyes := Lib.hid (fun h => ch_yes (s := s) (c := c) h (ctlS s c b) (ctlC s c b))
  obtain ⟨rs, hrs⟩ : ∃ x', Hid (x' = chS s c (ctlS s c b)) := ⟨_, Lib.hid rfl⟩
  obtain ⟨rc, hrc⟩ : ∃ x', Hid (x' = chC s c (ctlC s c b)) := ⟨_, Lib.hid rfl⟩
  rw [← hrs.out, ← hrc.out] at hno hyes ⊢
  have t0 : Below w.heap.size w ((w.alloc (.cells (sC s M A T B) 49)).alloc (.cells zC 49)) := bel2 _ _ _
  have b0 : ((w.alloc (.cells (sC s M A T B) 49)).alloc (.cells zC 49)).heap[w.heap.size]? = some (.cells (sC s M A T B) 49 (0, 0)) := heap_alloc_of _ (heap_alloc_new _ _)
  have z0 : ((w.alloc (.cells (sC s M A T B) 49)).alloc (.cells zC 49)).heap[w.heap.size + 1]? = some (.cells zC 49 (0, 0)) := hat2 _ _ _
  go_enter Try.func47, Try.ntmps47
  go_wp2_with (first | (refine wpList_load_row rfl 49 _ rfl (w.heap.size) rfl 49 (sC s M A T B) (0, 0) _ b0 Try.underlying49 rfl size_scr ?_))
  refine (scrOk_spec s M A T B _ (hr.below t0) hz).mono ?_
  rw [hh.out.eq]
  rintro e w1 ⟨he, hb1⟩
  have b1 := (hb1.block _ (Array.getElem?_eq_some_iff.1 b0).1).trans b0
  have z1 := (hb1.block _ (Array.getElem?_eq_some_iff.1 z0).1).trans z0
  have zz1 := (Array.getElem?_eq_some_iff.1 z1).1
  have t1 := t0.trans (hb1.mono t0.size)
  clear b0 z0
  cases hq : scrB s c with
  | false =>
    obtain ⟨e1, e2⟩ := hno.out hq
    subst e1 e2
    rw [hq] at he
    subst he
    clear hq hno hyes hrs hrc
    go_wp2_with (first | (refine wp_store_blk rfl 49 _ _ rfl (w.heap.size + 1) zC rfl rfl 49 zC z1 size_scr rfl (by simp [Value.oneCell']) ?_; intro w7 B7 C7 z7))
    refine bodyPost_ret (results_cell_row Try.results47 _ _ (w.heap.size + 1) 49 zC (0, 0) _ rfl B7 Try.underlying49 rfl size_scr) rfl ?_
    exact read_nil (t1.trans (C7.below (fun k hk => by simp at hk; omega) (by omega)))
  | true =>
    obtain ⟨e1, e2⟩ := hyes.out hq
    have E1 := Lib.hid e1
    clear e1
    have E2 := Lib.hid e2
    clear e2
    have hq' : scrB s ⟨M.2.2, A.2.2, T.2.2, rcs B.2.2⟩ = true := by rw [hh.out.eq]; exact hq
    obtain ⟨⟨d1, d2⟩, d3, d4⟩ := scr_dims hq
    rw [hq] at he
    subst he
    have HQ := Lib.hid hq'
    have HQQ := Lib.hid hq
    clear hq hno hyes hrs hrc hq'
    go_wp2_with (first | (refine wpList_load_row rfl 49 _ rfl (w.heap.size) rfl 49 (sC s M A T B) (0, 0) _ b1 Try.underlying49 rfl size_scr ?_))
    refine (l09Copy_any s M A T B _ (hr.below t1) hz HQ.out).mono ?_
    rw [hh.out.eq]
    rintro e w2 ⟨M2, A2, T2, B2, rfl, hh2, ho2, hb2⟩
    have b2 := (hb2.block _ (Array.getElem?_eq_some_iff.1 b1).1).trans b1
    have z2 := (hb2.block _ (Array.getElem?_eq_some_iff.1 z1).1).trans z1
    have zz2 := (Array.getElem?_eq_some_iff.1 z2).1
    have x2 := hb2.size
    have t2 := t1.trans (hb2.mono t1.size)
    clear b1 z1
    have n1 : ¬ w2.heap.size = w.heap.size := by omega
    have n2 : ¬ w.heap.size = w2.heap.size := by omega
    have F1 : Hid (rs = goS s (s.X - 1) s.Y) := E1.out.trans (if_pos hb)
    have F2 : Hid (rc = c) := E2.out.trans (if_neg (by omega))
    obtain ⟨_, ⟨x1, x2', _, _⟩, _, _⟩ := scr_nums HQQ.out
    have ew : IntKind.i64.wrap (s.X - 1) = s.X - 1 := by rw [IntKind.wrap_i64]; omega
    have HGO : Hid (∀ w', Below w.heap.size w w' → Calls Try.prog 39 #[sV s M A T B, .int .i64 (s.X - 1), .int .i64 s.Y] w' (ScrOwn w' rs c)) := fun w' hb => by
      have := scrGo_spec s M A T B c (s.X - 1) s.Y w' (hr.below hb) hz hh
      rw [(ch_yes HQQ.out _ c).1, (ch_yes HQQ.out (goS s s.X s.Y) c).2, ← F1.out] at this
      exact this
    have k8 : (b == 8) = true := by simp; omega
    clear hb
    go_wp2_with (first | (refine wp_store_blk rfl 49 _ _ rfl w2.heap.size (sC s M2 A2 T2 B2) rfl rfl 49 zC (heap_alloc_new _ _) size_scr rfl (sC_one s M2 A2 T2 B2) ?_; intro w3 b3 k3 zz3; have h3 : Below w2.heap.size w2 w3 := ((Below.refl _ _).alloc (Nat.le_refl _) _).trans (k3.below (fun k hk => by simp at hk; omega) (by simp)); have bP3 := (h3.block _ (Array.getElem?_eq_some_iff.1 b2).1).trans b2; have z3 := (h3.block _ zz2).trans z2; have qP : ∀ i, w3.cell? ⟨w.heap.size, i, none⟩ = _ := (fun i => cell_of_row w3 _ i _ _ (0, 0) bP3)) | (refine wpList_load_row rfl 49 _ rfl (w.heap.size) rfl 49 (sC s M A T B) (0, 0) _ bP3 Try.underlying49 rfl size_scr ?_))
    have t3 := t2.trans (h3.mono t2.size)
    refine (HGO.out _ t3).mono ?_
    rintro e w4 ⟨M4, A4, T4, B4, rfl, hh4, ho4, hb4⟩
    have z4 := (hb4.block _ (Array.getElem?_eq_some_iff.1 z3).1).trans z3
    have x3 := (Array.getElem?_eq_some_iff.1 z3).1
    have t4 := t3.trans (hb4.mono t3.size)
    clear qP b3 bP3
    go_wp2_with (first | (refine wp_store_blk rfl 49 _ _ rfl (w.heap.size + 1) (sC rs M4 A4 T4 B4) rfl rfl 49 zC z4 size_scr rfl (sC_one _ _ _ _ _) ?_; intro w7 B7 C7 z7))
    refine bodyPost_ret (results_cell_row Try.results47 _ _ (w.heap.size + 1) 49 (sC rs M4 A4 T4 B4) (0, 0) _ rfl B7 Try.underlying49 rfl size_scr) rfl ?_
    rw [F2.out]
    exact ⟨M4, A4, T4, B4, rfl, hh4, (Wk.of_so (ho4.chg C7 (fun k hk hm => by have := (ho4.lt hk).1; simp at hm; omega))).mono (by omega), t4.trans (C7.below (fun k hk => by simp at hk; omega) (by have := t4.size; omega))⟩
set_option maxHeartbeats 4000000 in
theorem ctl_13 (s : Sc) (M A : Rw) (T : Ti) (B : Tr) (c : Cont) (b : Int) (w : World) (hr : Sr w M A T B) (hz : Sz M A T B 1048576) (hh : Hid (Holds M A T B c)) (hb : b = 13) :
    Calls Try.prog 47 #[sV s M A T B, .int .i64 b] w (ScrRead w (chS s c (ctlS s c b)) (chC s c (ctlC s c b))) := by
  have hno := Lib.hid (fun h => ch_no (s := s) (c := c) h (ctlS s c b) (ctlC s c b))
  have hyes := Lib.hid (fun h => ch_yes (s := s) (c := c) h (ctlS s c b) (ctlC s c b))
  obtain ⟨rs, hrs⟩ : ∃ x', Hid (x' = chS s c (ctlS s c b)) := ⟨_, Lib.hid rfl⟩
  obtain ⟨rc, hrc⟩ : ∃ x', Hid (x' = chC s c (ctlC s c b)) := ⟨_, Lib.hid rfl⟩
  rw [← hrs.out, ← hrc.out] at hno hyes ⊢
  have t0 : Below w.heap.size w ((w.alloc (.cells (sC s M A T B) 49)).alloc (.cells zC 49)) := bel2 _ _ _
  have b0 : ((w.alloc (.cells (sC s M A T B) 49)).alloc (.cells zC 49)).heap[w.heap.size]? = some (.cells (sC s M A T B) 49 (0, 0)) := heap_alloc_of _ (heap_alloc_new _ _)
  have z0 : ((w.alloc (.cells (sC s M A T B) 49)).alloc (.cells zC 49)).heap[w.heap.size + 1]? = some (.cells zC 49 (0, 0)) := hat2 _ _ _
  go_enter Try.func47, Try.ntmps47
  go_wp2_with (first | (refine wpList_load_row rfl 49 _ rfl (w.heap.size) rfl 49 (sC s M A T B) (0, 0) _ b0 Try.underlying49 rfl size_scr ?_))
  refine (scrOk_spec s M A T B _ (hr.below t0) hz).mono ?_
  rw [hh.out.eq]
  rintro e w1 ⟨he, hb1⟩
  have b1 := (hb1.block _ (Array.getElem?_eq_some_iff.1 b0).1).trans b0
  have z1 := (hb1.block _ (Array.getElem?_eq_some_iff.1 z0).1).trans z0
  have zz1 := (Array.getElem?_eq_some_iff.1 z1).1
  have t1 := t0.trans (hb1.mono t0.size)
  clear b0 z0
  cases hq : scrB s c with
  | false =>
    obtain ⟨e1, e2⟩ := hno.out hq
    subst e1 e2
    rw [hq] at he
    subst he
    clear hq hno hyes hrs hrc
    go_wp2_with (first | (refine wp_store_blk rfl 49 _ _ rfl (w.heap.size + 1) zC rfl rfl 49 zC z1 size_scr rfl (by simp [Value.oneCell']) ?_; intro w7 B7 C7 z7))
    refine bodyPost_ret (results_cell_row Try.results47 _ _ (w.heap.size + 1) 49 zC (0, 0) _ rfl B7 Try.underlying49 rfl size_scr) rfl ?_
    exact read_nil (t1.trans (C7.below (fun k hk => by simp at hk; omega) (by omega)))
  | true =>
    obtain ⟨e1, e2⟩ := hyes.out hq
    have E1 := Lib.hid e1
    clear e1
    have E2 := Lib.hid e2
    clear e2
    have hq' : scrB s ⟨M.2.2, A.2.2, T.2.2, rcs B.2.2⟩ = true := by rw [hh.out.eq]; exact hq
    obtain ⟨⟨d1, d2⟩, d3, d4⟩ := scr_dims hq
    rw [hq] at he
    subst he
    have HQ := Lib.hid hq'
    have HQQ := Lib.hid hq
    clear hq hno hyes hrs hrc hq'
    go_wp2_with (first | (refine wpList_load_row rfl 49 _ rfl (w.heap.size) rfl 49 (sC s M A T B) (0, 0) _ b1 Try.underlying49 rfl size_scr ?_))
    refine (l09Copy_any s M A T B _ (hr.below t1) hz HQ.out).mono ?_
    rw [hh.out.eq]
    rintro e w2 ⟨M2, A2, T2, B2, rfl, hh2, ho2, hb2⟩
    have b2 := (hb2.block _ (Array.getElem?_eq_some_iff.1 b1).1).trans b1
    have z2 := (hb2.block _ (Array.getElem?_eq_some_iff.1 z1).1).trans z1
    have zz2 := (Array.getElem?_eq_some_iff.1 z2).1
    have x2 := hb2.size
    have t2 := t1.trans (hb2.mono t1.size)
    clear b1 z1
    have n1 : ¬ w2.heap.size = w.heap.size := by omega
    have n2 : ¬ w.heap.size = w2.heap.size := by omega
    have F1 : Hid (rs = goS s 0 s.Y) := E1.out.trans ((if_neg (by omega)).trans ((if_neg (by omega)).trans ((if_neg (by omega)).trans (if_pos hb))))
    have F2 : Hid (rc = c) := E2.out.trans (if_neg (by omega))
    have HGO : Hid (∀ w', Below w.heap.size w w' → Calls Try.prog 39 #[sV s M A T B, .int .i64 (0), .int .i64 s.Y] w' (ScrOwn w' rs c)) := fun w' hb => by
      have := scrGo_spec s M A T B c (0) s.Y w' (hr.below hb) hz hh
      rw [(ch_yes HQQ.out _ c).1, (ch_yes HQQ.out (goS s s.X s.Y) c).2, ← F1.out] at this
      exact this
    have k8 : (b == 8) = false := by simp; omega
    have k9 : (b == 9) = false := by simp; omega
    have k10 : (b == 10) = false := by simp; omega
    have k11 : (b == 11) = false := by simp; omega
    have k12 : (b == 12) = false := by simp; omega
    have k13 : (b == 13) = true := by simp; omega
    clear hb
    go_wp2_with (first | (refine wp_store_blk rfl 49 _ _ rfl w2.heap.size (sC s M2 A2 T2 B2) rfl rfl 49 zC (heap_alloc_new _ _) size_scr rfl (sC_one s M2 A2 T2 B2) ?_; intro w3 b3 k3 zz3; have h3 : Below w2.heap.size w2 w3 := ((Below.refl _ _).alloc (Nat.le_refl _) _).trans (k3.below (fun k hk => by simp at hk; omega) (by simp)); have bP3 := (h3.block _ (Array.getElem?_eq_some_iff.1 b2).1).trans b2; have z3 := (h3.block _ zz2).trans z2; have qP : ∀ i, w3.cell? ⟨w.heap.size, i, none⟩ = _ := (fun i => cell_of_row w3 _ i _ _ (0, 0) bP3)) | (refine wpList_load_row rfl 49 _ rfl (w.heap.size) rfl 49 (sC s M A T B) (0, 0) _ bP3 Try.underlying49 rfl size_scr ?_))
    have t3 := t2.trans (h3.mono t2.size)
    refine (HGO.out _ t3).mono ?_
    rintro e w4 ⟨M4, A4, T4, B4, rfl, hh4, ho4, hb4⟩
    have z4 := (hb4.block _ (Array.getElem?_eq_some_iff.1 z3).1).trans z3
    have x3 := (Array.getElem?_eq_some_iff.1 z3).1
    have t4 := t3.trans (hb4.mono t3.size)
    clear qP b3 bP3
    go_wp2_with (first | (refine wp_store_blk rfl 49 _ _ rfl (w.heap.size + 1) (sC rs M4 A4 T4 B4) rfl rfl 49 zC z4 size_scr rfl (sC_one _ _ _ _ _) ?_; intro w7 B7 C7 z7))
    refine bodyPost_ret (results_cell_row Try.results47 _ _ (w.heap.size + 1) 49 (sC rs M4 A4 T4 B4) (0, 0) _ rfl B7 Try.underlying49 rfl size_scr) rfl ?_
    rw [F2.out]
    exact ⟨M4, A4, T4, B4, rfl, hh4, (Wk.of_so (ho4.chg C7 (fun k hk hm => by have := (ho4.lt hk).1; simp at hm; omega))).mono (by omega), t4.trans (C7.below (fun k hk => by simp at hk; omega) (by have := t4.size; omega))⟩
set_option maxHeartbeats 4000000 in
theorem ctl_no (s : Sc) (M A : Rw) (T : Ti) (B : Tr) (c : Cont) (b : Int) (w : World) (hr : Sr w M A T B) (hz : Sz M A T B 1048576) (hh : Hid (Holds M A T B c)) (hb : b ≠ 8 ∧ b ≠ 9 ∧ b ≠ 10 ∧ b ≠ 11 ∧ b ≠ 12 ∧ b ≠ 13) :
    Calls Try.prog 47 #[sV s M A T B, .int .i64 b] w (ScrRead w (chS s c (ctlS s c b)) (chC s c (ctlC s c b))) := by
  have hno := Lib.hid (fun h => ch_no (s := s) (c := c) h (ctlS s c b) (ctlC s c b))
  have hyes := Lib.hid (fun h => ch_yes (s := s) (c := c) h (ctlS s c b) (ctlC s c b))
  obtain ⟨rs, hrs⟩ : ∃ x', Hid (x' = chS s c (ctlS s c b)) := ⟨_, Lib.hid rfl⟩
  obtain ⟨rc, hrc⟩ : ∃ x', Hid (x' = chC s c (ctlC s c b)) := ⟨_, Lib.hid rfl⟩
  rw [← hrs.out, ← hrc.out] at hno hyes ⊢
  have t0 : Below w.heap.size w ((w.alloc (.cells (sC s M A T B) 49)).alloc (.cells zC 49)) := bel2 _ _ _
  have b0 : ((w.alloc (.cells (sC s M A T B) 49)).alloc (.cells zC 49)).heap[w.heap.size]? = some (.cells (sC s M A T B) 49 (0, 0)) := heap_alloc_of _ (heap_alloc_new _ _)
  have z0 : ((w.alloc (.cells (sC s M A T B) 49)).alloc (.cells zC 49)).heap[w.heap.size + 1]? = some (.cells zC 49 (0, 0)) := hat2 _ _ _
  go_enter Try.func47, Try.ntmps47
  go_wp2_with (first | (refine wpList_load_row rfl 49 _ rfl (w.heap.size) rfl 49 (sC s M A T B) (0, 0) _ b0 Try.underlying49 rfl size_scr ?_))
  refine (scrOk_spec s M A T B _ (hr.below t0) hz).mono ?_
  rw [hh.out.eq]
  rintro e w1 ⟨he, hb1⟩
  have b1 := (hb1.block _ (Array.getElem?_eq_some_iff.1 b0).1).trans b0
  have z1 := (hb1.block _ (Array.getElem?_eq_some_iff.1 z0).1).trans z0
  have zz1 := (Array.getElem?_eq_some_iff.1 z1).1
  have t1 := t0.trans (hb1.mono t0.size)
  clear b0 z0
  cases hq : scrB s c with
  | false =>
    obtain ⟨e1, e2⟩ := hno.out hq
    subst e1 e2
    rw [hq] at he
    subst he
    clear hq hno hyes hrs hrc
    go_wp2_with (first | (refine wp_store_blk rfl 49 _ _ rfl (w.heap.size + 1) zC rfl rfl 49 zC z1 size_scr rfl (by simp [Value.oneCell']) ?_; intro w7 B7 C7 z7))
    refine bodyPost_ret (results_cell_row Try.results47 _ _ (w.heap.size + 1) 49 zC (0, 0) _ rfl B7 Try.underlying49 rfl size_scr) rfl ?_
    exact read_nil (t1.trans (C7.below (fun k hk => by simp at hk; omega) (by omega)))
  | true =>
    obtain ⟨e1, e2⟩ := hyes.out hq
    have E1 := Lib.hid e1
    clear e1
    have E2 := Lib.hid e2
    clear e2
    have hq' : scrB s ⟨M.2.2, A.2.2, T.2.2, rcs B.2.2⟩ = true := by rw [hh.out.eq]; exact hq
    obtain ⟨⟨d1, d2⟩, d3, d4⟩ := scr_dims hq
    rw [hq] at he
    subst he
    have HQ := Lib.hid hq'
    have HQQ := Lib.hid hq
    clear hq hno hyes hrs hrc hq'
    go_wp2_with (first | (refine wpList_load_row rfl 49 _ rfl (w.heap.size) rfl 49 (sC s M A T B) (0, 0) _ b1 Try.underlying49 rfl size_scr ?_))
    refine (l09Copy_any s M A T B _ (hr.below t1) hz HQ.out).mono ?_
    rw [hh.out.eq]
    rintro e w2 ⟨M2, A2, T2, B2, rfl, hh2, ho2, hb2⟩
    have b2 := (hb2.block _ (Array.getElem?_eq_some_iff.1 b1).1).trans b1
    have z2 := (hb2.block _ (Array.getElem?_eq_some_iff.1 z1).1).trans z1
    have zz2 := (Array.getElem?_eq_some_iff.1 z2).1
    have x2 := hb2.size
    have t2 := t1.trans (hb2.mono t1.size)
    clear b1 z1
    have n1 : ¬ w2.heap.size = w.heap.size := by omega
    have n2 : ¬ w.heap.size = w2.heap.size := by omega
    have F1 : Hid (rs = s) := E1.out.trans ((if_neg (by omega)).trans ((if_neg (by omega)).trans ((if_neg (by omega)).trans (if_neg (by omega)))))
    have F2 : Hid (rc = c) := E2.out.trans (if_neg (by omega))
    have k8 : (b == 8) = false := by simp; omega
    have k9 : (b == 9) = false := by simp; omega
    have k10 : (b == 10) = false := by simp; omega
    have k11 : (b == 11) = false := by simp; omega
    have k12 : (b == 12) = false := by simp; omega
    have k13 : (b == 13) = false := by simp; omega
    clear hb
    go_wp2_with (first | (refine wp_store_blk rfl 49 _ _ rfl w2.heap.size (sC s M2 A2 T2 B2) rfl rfl 49 zC (heap_alloc_new _ _) size_scr rfl (sC_one s M2 A2 T2 B2) ?_; intro w3 b3 k3 zz3; have h3 : Below w2.heap.size w2 w3 := ((Below.refl _ _).alloc (Nat.le_refl _) _).trans (k3.below (fun k hk => by simp at hk; omega) (by simp)); have bP3 := (h3.block _ (Array.getElem?_eq_some_iff.1 b2).1).trans b2; have z3 := (h3.block _ zz2).trans z2; have qP : ∀ i, w3.cell? ⟨w.heap.size, i, none⟩ = _ := (fun i => cell_of_row w3 _ i _ _ (0, 0) bP3)) | (refine wpList_load_row rfl 49 _ rfl (w2.heap.size) rfl 49 (sC s M2 A2 T2 B2) (0, 0) _ b3 Try.underlying49 rfl size_scr ?_) | (refine wp_store_blk rfl 49 _ _ rfl (w.heap.size + 1) (sC s M2 A2 T2 B2) rfl rfl 49 zC z3 size_scr rfl (sC_one _ _ _ _ _) ?_; intro w7 B7 C7 z7))
    refine bodyPost_ret (results_cell_row Try.results47 _ _ (w.heap.size + 1) 49 (sC s M2 A2 T2 B2) (0, 0) _ rfl B7 Try.underlying49 rfl size_scr) rfl ?_
    rw [F1.out, F2.out]
    have y1 := t1.size
    have y3 := h3.size
    have t3 := t2.trans (h3.mono t2.size)
    exact ⟨M2, A2, T2, B2, rfl, hh2, (Wk.of_so ((ho2.below h3 (Nat.le_refl _)).chg C7 (fun k hk hm => by have := (ho2.lt hk).1; simp at hm; omega))).mono (by omega), t3.trans (C7.below (fun k hk => by simp at hk; omega) (by omega))⟩

set_option linter.unusedVariables false
set_option maxRecDepth 100000

set_option maxHeartbeats 4000000 in
theorem ctl_10 (s : Sc) (M A : Rw) (T : Ti) (B : Tr) (c : Cont) (b : Int) (w : World) (hr : Sr w M A T B) (hz : Sz M A T B 1048576) (hh : Hid (Holds M A T B c)) (hb : b = 10) :
    Calls Try.prog 47 #[sV s M A T B, .int .i64 b] w (ScrRead w (chS s c (ctlS s c b)) (chC s c (ctlC s c b))) := by
  have hno := Lib.hid (fun h => ch_no (s := s) (c := c) h (ctlS s c b) (ctlC s c b))
  have hyes := Lib.hid (fun h => ch_yes (s := s) (c := c) h (ctlS s c b) (ctlC s c b))
  obtain ⟨rs, hrs⟩ : ∃ x', Hid (x' = chS s c (ctlS s c b)) := ⟨_, Lib.hid rfl⟩
  obtain ⟨rc, hrc⟩ : ∃ x', Hid (x' = chC s c (ctlC s c b)) := ⟨_, Lib.hid rfl⟩
  rw [← hrs.out, ← hrc.out] at hno hyes ⊢
  have t0 : Below w.heap.size w ((w.alloc (.cells (sC s M A T B) 49)).alloc (.cells zC 49)) := bel2 _ _ _
  have b0 : ((w.alloc (.cells (sC s M A T B) 49)).alloc (.cells zC 49)).heap[w.heap.size]? = some (.cells (sC s M A T B) 49 (0, 0)) := heap_alloc_of _ (heap_alloc_new _ _)
  have z0 : ((w.alloc (.cells (sC s M A T B) 49)).alloc (.cells zC 49)).heap[w.heap.size + 1]? = some (.cells zC 49 (0, 0)) := hat2 _ _ _
  go_enter Try.func47, Try.ntmps47
  go_wp2_with (first | (refine wpList_load_row rfl 49 _ rfl (w.heap.size) rfl 49 (sC s M A T B) (0, 0) _ b0 Try.underlying49 rfl size_scr ?_))
  refine (scrOk_spec s M A T B _ (hr.below t0) hz).mono ?_
  rw [hh.out.eq]
  rintro e w1 ⟨he, hb1⟩
  have b1 := (hb1.block _ (Array.getElem?_eq_some_iff.1 b0).1).trans b0
  have z1 := (hb1.block _ (Array.getElem?_eq_some_iff.1 z0).1).trans z0
  have zz1 := (Array.getElem?_eq_some_iff.1 z1).1
  have t1 := t0.trans (hb1.mono t0.size)
  clear b0 z0
  cases hq : scrB s c with
  | false =>
    obtain ⟨e1, e2⟩ := hno.out hq
    subst e1 e2
    rw [hq] at he
    subst he
    clear hq hno hyes hrs hrc
    go_wp2_with (first | (refine wp_store_blk rfl 49 _ _ rfl (w.heap.size + 1) zC rfl rfl 49 zC z1 size_scr rfl (by simp [Value.oneCell']) ?_; intro w7 B7 C7 z7))
    refine bodyPost_ret (results_cell_row Try.results47 _ _ (w.heap.size + 1) 49 zC (0, 0) _ rfl B7 Try.underlying49 rfl size_scr) rfl ?_
    exact read_nil (t1.trans (C7.below (fun k hk => by simp at hk; omega) (by omega)))
  | true =>
    obtain ⟨e1, e2⟩ := hyes.out hq
    have E1 := Lib.hid e1
    clear e1
    have E2 := Lib.hid e2
    clear e2
    have hq' : scrB s ⟨M.2.2, A.2.2, T.2.2, rcs B.2.2⟩ = true := by rw [hh.out.eq]; exact hq
    obtain ⟨⟨d1, d2⟩, d3, d4⟩ := scr_dims hq
    rw [hq] at he
    subst he
    have HQ := Lib.hid hq'
    have HQQ := Lib.hid hq
    clear hq hno hyes hrs hrc hq'
    go_wp2_with (first | (refine wpList_load_row rfl 49 _ rfl (w.heap.size) rfl 49 (sC s M A T B) (0, 0) _ b1 Try.underlying49 rfl size_scr ?_))
    refine (l09Copy_any s M A T B _ (hr.below t1) hz HQ.out).mono ?_
    rw [hh.out.eq]
    rintro e w2 ⟨M2, A2, T2, B2, rfl, hh2, ho2, hb2⟩
    have b2 := (hb2.block _ (Array.getElem?_eq_some_iff.1 b1).1).trans b1
    have z2 := (hb2.block _ (Array.getElem?_eq_some_iff.1 z1).1).trans z1
    have zz2 := (Array.getElem?_eq_some_iff.1 z2).1
    have x2 := hb2.size
    have t2 := t1.trans (hb2.mono t1.size)
    clear b1 z1
    have n1 : ¬ w2.heap.size = w.heap.size := by omega
    have n2 : ¬ w.heap.size = w2.heap.size := by omega
    have F1 : Hid (rs = downS s) := E1.out.trans ((if_neg (by omega)).trans ((if_neg (by omega)).trans (if_pos (by omega))))
    have F2 : Hid (rc = downC s c) := E2.out.trans (if_pos (by omega))
    have k8 : (b == 8) = false := by simp; omega
    have k9 : (b == 9) = false := by simp; omega
    have k10 : (b == 10) = true := by simp; omega
    clear hb
    have HDN : Hid (∀ w', So w' w1.heap.size M2 A2 T2 B2 → w2.heap.size ≤ w'.heap.size → Calls Try.prog 104 #[sV s M2 A2 T2 B2] w' (ReadPost w1.heap.size w2.heap.size w' rs rc)) := fun w' hs hl => by
      have := l09Down_any s M2 A2 T2 B2 c w1.heap.size w2.heap.size w' HQQ.out (fun k hk => (ho2.lt hk).2) hl hs hh2 (by have := hb2.size; omega)
      rwa [← F1.out, ← F2.out] at this
    go_wp2_with (first | (refine wp_store_blk rfl 49 _ _ rfl w2.heap.size (sC s M2 A2 T2 B2) rfl rfl 49 zC (heap_alloc_new _ _) size_scr rfl (sC_one s M2 A2 T2 B2) ?_; intro w3 b3 k3 zz3; have h3 : Below w2.heap.size w2 w3 := ((Below.refl _ _).alloc (Nat.le_refl _) _).trans (k3.below (fun k hk => by simp at hk; omega) (by simp)); have bP3 := (h3.block _ (Array.getElem?_eq_some_iff.1 b2).1).trans b2; have z3 := (h3.block _ zz2).trans z2; have qP : ∀ i, w3.cell? ⟨w.heap.size, i, none⟩ = _ := (fun i => cell_of_row w3 _ i _ _ (0, 0) bP3)) | (refine wpList_load_row rfl 49 _ rfl (w2.heap.size) rfl 49 (sC s M2 A2 T2 B2) (0, 0) _ b3 Try.underlying49 rfl size_scr ?_))
    have t3 := t2.trans (h3.mono t2.size)
    refine (HDN.out _ (ho2.below h3 (Nat.le_refl _)) h3.size).mono ?_
    rintro e w4 ⟨M4, A4, T4, B4, rfl, hh4, ho4, hn4, hv4, hb4⟩
    have y1 := t1.size
    have z4 := (hb4.block _ zz1).trans z3
    have y4 := hb4.size
    have y3 := h3.size
    have y2 := hb2.size
    clear qP b3 bP3 b2 z2
    go_wp2_with (first | (refine wp_store_blk rfl 49 _ _ rfl (w.heap.size + 1) (sC rs M4 A4 T4 B4) rfl rfl 49 zC z4 size_scr rfl (sC_one _ _ _ _ _) ?_; intro w7 B7 C7 z7))
    refine bodyPost_ret (results_cell_row Try.results47 _ _ (w.heap.size + 1) 49 (sC rs M4 A4 T4 B4) (0, 0) _ rfl B7 Try.underlying49 rfl size_scr) rfl ?_
    exact ⟨M4, A4, T4, B4, rfl, hh4, (ho4.chg C7 (fun k hk hm => by have := (ho4.lt hk).1; simp at hm; omega)).mono (by omega), (t3.trans (hb4.mono (by omega))).trans (C7.below (fun k hk => by simp at hk; omega) (by omega))⟩
set_option maxHeartbeats 4000000 in
theorem ctl_11 (s : Sc) (M A : Rw) (T : Ti) (B : Tr) (c : Cont) (b : Int) (w : World) (hr : Sr w M A T B) (hz : Sz M A T B 1048576) (hh : Hid (Holds M A T B c)) (hb : b = 11) :
    Calls Try.prog 47 #[sV s M A T B, .int .i64 b] w (ScrRead w (chS s c (ctlS s c b)) (chC s c (ctlC s c b))) := by
  have hno := Lib.hid (fun h => ch_no (s := s) (c := c) h (ctlS s c b) (ctlC s c b))
  have hyes := Lib.hid (fun h => ch_yes (s := s) (c := c) h (ctlS s c b) (ctlC s c b))
  obtain ⟨rs, hrs⟩ : ∃ x', Hid (x' = chS s c (ctlS s c b)) := ⟨_, Lib.hid rfl⟩
  obtain ⟨rc, hrc⟩ : ∃ x', Hid (x' = chC s c (ctlC s c b)) := ⟨_, Lib.hid rfl⟩
  rw [← hrs.out, ← hrc.out] at hno hyes ⊢
  have t0 : Below w.heap.size w ((w.alloc (.cells (sC s M A T B) 49)).alloc (.cells zC 49)) := bel2 _ _ _
  have b0 : ((w.alloc (.cells (sC s M A T B) 49)).alloc (.cells zC 49)).heap[w.heap.size]? = some (.cells (sC s M A T B) 49 (0, 0)) := heap_alloc_of _ (heap_alloc_new _ _)
  have z0 : ((w.alloc (.cells (sC s M A T B) 49)).alloc (.cells zC 49)).heap[w.heap.size + 1]? = some (.cells zC 49 (0, 0)) := hat2 _ _ _
  go_enter Try.func47, Try.ntmps47
  go_wp2_with (first | (refine wpList_load_row rfl 49 _ rfl (w.heap.size) rfl 49 (sC s M A T B) (0, 0) _ b0 Try.underlying49 rfl size_scr ?_))
  refine (scrOk_spec s M A T B _ (hr.below t0) hz).mono ?_
  rw [hh.out.eq]
  rintro e w1 ⟨he, hb1⟩
  have b1 := (hb1.block _ (Array.getElem?_eq_some_iff.1 b0).1).trans b0
  have z1 := (hb1.block _ (Array.getElem?_eq_some_iff.1 z0).1).trans z0
  have zz1 := (Array.getElem?_eq_some_iff.1 z1).1
  have t1 := t0.trans (hb1.mono t0.size)
  clear b0 z0
  cases hq : scrB s c with
  | false =>
    obtain ⟨e1, e2⟩ := hno.out hq
    subst e1 e2
    rw [hq] at he
    subst he
    clear hq hno hyes hrs hrc
    go_wp2_with (first | (refine wp_store_blk rfl 49 _ _ rfl (w.heap.size + 1) zC rfl rfl 49 zC z1 size_scr rfl (by simp [Value.oneCell']) ?_; intro w7 B7 C7 z7))
    refine bodyPost_ret (results_cell_row Try.results47 _ _ (w.heap.size + 1) 49 zC (0, 0) _ rfl B7 Try.underlying49 rfl size_scr) rfl ?_
    exact read_nil (t1.trans (C7.below (fun k hk => by simp at hk; omega) (by omega)))
  | true =>
    obtain ⟨e1, e2⟩ := hyes.out hq
    have E1 := Lib.hid e1
    clear e1
    have E2 := Lib.hid e2
    clear e2
    have hq' : scrB s ⟨M.2.2, A.2.2, T.2.2, rcs B.2.2⟩ = true := by rw [hh.out.eq]; exact hq
    obtain ⟨⟨d1, d2⟩, d3, d4⟩ := scr_dims hq
    rw [hq] at he
    subst he
    have HQ := Lib.hid hq'
    have HQQ := Lib.hid hq
    clear hq hno hyes hrs hrc hq'
    go_wp2_with (first | (refine wpList_load_row rfl 49 _ rfl (w.heap.size) rfl 49 (sC s M A T B) (0, 0) _ b1 Try.underlying49 rfl size_scr ?_))
    refine (l09Copy_any s M A T B _ (hr.below t1) hz HQ.out).mono ?_
    rw [hh.out.eq]
    rintro e w2 ⟨M2, A2, T2, B2, rfl, hh2, ho2, hb2⟩
    have b2 := (hb2.block _ (Array.getElem?_eq_some_iff.1 b1).1).trans b1
    have z2 := (hb2.block _ (Array.getElem?_eq_some_iff.1 z1).1).trans z1
    have zz2 := (Array.getElem?_eq_some_iff.1 z2).1
    have x2 := hb2.size
    have t2 := t1.trans (hb2.mono t1.size)
    clear b1 z1
    have n1 : ¬ w2.heap.size = w.heap.size := by omega
    have n2 : ¬ w.heap.size = w2.heap.size := by omega
    have F1 : Hid (rs = downS s) := E1.out.trans ((if_neg (by omega)).trans ((if_neg (by omega)).trans (if_pos (by omega))))
    have F2 : Hid (rc = downC s c) := E2.out.trans (if_pos (by omega))
    have k8 : (b == 8) = false := by simp; omega
    have k9 : (b == 9) = false := by simp; omega
    have k10 : (b == 10) = false := by simp; omega
    have k11 : (b == 11) = true := by simp; omega
    clear hb
    have HDN : Hid (∀ w', So w' w1.heap.size M2 A2 T2 B2 → w2.heap.size ≤ w'.heap.size → Calls Try.prog 104 #[sV s M2 A2 T2 B2] w' (ReadPost w1.heap.size w2.heap.size w' rs rc)) := fun w' hs hl => by
      have := l09Down_any s M2 A2 T2 B2 c w1.heap.size w2.heap.size w' HQQ.out (fun k hk => (ho2.lt hk).2) hl hs hh2 (by have := hb2.size; omega)
      rwa [← F1.out, ← F2.out] at this
    go_wp2_with (first | (refine wp_store_blk rfl 49 _ _ rfl w2.heap.size (sC s M2 A2 T2 B2) rfl rfl 49 zC (heap_alloc_new _ _) size_scr rfl (sC_one s M2 A2 T2 B2) ?_; intro w3 b3 k3 zz3; have h3 : Below w2.heap.size w2 w3 := ((Below.refl _ _).alloc (Nat.le_refl _) _).trans (k3.below (fun k hk => by simp at hk; omega) (by simp)); have bP3 := (h3.block _ (Array.getElem?_eq_some_iff.1 b2).1).trans b2; have z3 := (h3.block _ zz2).trans z2; have qP : ∀ i, w3.cell? ⟨w.heap.size, i, none⟩ = _ := (fun i => cell_of_row w3 _ i _ _ (0, 0) bP3)) | (refine wpList_load_row rfl 49 _ rfl (w2.heap.size) rfl 49 (sC s M2 A2 T2 B2) (0, 0) _ b3 Try.underlying49 rfl size_scr ?_))
    have t3 := t2.trans (h3.mono t2.size)
    refine (HDN.out _ (ho2.below h3 (Nat.le_refl _)) h3.size).mono ?_
    rintro e w4 ⟨M4, A4, T4, B4, rfl, hh4, ho4, hn4, hv4, hb4⟩
    have y1 := t1.size
    have z4 := (hb4.block _ zz1).trans z3
    have y4 := hb4.size
    have y3 := h3.size
    have y2 := hb2.size
    clear qP b3 bP3 b2 z2
    go_wp2_with (first | (refine wp_store_blk rfl 49 _ _ rfl (w.heap.size + 1) (sC rs M4 A4 T4 B4) rfl rfl 49 zC z4 size_scr rfl (sC_one _ _ _ _ _) ?_; intro w7 B7 C7 z7))
    refine bodyPost_ret (results_cell_row Try.results47 _ _ (w.heap.size + 1) 49 (sC rs M4 A4 T4 B4) (0, 0) _ rfl B7 Try.underlying49 rfl size_scr) rfl ?_
    exact ⟨M4, A4, T4, B4, rfl, hh4, (ho4.chg C7 (fun k hk hm => by have := (ho4.lt hk).1; simp at hm; omega)).mono (by omega), (t3.trans (hb4.mono (by omega))).trans (C7.below (fun k hk => by simp at hk; omega) (by omega))⟩
set_option maxHeartbeats 4000000 in
theorem ctl_12 (s : Sc) (M A : Rw) (T : Ti) (B : Tr) (c : Cont) (b : Int) (w : World) (hr : Sr w M A T B) (hz : Sz M A T B 1048576) (hh : Hid (Holds M A T B c)) (hb : b = 12) :
    Calls Try.prog 47 #[sV s M A T B, .int .i64 b] w (ScrRead w (chS s c (ctlS s c b)) (chC s c (ctlC s c b))) := by
  have hno := Lib.hid (fun h => ch_no (s := s) (c := c) h (ctlS s c b) (ctlC s c b))
  have hyes := Lib.hid (fun h => ch_yes (s := s) (c := c) h (ctlS s c b) (ctlC s c b))
  obtain ⟨rs, hrs⟩ : ∃ x', Hid (x' = chS s c (ctlS s c b)) := ⟨_, Lib.hid rfl⟩
  obtain ⟨rc, hrc⟩ : ∃ x', Hid (x' = chC s c (ctlC s c b)) := ⟨_, Lib.hid rfl⟩
  rw [← hrs.out, ← hrc.out] at hno hyes ⊢
  have t0 : Below w.heap.size w ((w.alloc (.cells (sC s M A T B) 49)).alloc (.cells zC 49)) := bel2 _ _ _
  have b0 : ((w.alloc (.cells (sC s M A T B) 49)).alloc (.cells zC 49)).heap[w.heap.size]? = some (.cells (sC s M A T B) 49 (0, 0)) := heap_alloc_of _ (heap_alloc_new _ _)
  have z0 : ((w.alloc (.cells (sC s M A T B) 49)).alloc (.cells zC 49)).heap[w.heap.size + 1]? = some (.cells zC 49 (0, 0)) := hat2 _ _ _
  go_enter Try.func47, Try.ntmps47
  go_wp2_with (first | (refine wpList_load_row rfl 49 _ rfl (w.heap.size) rfl 49 (sC s M A T B) (0, 0) _ b0 Try.underlying49 rfl size_scr ?_))
  refine (scrOk_spec s M A T B _ (hr.below t0) hz).mono ?_
  rw [hh.out.eq]
  rintro e w1 ⟨he, hb1⟩
  have b1 := (hb1.block _ (Array.getElem?_eq_some_iff.1 b0).1).trans b0
  have z1 := (hb1.block _ (Array.getElem?_eq_some_iff.1 z0).1).trans z0
  have zz1 := (Array.getElem?_eq_some_iff.1 z1).1
  have t1 := t0.trans (hb1.mono t0.size)
  clear b0 z0
  cases hq : scrB s c with
  | false =>
    obtain ⟨e1, e2⟩ := hno.out hq
    subst e1 e2
    rw [hq] at he
    subst he
    clear hq hno hyes hrs hrc
    go_wp2_with (first | (refine wp_store_blk rfl 49 _ _ rfl (w.heap.size + 1) zC rfl rfl 49 zC z1 size_scr rfl (by simp [Value.oneCell']) ?_; intro w7 B7 C7 z7))
    refine bodyPost_ret (results_cell_row Try.results47 _ _ (w.heap.size + 1) 49 zC (0, 0) _ rfl B7 Try.underlying49 rfl size_scr) rfl ?_
    exact read_nil (t1.trans (C7.below (fun k hk => by simp at hk; omega) (by omega)))
  | true =>
    obtain ⟨e1, e2⟩ := hyes.out hq
    have E1 := Lib.hid e1
    clear e1
    have E2 := Lib.hid e2
    clear e2
    have hq' : scrB s ⟨M.2.2, A.2.2, T.2.2, rcs B.2.2⟩ = true := by rw [hh.out.eq]; exact hq
    obtain ⟨⟨d1, d2⟩, d3, d4⟩ := scr_dims hq
    rw [hq] at he
    subst he
    have HQ := Lib.hid hq'
    have HQQ := Lib.hid hq
    clear hq hno hyes hrs hrc hq'
    go_wp2_with (first | (refine wpList_load_row rfl 49 _ rfl (w.heap.size) rfl 49 (sC s M A T B) (0, 0) _ b1 Try.underlying49 rfl size_scr ?_))
    refine (l09Copy_any s M A T B _ (hr.below t1) hz HQ.out).mono ?_
    rw [hh.out.eq]
    rintro e w2 ⟨M2, A2, T2, B2, rfl, hh2, ho2, hb2⟩
    have b2 := (hb2.block _ (Array.getElem?_eq_some_iff.1 b1).1).trans b1
    have z2 := (hb2.block _ (Array.getElem?_eq_some_iff.1 z1).1).trans z1
    have zz2 := (Array.getElem?_eq_some_iff.1 z2).1
    have x2 := hb2.size
    have t2 := t1.trans (hb2.mono t1.size)
    clear b1 z1
    have n1 : ¬ w2.heap.size = w.heap.size := by omega
    have n2 : ¬ w.heap.size = w2.heap.size := by omega
    have F1 : Hid (rs = downS s) := E1.out.trans ((if_neg (by omega)).trans ((if_neg (by omega)).trans (if_pos (by omega))))
    have F2 : Hid (rc = downC s c) := E2.out.trans (if_pos (by omega))
    have k8 : (b == 8) = false := by simp; omega
    have k9 : (b == 9) = false := by simp; omega
    have k10 : (b == 10) = false := by simp; omega
    have k11 : (b == 11) = false := by simp; omega
    have k12 : (b == 12) = true := by simp; omega
    clear hb
    have HDN : Hid (∀ w', So w' w1.heap.size M2 A2 T2 B2 → w2.heap.size ≤ w'.heap.size → Calls Try.prog 104 #[sV s M2 A2 T2 B2] w' (ReadPost w1.heap.size w2.heap.size w' rs rc)) := fun w' hs hl => by
      have := l09Down_any s M2 A2 T2 B2 c w1.heap.size w2.heap.size w' HQQ.out (fun k hk => (ho2.lt hk).2) hl hs hh2 (by have := hb2.size; omega)
      rwa [← F1.out, ← F2.out] at this
    go_wp2_with (first | (refine wp_store_blk rfl 49 _ _ rfl w2.heap.size (sC s M2 A2 T2 B2) rfl rfl 49 zC (heap_alloc_new _ _) size_scr rfl (sC_one s M2 A2 T2 B2) ?_; intro w3 b3 k3 zz3; have h3 : Below w2.heap.size w2 w3 := ((Below.refl _ _).alloc (Nat.le_refl _) _).trans (k3.below (fun k hk => by simp at hk; omega) (by simp)); have bP3 := (h3.block _ (Array.getElem?_eq_some_iff.1 b2).1).trans b2; have z3 := (h3.block _ zz2).trans z2; have qP : ∀ i, w3.cell? ⟨w.heap.size, i, none⟩ = _ := (fun i => cell_of_row w3 _ i _ _ (0, 0) bP3)) | (refine wpList_load_row rfl 49 _ rfl (w2.heap.size) rfl 49 (sC s M2 A2 T2 B2) (0, 0) _ b3 Try.underlying49 rfl size_scr ?_))
    have t3 := t2.trans (h3.mono t2.size)
    refine (HDN.out _ (ho2.below h3 (Nat.le_refl _)) h3.size).mono ?_
    rintro e w4 ⟨M4, A4, T4, B4, rfl, hh4, ho4, hn4, hv4, hb4⟩
    have y1 := t1.size
    have z4 := (hb4.block _ zz1).trans z3
    have y4 := hb4.size
    have y3 := h3.size
    have y2 := hb2.size
    clear qP b3 bP3 b2 z2
    go_wp2_with (first | (refine wp_store_blk rfl 49 _ _ rfl (w.heap.size + 1) (sC rs M4 A4 T4 B4) rfl rfl 49 zC z4 size_scr rfl (sC_one _ _ _ _ _) ?_; intro w7 B7 C7 z7))
    refine bodyPost_ret (results_cell_row Try.results47 _ _ (w.heap.size + 1) 49 (sC rs M4 A4 T4 B4) (0, 0) _ rfl B7 Try.underlying49 rfl size_scr) rfl ?_
    exact ⟨M4, A4, T4, B4, rfl, hh4, (ho4.chg C7 (fun k hk hm => by have := (ho4.lt hk).1; simp at hm; omega)).mono (by omega), (t3.trans (hb4.mono (by omega))).trans (C7.below (fun k hk => by simp at hk; omega) (by omega))⟩

set_option linter.unusedVariables false
set_option maxRecDepth 100000

set_option maxHeartbeats 4000000 in
theorem ctl_9 (s : Sc) (M A : Rw) (T : Ti) (B : Tr) (c : Cont) (b : Int) (w : World) (hr : Sr w M A T B) (hz : Sz M A T B 1048576) (hh : Hid (Holds M A T B c)) (hb : b = 9) :
    Calls Try.prog 47 #[sV s M A T B, .int .i64 b] w (ScrRead w (chS s c (ctlS s c b)) (chC s c (ctlC s c b))) := by
  have hno := Lib.hid (fun h => ch_no (s := s) (c := c) h (ctlS s c b) (ctlC s c b))
  have hyes := Lib.hid (fun h => ch_yes (s := s) (c := c) h (ctlS s c b) (ctlC s c b))
  obtain ⟨rs, hrs⟩ : ∃ x', Hid (x' = chS s c (ctlS s c b)) := ⟨_, Lib.hid rfl⟩
  obtain ⟨rc, hrc⟩ : ∃ x', Hid (x' = chC s c (ctlC s c b)) := ⟨_, Lib.hid rfl⟩
  rw [← hrs.out, ← hrc.out] at hno hyes ⊢
  have t0 : Below w.heap.size w ((w.alloc (.cells (sC s M A T B) 49)).alloc (.cells zC 49)) := bel2 _ _ _
  have b0 : ((w.alloc (.cells (sC s M A T B) 49)).alloc (.cells zC 49)).heap[w.heap.size]? = some (.cells (sC s M A T B) 49 (0, 0)) := heap_alloc_of _ (heap_alloc_new _ _)
  have z0 : ((w.alloc (.cells (sC s M A T B) 49)).alloc (.cells zC 49)).heap[w.heap.size + 1]? = some (.cells zC 49 (0, 0)) := hat2 _ _ _
  go_enter Try.func47, Try.ntmps47
  go_wp2_with (first | (refine wpList_load_row rfl 49 _ rfl (w.heap.size) rfl 49 (sC s M A T B) (0, 0) _ b0 Try.underlying49 rfl size_scr ?_))
  refine (scrOk_spec s M A T B _ (hr.below t0) hz).mono ?_
  rw [hh.out.eq]
  rintro e w1 ⟨he, hb1⟩
  have b1 := (hb1.block _ (Array.getElem?_eq_some_iff.1 b0).1).trans b0
  have z1 := (hb1.block _ (Array.getElem?_eq_some_iff.1 z0).1).trans z0
  have zz1 := (Array.getElem?_eq_some_iff.1 z1).1
  have t1 := t0.trans (hb1.mono t0.size)
  clear b0 z0
  cases hq : scrB s c with
  | false =>
    obtain ⟨e1, e2⟩ := hno.out hq
    subst e1 e2
    rw [hq] at he
    subst he
    clear hq hno hyes hrs hrc
    go_wp2_with (first | (refine wp_store_blk rfl 49 _ _ rfl (w.heap.size + 1) zC rfl rfl 49 zC z1 size_scr rfl (by simp [Value.oneCell']) ?_; intro w7 B7 C7 z7))
    refine bodyPost_ret (results_cell_row Try.results47 _ _ (w.heap.size + 1) 49 zC (0, 0) _ rfl B7 Try.underlying49 rfl size_scr) rfl ?_
    exact read_nil (t1.trans (C7.below (fun k hk => by simp at hk; omega) (by omega)))
  | true =>
    obtain ⟨e1, e2⟩ := hyes.out hq
    have E1 := Lib.hid e1
    clear e1
    have E2 := Lib.hid e2
    clear e2
    have hq' : scrB s ⟨M.2.2, A.2.2, T.2.2, rcs B.2.2⟩ = true := by rw [hh.out.eq]; exact hq
    obtain ⟨⟨d1, d2⟩, d3, d4⟩ := scr_dims hq
    rw [hq] at he
    subst he
    have HQ := Lib.hid hq'
    have HQQ := Lib.hid hq
    clear hq hno hyes hrs hrc hq'
    go_wp2_with (first | (refine wpList_load_row rfl 49 _ rfl (w.heap.size) rfl 49 (sC s M A T B) (0, 0) _ b1 Try.underlying49 rfl size_scr ?_))
    refine (l09Copy_any s M A T B _ (hr.below t1) hz HQ.out).mono ?_
    rw [hh.out.eq]
    rintro e w2 ⟨M2, A2, T2, B2, rfl, hh2, ho2, hb2⟩
    have b2 := (hb2.block _ (Array.getElem?_eq_some_iff.1 b1).1).trans b1
    have z2 := (hb2.block _ (Array.getElem?_eq_some_iff.1 z1).1).trans z1
    have zz2 := (Array.getElem?_eq_some_iff.1 z2).1
    have x2 := hb2.size
    have t2 := t1.trans (hb2.mono t1.size)
    clear b1 z1
    have n1 : ¬ w2.heap.size = w.heap.size := by omega
    have n2 : ¬ w.heap.size = w2.heap.size := by omega
    have F1 : Hid (rs = goS s (tabN c.t s.X s.W) s.Y) := E1.out.trans ((if_neg (by omega)).trans (if_pos hb))
    have F2 : Hid (rc = c) := E2.out.trans (if_neg (by omega))
    obtain ⟨_, ⟨x1, x2', _, _⟩, _, _⟩ := scr_nums HQQ.out
    have ew : IntKind.i64.wrap (s.W - 1) = s.W - 1 := by rw [IntKind.wrap_i64]; omega
    obtain ⟨tA, tc, ts⟩ := T
    have hts : ts = c.t := hh.out.2.2.1
    obtain ⟨_, _, hl3, _, _⟩ := id hz
    simp only at hl3
    have hcs : Cs w tA (ts.map I) := hr.gt
    have ew2 : IntKind.i64.wrap ((ts.length : Int) - 1) = (ts.length : Int) - 1 := by rw [IntKind.wrap_i64]; omega
    rw [← hts] at F1
    clear hts
    have HGO : Hid (∀ w', Below w.heap.size w w' → Calls Try.prog 39 #[sV s M A (tA, tc, ts) B, .int .i64 (tabN ts s.X s.W), .int .i64 s.Y] w' (ScrOwn w' rs c)) := fun w' hb => by
      have := scrGo_spec s M A (tA, tc, ts) B c (tabN ts s.X s.W) s.Y w' (hr.below hb) hz hh
      rw [(ch_yes HQQ.out _ c).1, (ch_yes HQQ.out (goS s s.X s.Y) c).2, ← F1.out] at this
      exact this
    have k8 : (b == 8) = false := by simp; omega
    have k9 : (b == 9) = true := by simp; omega
    clear hb
    go_wp2_with (first | (refine wp_store_blk rfl 49 _ _ rfl w2.heap.size (sC s M2 A2 T2 B2) rfl rfl 49 zC (heap_alloc_new _ _) size_scr rfl (sC_one s M2 A2 T2 B2) ?_; intro w3 b3 k3 zz3; have h3 : Below w2.heap.size w2 w3 := ((Below.refl _ _).alloc (Nat.le_refl _) _).trans (k3.below (fun k hk => by simp at hk; omega) (by simp)); have bP3 := (h3.block _ (Array.getElem?_eq_some_iff.1 b2).1).trans b2; have z3 := (h3.block _ zz2).trans z2; have qP : ∀ i, w3.cell? ⟨w.heap.size, i, none⟩ = _ := (fun i => cell_of_row w3 _ i _ _ (0, 0) bP3)) | (refine wpList_load_row rfl 49 _ rfl (w.heap.size) rfl 49 (sC s M A (tA, tc, ts) B) (0, 0) _ bP3 Try.underlying49 rfl size_scr ?_))
    have t3 := t2.trans (h3.mono t2.size)
    have zz3 := (Array.getElem?_eq_some_iff.1 z3).1
    have zp3 := (Array.getElem?_eq_some_iff.1 bP3).1
    go_loopw [6, 7] (fun x i wr => ∃ k : Nat, k ≤ ts.length ∧ i = .int .i64 ((k : Int) - 1) ∧ x = .int .i64 (tabN (ts.drop k) s.X s.W) ∧ Below w3.heap.size w3 wr) (fun _ i _ => (intOf i + 1).toNat)
    case atStart => exact ⟨ts.length, Nat.le_refl _, rfl, by rw [List.drop_length]; rfl, Below.refl _ _⟩
    case round =>
      obtain ⟨k, hk, rfl, rfl, hb9⟩ := hrel
      have bP9 := (hb9.block _ zp3).trans bP3
      have z9 := (hb9.block _ zz3).trans z3
      have q9 : ∀ i, wr.cell? ⟨w.heap.size, i, none⟩ = _ := fun i => cell_of_row wr _ i _ _ (0, 0) bP9
      dsimp only [sC, tv, bv, rv] at q9
      have t9 := t3.trans (hb9.mono t3.size)
      cases k with
      | zero =>
        have em : ¬ (0 : Int) ≤ ((0 : Nat) : Int) - 1 := by omega
        have HX : Hid (tabN (ts.drop 0) s.X s.W = tabN ts s.X s.W) := rfl
        rw [HX.out]
        clear b3 bP3 qP
        go_wp2_with (first | (refine wpList_load_row rfl 49 _ rfl (w.heap.size) rfl 49 (sC s M A (tA, tc, ts) B) (0, 0) _ bP9 Try.underlying49 rfl size_scr ?_))
        refine (HGO.out _ t9).mono ?_
        rintro e w4 ⟨M4, A4, T4, B4, rfl, hh4, ho4, hb4⟩
        have z4 := (hb4.block _ (Array.getElem?_eq_some_iff.1 z9).1).trans z9
        have x3 := (Array.getElem?_eq_some_iff.1 z9).1
        have t4 := t9.trans (hb4.mono t9.size)
        clear q9 bP9
        go_wp2_with (first | (refine wp_store_blk rfl 49 _ _ rfl (w.heap.size + 1) (sC rs M4 A4 T4 B4) rfl rfl 49 zC z4 size_scr rfl (sC_one _ _ _ _ _) ?_; intro w7 B7 C7 z7))
        refine bodyPost_ret (results_cell_row Try.results47 _ _ (w.heap.size + 1) 49 (sC rs M4 A4 T4 B4) (0, 0) _ rfl B7 Try.underlying49 rfl size_scr) rfl ?_
        rw [F2.out]
        exact ⟨M4, A4, T4, B4, rfl, hh4, (Wk.of_so (ho4.chg C7 (fun k hk hm => by have := (ho4.lt hk).1; simp at hm; omega))).mono (by omega), t4.trans (C7.below (fun k hk => by simp at hk; omega) (by have := t4.size; omega))⟩
      | succ u =>
        have hlu : u < ts.length := by omega
        obtain ⟨tb, tq, rfl, hx⟩ := (hcs.below t9).ints hlu
        have hu0 : (0 : Int) ≤ (u : Int) := Int.natCast_nonneg u
        have hlu' : (u : Int) < ts.length := by omega
        have ewu : IntKind.i64.wrap ((u : Int) - 1) = (u : Int) - 1 := by rw [IntKind.wrap_i64]; omega
        have hD := tabN_drop (X := s.X) (W := s.W) hlu
        obtain ⟨x, hxe⟩ : ∃ x, Hid (x = ts[u]) := ⟨ts[u], Lib.hid rfl⟩
        rw [← hxe.out] at hx hD
        obtain ⟨y, hy⟩ : ∃ y, Hid (y = tabN (ts.drop (u + 1)) s.X s.W) := ⟨_, Lib.hid rfl⟩
        rw [← hy.out] at hD ⊢
        have HD := Lib.hid hD
        clear hD
        rw [show ((u + 1 : Nat) : Int) - 1 = (u : Int) by omega]
        by_cases hgt : s.X < x
        · go_wp2_with fail
          go_region
          go_wp2_with fail
          go_roundw
          case rel => exact ⟨u, by omega, rfl, by rw [HD.out, if_pos hgt], hb9.drew⟩
          case measure => simp [intOf]
        · go_wp2_with fail
          go_region
          go_wp2_with fail
          go_roundw
          case rel => exact ⟨u, by omega, rfl, by rw [HD.out, if_neg (by omega)], hb9.drew⟩
          case measure => simp [intOf]

set_option linter.unusedVariables false
set_option maxRecDepth 100000

theorem scrCtl_spec (s : Sc) (M A : Rw) (T : Ti) (B : Tr) (c : Cont) (b : Int) (w : World) (hr : Sr w M A T B) (hz : Sz M A T B 1048576) (hh : Hid (Holds M A T B c)) :
    Calls Try.prog 47 #[sV s M A T B, .int .i64 b] w (ScrRead w (chS s c (ctlS s c b)) (chC s c (ctlC s c b))) := by
  by_cases h8 : b = 8
  · exact ctl_8 s M A T B c b w hr hz hh h8
  by_cases h9 : b = 9
  · exact ctl_9 s M A T B c b w hr hz hh h9
  by_cases h10 : b = 10
  · exact ctl_10 s M A T B c b w hr hz hh h10
  by_cases h11 : b = 11
  · exact ctl_11 s M A T B c b w hr hz hh h11
  by_cases h12 : b = 12
  · exact ctl_12 s M A T B c b w hr hz hh h12
  by_cases h13 : b = 13
  · exact ctl_13 s M A T B c b w hr hz hh h13
  exact ctl_no s M A T B c b w hr hz hh ⟨h8, h9, h10, h11, h12, h13⟩
end Go.Proofs.Ytnilgcahggmncaa
