/- The grid that is shown: both ways. -/
import Derived.Test.YtnilgcahggmncaaWm
import Derived.Test.YtnilgcahggmncaaGk
import Derived.Test.YtnilgcahggmncaaGw
namespace Go.Proofs.Ytnilgcahggmncaa
open Go.RowKit
set_option linter.unusedVariables false
set_option maxRecDepth 100000

/-- The grid that is shown. -/
def shG (s : Sc) (c : Cont) : Gr := if s.onA = true then (s.aW, s.aH, c.a) else (s.mW, s.mH, c.m)
/-- What Shown answers. -/
def swR (s : Sc) (c : Cont) : Gr := if scrB s c = true then shG s c else gr0
theorem sw_no {s : Sc} {c : Cont} (h : scrB s c = false) : swR s c = gr0 := if_neg (by rw [h]; simp)
theorem sw_yes {s : Sc} {c : Cont} (h : scrB s c = true) : swR s c = shG s c := if_pos h
theorem scr_grids {s : Sc} {c : Cont} (h : scrB s c = true) : gridB s.mW s.mH c.m = true ∧ gridB s.aW s.aH c.a = true ∧ numB s c.b.length = true ∧ ascB c.t s.W = true ∧ rowsB c.b = true := by
  simpa [scrB, and_assoc] using h
theorem grid_pos {W H : Int} {cs : List Cl} (h : gridB W H cs = true) : 0 < cs.length ∧ cs.length ≤ 4000 := by
  obtain ⟨⟨a, b⟩, ⟨c, d⟩, e, f⟩ := grid_len h
  obtain ⟨p, q⟩ := prod_bd a b c d
  omega
theorem l09Shown_any (s : Sc) (M A : Rw) (T : Ti) (B : Tr) (w : World) :
    Calls Try.prog 91 #[sV s M A T B] w fun e w' => e = .returned (if s.onA = true then gV s.aW s.aH A.1 A.2.2.length A.2.1 else gV s.mW s.mH M.1 M.2.2.length M.2.1) ∧ Below w.heap.size w w' := by
  cases ho : s.onA with
  | true =>
    go_enter Try.func91, Try.ntmps91
    go_wp2_with fail
    refine bodyPost_ret (v := gV s.aW s.aH A.1 A.2.2.length A.2.1) (by simp [results, Try.results91, go_sem, *]) rfl ⟨rfl, (by (repeat (first | exact Below.refl _ _ | (refine Below.alloc ?_ (by first | omega | (simp; done) | (simp; omega)) _) | (refine Below.drew ?_) | (refine below_drewN ?_ _) | (refine below_at1 ?_ (by first | omega | (simp; done) | (simp; omega))) | (refine Below.setCell ?_ (by first | omega | (simp; done) | (simp; omega)) _) | (refine Below.trans ?_ (Below.mono (by assumption) (by first | omega | (simp; done) | (simp; omega)))))))⟩
  | false =>
    go_enter Try.func91, Try.ntmps91
    go_wp2_with fail
    refine bodyPost_ret (v := gV s.mW s.mH M.1 M.2.2.length M.2.1) (by simp [results, Try.results91, go_sem, *]) rfl ⟨rfl, (by (repeat (first | exact Below.refl _ _ | (refine Below.alloc ?_ (by first | omega | (simp; done) | (simp; omega)) _) | (refine Below.drew ?_) | (refine below_drewN ?_ _) | (refine below_at1 ?_ (by first | omega | (simp; done) | (simp; omega))) | (refine Below.setCell ?_ (by first | omega | (simp; done) | (simp; omega)) _) | (refine Below.trans ?_ (Below.mono (by assumption) (by first | omega | (simp; done) | (simp; omega)))))))⟩
/-- The grid that is shown, in a screen's own block. -/
theorem shown_alt (s : Sc) (M A : Rw) (T : Ti) (B : Tr) (g : Nat) (w : World) (hb : w.heap[g]? = some (.cells (sC s M A T B) 49 (0, 0))) (ho : s.onA = true) :
    Calls Try.prog 92 #[.pointer (some ⟨g, 0, none⟩)] w fun e w' => e = .returned (.pointer (some ⟨g, 5, none⟩)) ∧ w' = w := by
  have q : ∀ i, w.cell? ⟨g, i, none⟩ = _ := fun i => cell_of_row w _ i _ _ (0, 0) hb
  go_enter Try.func92, Try.ntmps92
  go_wp2_with fail
  go_ret
  exact ⟨rfl, rfl⟩
theorem shown_main (s : Sc) (M A : Rw) (T : Ti) (B : Tr) (g : Nat) (w : World) (hb : w.heap[g]? = some (.cells (sC s M A T B) 49 (0, 0))) (ho : s.onA = false) :
    Calls Try.prog 92 #[.pointer (some ⟨g, 0, none⟩)] w fun e w' => e = .returned (.pointer (some ⟨g, 2, none⟩)) ∧ w' = w := by
  have q : ∀ i, w.cell? ⟨g, i, none⟩ = _ := fun i => cell_of_row w _ i _ _ (0, 0) hb
  go_enter Try.func92, Try.ntmps92
  go_wp2_with fail
  go_ret
  exact ⟨rfl, rfl⟩
set_option maxHeartbeats 2000000 in
theorem shown_spec (s : Sc) (M A : Rw) (T : Ti) (B : Tr) (c : Cont) (w : World) (hr : Sr w M A T B) (hz : Sz M A T B 1048576) (hh : Hid (Holds M A T B c)) :
    Calls Try.prog 35 #[sV s M A T B] w (GridPost w (swR s c).1 (swR s c).2.1 (swR s c).2.2) := by
  obtain ⟨cm, ca, ct, cb⟩ := c
  obtain ⟨p1, p2, p3, p4⟩ := hh.out
  simp only at p1 p2 p3 p4
  subst p1 p2 p3 p4
  clear hh
  have t0 : Below w.heap.size w ((w.alloc (.cells (sC s M A T B) 49)).alloc (.cells #[.int .i64 0, .int .i64 0, .slice none 0 0] 29)) := ((Below.refl _ _).alloc (Nat.le_refl _) _).alloc (by simp) _
  have b0 : ((w.alloc (.cells (sC s M A T B) 49)).alloc (.cells #[.int .i64 0, .int .i64 0, .slice none 0 0] 29)).heap[w.heap.size]? = some (.cells (sC s M A T B) 49 (0, 0)) := heap_alloc_of _ (heap_alloc_new _ _)
  have hR1 := Lib.hid (sw_no (s := s) (c := ⟨M.2.2, A.2.2, T.2.2, rcs B.2.2⟩))
  have hR2 := Lib.hid (sw_yes (s := s) (c := ⟨M.2.2, A.2.2, T.2.2, rcs B.2.2⟩))
  obtain ⟨R, HR⟩ : ∃ R, Hid (R = swR s ⟨M.2.2, A.2.2, T.2.2, rcs B.2.2⟩) := ⟨_, Lib.hid rfl⟩
  rw [← HR.out] at hR1 hR2 ⊢
  go_enter Try.func35, Try.ntmps35
  go_wp2_with (first | (refine wpList_load_row rfl 49 _ rfl (w.heap.size) rfl 49 (sC s M A T B) (0, 0) _ b0 Try.underlying49 rfl size_scr ?_))
  refine (scrOk_spec s M A T B _ (hr.below t0) hz).mono ?_
  rintro e w1 ⟨he, hb1⟩
  obtain ⟨B1, q1, r1, z1⟩ := keep_blk hb1 (g := w.heap.size) b0
  obtain ⟨D1, qd1, rd1, zd1⟩ := keep_blk hb1 (g := w.heap.size + 1) (heap_alloc_at _ (by simp))
  have t1 := t0.trans (hb1.mono t0.size)
  cases hq : scrB s ⟨M.2.2, A.2.2, T.2.2, rcs B.2.2⟩ with
  | false =>
    have HN := Lib.hid (hR1.out hq)
    rw [hq] at he
    subst he
    clear hq hR1 hR2
    go_wp2_with fail
    exact bodyPost_ret (v := .agg #[.int .i64 0, .int .i64 0, .slice none 0 0]) (by simp [results, Try.results35, go_sem, *]) rfl (gp_nil (((t1.setCell (by first | omega | (simp; done) | (simp; omega)) _).setCell (by first | omega | (simp; done) | (simp; omega)) _).setCell (by first | omega | (simp; done) | (simp; omega)) _) R HN.out)
  | true =>
    have HN := Lib.hid (hR2.out hq)
    rw [hq] at he
    subst he
    obtain ⟨e1, e2, _, _, _⟩ := scr_grids hq
    obtain ⟨f1, f2⟩ := grid_pos e1
    obtain ⟨f3, f4⟩ := grid_pos e2
    clear hq hR1 hR2 e1 e2
    go_wp2_with (first | (refine wpList_load_row rfl 49 _ rfl (w.heap.size) rfl 49 (sC s M A T B) (0, 0) _ B1 Try.underlying49 rfl size_scr ?_))
    refine (l09Shown_any s M A T B _).mono ?_
    rintro e w2 ⟨he, hb2⟩
    obtain ⟨D2, qd2, rd2, zd2⟩ := keep_blk hb2 D1
    have t2 := t1.trans (hb2.mono t1.size)
    clear B1 q1 r1 D1 qd1 rd1
    cases ho : s.onA with
    | true =>
      rw [if_pos ho] at he
      subst he
      rw [shG, if_pos ho] at HN
      clear ho
      go_wp2_with fail
      refine (l07Copy_any s.aW s.aH A.1 A.2.1 A.2.2 _ (hr.ga.below t2) f3 (by omega)).mono ?_
      rintro e w3 ⟨A3, c3, rfl, ho3, hs3, hi3, hb3⟩
      obtain ⟨D3, qd3, rd3, zd3⟩ := keep_blk hb3 D2
      have t3 := t2.trans (hb3.mono t2.size)
      go_wp2_with fail
      have hR := HN.out
      subst hR
      have ho4 := (((ho3.setCell (p := ⟨w.heap.size + 1, 0, none⟩) (by first | omega | (simp; done) | (simp; omega)) (.int .i64 s.aW)).setCell (p := ⟨w.heap.size + 1, 1, none⟩) (by first | omega | (simp; done) | (simp; omega)) (.int .i64 s.aH)).setCell (p := ⟨w.heap.size + 1, 2, none⟩) (by first | omega | (simp; done) | (simp; omega)) (.slice A3 A.2.2.length c3)).mono t2.size
      refine bodyPost_ret (v := gV s.aW s.aH A3 A.2.2.length c3) (by simp [results, Try.results35, go_sem, *]) rfl ⟨A3, c3, rfl, ho4, ho4.gs, ho4.inB, ((t3.setCell (by first | omega | (simp; done) | (simp; omega)) _).setCell (by first | omega | (simp; done) | (simp; omega)) _).setCell (by first | omega | (simp; done) | (simp; omega)) _⟩
    | false =>
      rw [if_neg (by rw [ho]; simp)] at he
      subst he
      rw [shG, if_neg (by rw [ho]; simp)] at HN
      clear ho
      go_wp2_with fail
      refine (l07Copy_any s.mW s.mH M.1 M.2.1 M.2.2 _ (hr.gm.below t2) f1 (by omega)).mono ?_
      rintro e w3 ⟨A3, c3, rfl, ho3, hs3, hi3, hb3⟩
      obtain ⟨D3, qd3, rd3, zd3⟩ := keep_blk hb3 D2
      have t3 := t2.trans (hb3.mono t2.size)
      go_wp2_with fail
      have hR := HN.out
      subst hR
      have ho4 := (((ho3.setCell (p := ⟨w.heap.size + 1, 0, none⟩) (by first | omega | (simp; done) | (simp; omega)) (.int .i64 s.mW)).setCell (p := ⟨w.heap.size + 1, 1, none⟩) (by first | omega | (simp; done) | (simp; omega)) (.int .i64 s.mH)).setCell (p := ⟨w.heap.size + 1, 2, none⟩) (by first | omega | (simp; done) | (simp; omega)) (.slice A3 M.2.2.length c3)).mono t2.size
      refine bodyPost_ret (v := gV s.mW s.mH A3 M.2.2.length c3) (by simp [results, Try.results35, go_sem, *]) rfl ⟨A3, c3, rfl, ho4, ho4.gs, ho4.inB, ((t3.setCell (by first | omega | (simp; done) | (simp; omega)) _).setCell (by first | omega | (simp; done) | (simp; omega)) _).setCell (by first | omega | (simp; done) | (simp; omega)) _⟩
set_option maxHeartbeats 2000000 in
theorem shown_impl (s : Sc) (M A : Rw) (T : Ti) (B : Tr) (c : Cont) (w : World) (hr : Sr w M A T B) (hz : Sz M A T B 1048576) (hh : Hid (Holds M A T B c)) :
    Calls Try.prog 36 #[sV s M A T B] w (GridPost w (swR s c).1 (swR s c).2.1 (swR s c).2.2) := by
  obtain ⟨cm, ca, ct, cb⟩ := c
  obtain ⟨p1, p2, p3, p4⟩ := hh.out
  simp only at p1 p2 p3 p4
  subst p1 p2 p3 p4
  clear hh
  have t0 : Below w.heap.size w ((w.alloc (.cells (sC s M A T B) 49)).alloc (.cells #[.int .i64 0, .int .i64 0, .slice none 0 0] 29)) := ((Below.refl _ _).alloc (Nat.le_refl _) _).alloc (by simp) _
  have b0 : ((w.alloc (.cells (sC s M A T B) 49)).alloc (.cells #[.int .i64 0, .int .i64 0, .slice none 0 0] 29)).heap[w.heap.size]? = some (.cells (sC s M A T B) 49 (0, 0)) := heap_alloc_of _ (heap_alloc_new _ _)
  have hR1 := Lib.hid (sw_no (s := s) (c := ⟨M.2.2, A.2.2, T.2.2, rcs B.2.2⟩))
  have hR2 := Lib.hid (sw_yes (s := s) (c := ⟨M.2.2, A.2.2, T.2.2, rcs B.2.2⟩))
  obtain ⟨R, HR⟩ : ∃ R, Hid (R = swR s ⟨M.2.2, A.2.2, T.2.2, rcs B.2.2⟩) := ⟨_, Lib.hid rfl⟩
  rw [← HR.out] at hR1 hR2 ⊢
  go_enter Try.func36, Try.ntmps36
  go_wp2_with (first | (refine wpList_load_row rfl 49 _ rfl (w.heap.size) rfl 49 (sC s M A T B) (0, 0) _ b0 Try.underlying49 rfl size_scr ?_))
  refine (scrOk_impl s M A T B _ (hr.below t0) hz).mono ?_
  rintro e w1 ⟨he, hb1⟩
  obtain ⟨B1, q1, r1, z1⟩ := keep_blk hb1 (g := w.heap.size) b0
  obtain ⟨D1, qd1, rd1, zd1⟩ := keep_blk hb1 (g := w.heap.size + 1) (heap_alloc_at _ (by simp))
  have t1 := t0.trans (hb1.mono t0.size)
  cases hq : scrB s ⟨M.2.2, A.2.2, T.2.2, rcs B.2.2⟩ with
  | false =>
    have HN := Lib.hid (hR1.out hq)
    rw [hq] at he
    subst he
    clear hq hR1 hR2
    go_wp2_with fail
    exact bodyPost_ret (v := .agg #[.int .i64 0, .int .i64 0, .slice none 0 0]) (by simp [results, Try.results36, go_sem, *]) rfl (gp_nil (((t1.setCell (by first | omega | (simp; done) | (simp; omega)) _).setCell (by first | omega | (simp; done) | (simp; omega)) _).setCell (by first | omega | (simp; done) | (simp; omega)) _) R HN.out)
  | true =>
    have HN := Lib.hid (hR2.out hq)
    rw [hq] at he
    subst he
    obtain ⟨e1, e2, _, _, _⟩ := scr_grids hq
    obtain ⟨f1, f2⟩ := grid_pos e1
    obtain ⟨f3, f4⟩ := grid_pos e2
    clear hq hR1 hR2 e1 e2
    cases ho : s.onA with
    | true =>
      rw [shG, if_pos ho] at HN
      go_wp2_with fail
      refine (shown_alt s M A T B w.heap.size _ B1 ho).mono ?_
      rintro e w2 ⟨rfl, rfl⟩
      go_wp2_with fail
      refine (copyGrid_any s.aW s.aH A.1 A.2.1 A.2.2 _ (hr.ga.below t1) f3 (by omega)).mono ?_
      rintro e w3 ⟨A3, c3, rfl, ho3, hs3, hi3, hb3⟩
      obtain ⟨D3, qd3, rd3, zd3⟩ := keep_blk hb3 D1
      have t3 := t1.trans (hb3.mono t1.size)
      clear B1 q1 r1 D1 qd1 rd1
      go_wp2_with fail
      have hR := HN.out
      subst hR
      have ho4 := (((ho3.setCell (p := ⟨w.heap.size + 1, 0, none⟩) (by first | omega | (simp; done) | (simp; omega)) (.int .i64 s.aW)).setCell (p := ⟨w.heap.size + 1, 1, none⟩) (by first | omega | (simp; done) | (simp; omega)) (.int .i64 s.aH)).setCell (p := ⟨w.heap.size + 1, 2, none⟩) (by first | omega | (simp; done) | (simp; omega)) (.slice A3 A.2.2.length c3)).mono t1.size
      refine bodyPost_ret (v := gV s.aW s.aH A3 A.2.2.length c3) (by simp [results, Try.results36, go_sem, *]) rfl ⟨A3, c3, rfl, ho4, ho4.gs, ho4.inB, ((t3.setCell (by first | omega | (simp; done) | (simp; omega)) _).setCell (by first | omega | (simp; done) | (simp; omega)) _).setCell (by first | omega | (simp; done) | (simp; omega)) _⟩
    | false =>
      rw [shG, if_neg (by rw [ho]; simp)] at HN
      go_wp2_with fail
      refine (shown_main s M A T B w.heap.size _ B1 ho).mono ?_
      rintro e w2 ⟨rfl, rfl⟩
      go_wp2_with fail
      refine (copyGrid_any s.mW s.mH M.1 M.2.1 M.2.2 _ (hr.gm.below t1) f1 (by omega)).mono ?_
      rintro e w3 ⟨A3, c3, rfl, ho3, hs3, hi3, hb3⟩
      obtain ⟨D3, qd3, rd3, zd3⟩ := keep_blk hb3 D1
      have t3 := t1.trans (hb3.mono t1.size)
      clear B1 q1 r1 D1 qd1 rd1
      go_wp2_with fail
      have hR := HN.out
      subst hR
      have ho4 := (((ho3.setCell (p := ⟨w.heap.size + 1, 0, none⟩) (by first | omega | (simp; done) | (simp; omega)) (.int .i64 s.mW)).setCell (p := ⟨w.heap.size + 1, 1, none⟩) (by first | omega | (simp; done) | (simp; omega)) (.int .i64 s.mH)).setCell (p := ⟨w.heap.size + 1, 2, none⟩) (by first | omega | (simp; done) | (simp; omega)) (.slice A3 M.2.2.length c3)).mono t1.size
      refine bodyPost_ret (v := gV s.mW s.mH A3 M.2.2.length c3) (by simp [results, Try.results36, go_sem, *]) rfl ⟨A3, c3, rfl, ho4, ho4.gs, ho4.inB, ((t3.setCell (by first | omega | (simp; done) | (simp; omega)) _).setCell (by first | omega | (simp; done) | (simp; omega)) _).setCell (by first | omega | (simp; done) | (simp; omega)) _⟩
end Go.Proofs.Ytnilgcahggmncaa
