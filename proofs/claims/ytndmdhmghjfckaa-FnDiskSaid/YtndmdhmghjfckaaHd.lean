/- Copies of a disk: the reference's. -/
import Derived.Test.YtndmdhmghjfckaaHc
import Derived.Test.YtndmdhmghjfckaaJc
import Derived.Test.YtndmdhmghjfckaaKf
namespace Go.Proofs.Ytndmdhmghjfckaa
open Go.RowKit
set_option linter.unusedVariables false
set_option maxRecDepth 100000

theorem keep_lo {lo : Nat} {W w1 : World} (hb : Below lo W w1) {g : Nat} {t : TypeId} {cs : Array Value} (hg : g < lo) (hB : W.heap[g]? = some (.cells cs t (0, 0))) :
    w1.heap[g]? = some (.cells cs t (0, 0)) ∧ (∀ i, w1.cell? ⟨g, i, none⟩ = cs[i]?) ∧ (∀ i, w1.frozen? ⟨g, i, none⟩ = false) ∧ g < w1.heap.size := by
  have h1 : w1.heap[g]? = some (.cells cs t (0, 0)) := (hb.block g hg).trans hB
  exact ⟨h1, fun i => cell_of_row w1 g i cs t (0, 0) h1, fun i => by simp [World.frozen?, h1], (Array.getElem?_eq_some_iff.1 h1).1⟩
abbrev zDk : Array Value := dkC 0 0 0 none 0 0 none 0 0 none 0 0
set_option maxHeartbeats 8000000 in
theorem l02Copy_any (r f n : Int) (FA : Option Addr) (es : List Fl) (c1 : Nat) (KA : Option Addr) (ks : List Lk) (c2 : Nat) (TA : Option Addr) (ts : List Tn) (c3 : Nat) (w : World) (hr : Dr w FA es KA ks TA ts) (hg : Good es ks ts) :
    Calls Try.prog 42 #[dkV r f n FA es.length c1 KA ks.length c2 TA ts.length c3] w (CpPost w r f n es ks ts) := by
  have hel := hg.el
  have hey := hg.ey
  have hkl := hg.kl
  have htl := hg.tl
  have hb0 : Below w.heap.size w ((w.alloc (.cells (dkC r f n FA es.length c1 KA ks.length c2 TA ts.length c3) 27)).alloc (.cells zDk 27)) := by (repeat (first | exact Below.refl _ _ | (refine Below.alloc ?_ (by first | omega | (simp; done) | (simp; omega)) _) | (refine Below.drew ?_) | (refine below_drewN ?_ _) | (refine below_at1 ?_ (by first | omega | (simp; done) | (simp; omega))) | (refine Below.setCell ?_ (by first | omega | (simp; done) | (simp; omega)) _) | (refine Below.trans ?_ (Below.mono (by assumption) (by first | omega | (simp; done) | (simp; omega))))))
  have hb1 := hb0.alloc hb0.size (.cells #[] 36)
  have B0 : (((w.alloc (.cells (dkC r f n FA es.length c1 KA ks.length c2 TA ts.length c3) 27)).alloc (.cells zDk 27)).alloc (.cells #[] 36)).heap[w.heap.size]? = some (.cells (dkC r f n FA es.length c1 KA ks.length c2 TA ts.length c3) 27 (0, 0)) := (by repeat (first | assumption | exact heap_alloc_at _ (by first | rfl | (simp; done) | omega) | refine heap_alloc_of _ ?_ | refine heap_setCell_of _ (by first | omega | (simp; done) | (simp; omega)) ?_ | refine heap_setCell_same _ ?_ | exact heap_at1_same (by first | omega | (simp; done) | (simp; omega)) | refine heap_at1_of (by first | omega | (simp; done) | (simp; omega)) ?_))
  have Z0 : (((w.alloc (.cells (dkC r f n FA es.length c1 KA ks.length c2 TA ts.length c3) 27)).alloc (.cells zDk 27)).alloc (.cells #[] 36)).heap[w.heap.size + 1]? = some (.cells zDk 27 (0, 0)) := (by repeat (first | assumption | exact heap_alloc_at _ (by first | rfl | (simp; done) | omega) | refine heap_alloc_of _ ?_ | refine heap_setCell_of _ (by first | omega | (simp; done) | (simp; omega)) ?_ | refine heap_setCell_same _ ?_ | exact heap_at1_same (by first | omega | (simp; done) | (simp; omega)) | refine heap_at1_of (by first | omega | (simp; done) | (simp; omega)) ?_))
  have hG0 : FsG (((w.alloc (.cells (dkC r f n FA es.length c1 KA ks.length c2 TA ts.length c3) 27)).alloc (.cells zDk 27)).alloc (.cells #[] 36)) (w.heap.size + 2) (((w.alloc (.cells (dkC r f n FA es.length c1 KA ks.length c2 TA ts.length c3) 27)).alloc (.cells zDk 27)).alloc (.cells #[] 36)).heap.size (some ⟨w.heap.size + 1 + 1, 0, none⟩) 0 [] :=
    ⟨Oe.emptyAt (by simp), fun ad had => by injection had with had; subst had; simp, by show _ ≤ _; simp, fun _ _ e he => by cases he⟩
  go_enter Try.func42, Try.ntmps42
  go_wp2_with fail
  go_loopw [3, 10] (fun fv iv wr => ∃ (k : Nat) (A5 : Option Addr) (c5 : Nat) (fs : List Fl), k ≤ es.length ∧ iv = .int .i64 k ∧ fv = .slice A5 fs.length c5 ∧ fs.length = k ∧ Hid (fs.map fc = (es.take k).map fc) ∧ FsG wr (w.heap.size + 2) wr.heap.size A5 c5 fs ∧ Below w.heap.size w wr ∧ wr.heap[w.heap.size]? = some (.cells (dkC r f n FA es.length c1 KA ks.length c2 TA ts.length c3) 27 (0, 0)) ∧ wr.heap[w.heap.size + 1]? = some (.cells zDk 27 (0, 0))) (fun _ iv _ => es.length - (intOf iv).toNat)
  case atStart => exact ⟨0, _, _, [], Nat.zero_le _, rfl, rfl, rfl, rfl, hG0, hb1, B0, Z0⟩
  case round =>
    clear hG0 hb1 B0 Z0 hb0
    obtain ⟨k, A5, c5, fs, hk, rfl, rfl, hfk, hd, hG, hb, B, Z⟩ := hrel
    have HFK := Lib.hid hfk
    clear hfk
    have zb := hb.size
    by_cases hlt : k < es.length
    · obtain ⟨b, o, rfl, hbs, x0, x1, x2, xb⟩ := Fs.get (hr.1.below hb) hlt
      have hlt' : (k : Int) < es.length := by omega
      have hx := hey _ (List.getElem_mem hlt)
      go_wp2_with fail
      obtain ⟨w1, hw1⟩ : ∃ w1, w1 = wr.alloc (.cells #[.int .i64 es[k].1, .slice es[k].2.1.1 es[k].2.1.2.2.length es[k].2.1.2.1, .int .i64 es[k].2.2] 36) := ⟨_, rfl⟩
      have b1 : Below wr.heap.size wr w1 := by rw [hw1]; exact (Below.refl _ _).alloc (Nat.le_refl _) _
      have s1 : Hid (w1.heap.size = wr.heap.size + 1) := by show _ = _; rw [hw1]; simp
      have F1 : w1.heap[wr.heap.size]? = some (.cells #[.int .i64 es[k].1, .slice es[k].2.1.1 es[k].2.1.2.2.length es[k].2.1.2.1, .int .i64 es[k].2.2] 36 (0, 0)) := by rw [hw1]; exact heap_alloc_new _ _
      rw [← hw1]
      clear hw1
      have x0d : w1.drew.heap[wr.heap.size]? = some (.cells #[.int .i64 es[k].1, .slice es[k].2.1.1 es[k].2.1.2.2.length es[k].2.1.2.1, .int .i64 es[k].2.2] 36 (0, 0)) := F1
      have bd : Below wr.heap.size wr w1.drew := b1.drew
      have hA5 := hG.1
      clear x0 x1 x2
      refine wp_region_held_drew (S := fun w' => w'.heap[wr.heap.size]? = some (.cells #[.int .i64 es[k].1, .slice es[k].2.1.1 es[k].2.1.2.2.length es[k].2.1.2.1, .int .i64 es[k].2.2] 36 (0, 0))) (by kernel_rfl) (x0d) (fun _ => ?_)
      refine wpAnyH_take (i := 0) (v := .slice A5 fs.length c5) rfl (by kernel_rfl) (by kernel_rfl) (by kernel_rfl) (fun _ _ _ h => h) (Or.inl ⟨by rfl, (by intro w' hS; skip; go_simp; try first | rfl | (simp [*, Addr.add_lit]; done))⟩) (x0d) ?_
      try simp only [Act.put, List.getElem_toArray, List.getElem_cons_zero, List.setIfInBounds_toArray, List.set_cons_zero, List.set_cons_succ]
      refine wpAnyH_take (i := 1) (v := .pointer (some ⟨wr.heap.size, 0, none⟩)) rfl (by kernel_rfl) (by kernel_rfl) (by kernel_rfl) (fun _ _ _ h => h) (Or.inl ⟨by rfl, (by intro w' hS; skip; go_simp; try first | rfl | (simp [*, Addr.add_lit]; done))⟩) (x0d) ?_
      try simp only [Act.put, List.getElem_toArray, List.getElem_cons_succ, List.getElem_cons_zero, List.setIfInBounds_toArray, List.set_cons_zero, List.set_cons_succ]
      refine wpAnyH_take (i := 2) (v := .int .i64 es[k].1) rfl (by kernel_rfl) (by kernel_rfl) (by kernel_rfl) (fun _ _ _ h => h) (Or.inl ⟨by rfl, (by intro w' hS; have q : ∀ i, w'.cell? ⟨wr.heap.size, i, none⟩ = _ := fun i => cell_of_row w' _ i _ _ (0, 0) hS; go_simp; try first | rfl | (simp [*, Addr.add_lit]; done))⟩) (x0d) ?_
      try simp only [Act.put, List.getElem_toArray, List.getElem_cons_succ, List.getElem_cons_zero, List.setIfInBounds_toArray, List.set_cons_zero, List.set_cons_succ]
      refine wpAnyH_take (i := 4) (v := .pointer (some ⟨wr.heap.size, 1, none⟩)) rfl (by kernel_rfl) (by kernel_rfl) (by kernel_rfl) (fun _ _ _ h => h) (Or.inl ⟨by rfl, (by intro w' hS; skip; go_simp; try first | rfl | (simp [*, Addr.add_lit]; done))⟩) (x0d) ?_
      try simp only [Act.put, List.getElem_toArray, List.getElem_cons_succ, List.getElem_cons_zero, List.setIfInBounds_toArray, List.set_cons_zero, List.set_cons_succ]
      refine wpAnyH_take (i := 5) (v := .slice es[k].2.1.1 es[k].2.1.2.2.length es[k].2.1.2.1) rfl (by kernel_rfl) (by kernel_rfl) (by kernel_rfl) (fun _ _ _ h => h) (Or.inl ⟨by rfl, (by intro w' hS; have q : ∀ i, w'.cell? ⟨wr.heap.size, i, none⟩ = _ := fun i => cell_of_row w' _ i _ _ (0, 0) hS; go_simp; try first | rfl | (simp [*, Addr.add_lit]; done))⟩) (x0d) ?_
      try simp only [Act.put, List.getElem_toArray, List.getElem_cons_succ, List.getElem_cons_zero, List.setIfInBounds_toArray, List.set_cons_zero, List.set_cons_succ]
      refine wpAnyH_take (i := 7) (v := .pointer (some ⟨wr.heap.size, 2, none⟩)) rfl (by kernel_rfl) (by kernel_rfl) (by kernel_rfl) (fun _ _ _ h => h) (Or.inl ⟨by rfl, (by intro w' hS; skip; go_simp; try first | rfl | (simp [*, Addr.add_lit]; done))⟩) (x0d) ?_
      try simp only [Act.put, List.getElem_toArray, List.getElem_cons_succ, List.getElem_cons_zero, List.setIfInBounds_toArray, List.set_cons_zero, List.set_cons_succ]
      refine wpAnyH_take (i := 8) (v := .int .i64 es[k].2.2) rfl (by kernel_rfl) (by kernel_rfl) (by kernel_rfl) (fun _ _ _ h => h) (Or.inl ⟨by rfl, (by intro w' hS; have q : ∀ i, w'.cell? ⟨wr.heap.size, i, none⟩ = _ := fun i => cell_of_row w' _ i _ _ (0, 0) hS; go_simp; try first | rfl | (simp [*, Addr.add_lit]; done))⟩) (x0d) ?_
      try simp only [Act.put, List.getElem_toArray, List.getElem_cons_succ, List.getElem_cons_zero, List.setIfInBounds_toArray, List.set_cons_zero, List.set_cons_succ]
      refine wpAnyH_ready (rs := [3]) (by kernel_rfl) (by simp) ?_
      refine AllReadyH.cons rfl (fun K hK => ?_) AllReadyH.nil
      go_simp
      have F2 : (w1.drew.alloc (.cells #[] 5)).heap[wr.heap.size]? = some (.cells #[.int .i64 es[k].1, .slice es[k].2.1.1 es[k].2.1.2.2.length es[k].2.1.2.1, .int .i64 es[k].2.2] 36 (0, 0)) := heap_alloc_of _ x0d
      refine hK.out _ _ (F2) (fun _ => ?_)
      clear hK K
      try simp only [Act.put, List.getElem_toArray, List.getElem_cons_succ, List.getElem_cons_zero, List.setIfInBounds_toArray, List.set_cons_zero, List.set_cons_succ]
      have E0 : Ob (w1.alloc (.cells #[] 5)).drew w1.heap.size (some ⟨w1.heap.size, 0, none⟩) 0 [] := Ob.empty (w := w1)
      have hbe : Below wr.heap.size wr (w1.alloc (.cells #[] 5)).drew := (b1.alloc b1.size _).drew
      obtain ⟨A8, c8, w8, hr8, ho8, hb8, _, _⟩ := appB_run 22 w1.heap.size (some ⟨w1.heap.size, 0, none⟩) 0 [] (w1.alloc (.cells #[] 5)).drew es[k].2.1.1 es[k].2.1.2.1 es[k].2.1.2.2 E0 (xb.below hbe) (by simp) (by omega) (by simp)
      have z8 := hb8.size
      refine wpAnyH_ready (rs := [6]) (by kernel_rfl) (by simp) ?_
      refine AllReadyH.cons rfl (fun K hK => ?_) AllReadyH.nil
      refine step_run rfl _ _ rfl rfl rfl hr8 ?_
      have b8 : Below w1.drew.heap.size w1.drew w8 := ((Below.refl w1.heap.size w1.drew).alloc (Nat.le_refl _) (.cells #[] 5) : Below w1.heap.size w1.drew (w1.drew.alloc (.cells #[] 5))).trans hb8
      rw [List.nil_append] at ho8
      have F8 : w8.heap[wr.heap.size]? = some (.cells #[.int .i64 es[k].1, .slice es[k].2.1.1 es[k].2.1.2.2.length es[k].2.1.2.1, .int .i64 es[k].2.2] 36 (0, 0)) := (b8.block _ (by have := s1.out; simp; omega)).trans x0d
      refine hK.out _ _ (F8) (fun _ => ?_)
      clear hK K
      try simp only [Act.put, List.getElem_toArray, List.getElem_cons_succ, List.getElem_cons_zero, List.setIfInBounds_toArray, List.set_cons_zero, List.set_cons_succ]
      rw [List.nil_append]
      refine wpAnyH_take (i := 9) (v := .agg #[.int .i64 es[k].1, .slice A8 es[k].2.1.2.2.length c8, .int .i64 es[k].2.2]) rfl (by kernel_rfl) (by kernel_rfl) (by kernel_rfl) (fun _ _ _ h => h) (Or.inl ⟨by rfl, (by intro w' hS; skip; go_simp; try first | rfl | (simp [*, Addr.add_lit]; done))⟩) (F8) ?_
      try simp only [Act.put, List.getElem_toArray, List.getElem_cons_succ, List.getElem_cons_zero, List.setIfInBounds_toArray, List.set_cons_zero, List.set_cons_succ]
      refine wpAnyH_ready (rs := [10]) (by kernel_rfl) (by simp) ?_
      refine AllReadyH.cons rfl (fun K hK => ?_) AllReadyH.nil
      go_simp
      have F9 : (w8.alloc (.cells (flL (es[k].1, (A8, c8, es[k].2.1.2.2), es[k].2.2)).toArray 36)).heap[wr.heap.size]? = some (.cells #[.int .i64 es[k].1, .slice es[k].2.1.1 es[k].2.1.2.2.length es[k].2.1.2.1, .int .i64 es[k].2.2] 36 (0, 0)) := heap_alloc_of _ F8
      refine hK.out _ _ (F9) (fun _ => ?_)
      clear hK K
      try simp only [Act.put, List.getElem_toArray, List.getElem_cons_succ, List.getElem_cons_zero, List.setIfInBounds_toArray, List.set_cons_zero, List.set_cons_succ]
      have d8 : Below wr.heap.size wr w8 := bd.trans (b8.mono bd.size)
      obtain ⟨A9, c9, w9, hr9, ho9, hb9, hk9, hf9⟩ := appF_run 23 (w.heap.size + 2) A5 c5 fs w8 (es[k].1, (A8, c8, es[k].2.1.2.2), es[k].2.2) (Oe.below hA5 d8 (Nat.le_refl _)) (by have := HFK.out; omega) (by simp at z8; have := hG.le; have := s1.out; omega)
      have z9 := hb9.size
      refine wpAnyH_ready (rs := [11]) (by kernel_rfl) (by simp) ?_
      refine AllReadyH.cons rfl (fun K hK => ?_) AllReadyH.nil
      refine step_run rfl _ _ rfl rfl rfl hr9 ?_
      have n5 : ∀ ad, A5 = some ad → ad.block ≠ wr.heap.size := fun ad h => by have := (hG.2.1 ad h).2; omega
      have s8 : wr.heap.size + 1 ≤ w8.heap.size := by have := b8.size; have := s1.out; simp at *; omega
      have G9 : w9.heap[wr.heap.size]? = some (.cells #[.int .i64 es[k].1, .slice es[k].2.1.1 es[k].2.1.2.2.length es[k].2.1.2.1, .int .i64 es[k].2.2] 36 (0, 0)) := (hk9 _ (by omega) n5).trans F8
      refine hK.out _ _ (G9) (fun _ => ?_)
      clear hK K
      try simp only [Act.put, List.getElem_toArray, List.getElem_cons_succ, List.getElem_cons_zero, List.setIfInBounds_toArray, List.set_cons_zero, List.set_cons_succ]
      refine wpAnyH_take (i := 12) (v := .slice A9 (fs ++ [(es[k].1, (A8, c8, es[k].2.1.2.2), es[k].2.2)]).length c9) rfl (by kernel_rfl) (by kernel_rfl) (by kernel_rfl) (fun _ _ _ h => h) (Or.inl ⟨by rfl, (by intro w' hS; skip; go_simp; try first | rfl | (simp [*, Addr.add_lit]; done))⟩) (G9) ?_
      try simp only [Act.put, List.getElem_toArray, List.getElem_cons_succ, List.getElem_cons_zero, List.setIfInBounds_toArray, List.set_cons_zero, List.set_cons_succ]
      refine wpAnyH_done (by kernel_rfl) ?_ _
      have hz9 : Hid (w8.heap.size ≤ w9.heap.size) := Lib.hid z9
      have hle := hG.le
      have n0 : ∀ ad, A5 = some ad → ad.block ≠ w.heap.size := fun ad h => by have := (hG.2.1 ad h).1; omega
      have n1 : ∀ ad, A5 = some ad → ad.block ≠ w.heap.size + 1 := fun ad h => by have := (hG.2.1 ad h).1; omega
      have B9 := (hk9 w.heap.size (by omega) n0).trans ((d8.block _ (by omega)).trans B)
      have Z9 := (hk9 (w.heap.size + 1) (by omega) n1).trans ((d8.block _ (by omega)).trans Z)
      have G := hG.push bd ho8 b8 ho9 hk9 hz9.out hf9
      have b9 : Below w.heap.size w w9 := (hb.trans (d8.mono zb)).trans (hb9.mono (by omega))
      have hd9 : Hid ((fs ++ [(es[k].1, (A8, c8, es[k].2.1.2.2), es[k].2.2)]).map fc = (es.take (k + 1)).map fc) := by
        show _ = _
        rw [take_succ_get (List.getElem?_eq_getElem hlt)]
        simp only [List.map_append]
        exact congrArg (· ++ [fc es[k]]) hd.out
      clear hr9 ho9 ho8 hk9 hf9 F1 F8 F9 G9 x0d
      go_wp2_with fail
      go_roundw
      case rel => exact ⟨k + 1, _, _, _, by omega, by go_num, rfl, by have := HFK.out; simp; omega, hd9, G, b9, B9, Z9⟩
      case measure => simp [intOf]; omega
    · have hlt' : ¬ ((k : Int) < es.length) := by omega
      have hd' : Hid (fs.map fc = es.map fc) := by
        have := hd.out
        rw [List.take_of_length_le (by omega)] at this
        exact this
      have hfl : fs.length = es.length := by have := HFK.out; omega
      have hG2 := hG
      rw [hfl]
      have t0 := hb
      obtain ⟨B1, y1, f1, z1⟩ := keep_blk (Below.refl wr.heap.size wr) B
      obtain ⟨Z1, yz1, fz1, zz1⟩ := keep_blk (Below.refl wr.heap.size wr) Z
      go_wp2_with (first
        | (at_builtin; refine wp_appO 24 63 _ _ Try.underlying24 info_link (by decide) rfl (by decide) lk2 lk_one rfl _ _ rfl wr.heap.size _ 0 [] _ 0 KA ks.length c2 ks (Oe.emptyAt (by simp)) (SlL.below hr.2.1 (by (repeat (first | exact Below.refl _ _ | (refine Below.alloc ?_ (by first | omega | (simp; done) | (simp; omega)) _) | (refine Below.drew ?_) | (refine below_drewN ?_ _) | (refine below_at1 ?_ (by first | omega | (simp; done) | (simp; omega))) | (refine Below.setCell ?_ (by first | omega | (simp; done) | (simp; omega)) _) | (refine Below.trans ?_ (Below.mono (by assumption) (by first | omega | (simp; done) | (simp; omega)))))))) rfl rfl rfl rfl (by simp) (by omega) (by first | omega | (simp; done) | (simp; omega)) ?_; intro A6 c6 w6 us6 hus6 ho6 hb6 hk6; have e6 : us6 = ks := (by rw [hus6.out]; rfl); subst e6;
           obtain ⟨B6, y6, f6, z6⟩ := keep_lo (cs := dkC r f n A5 es.length c5 KA us6.length c2 TA ts.length c3) hb6 (g := w.heap.size) (by omega) (heap_alloc_of _ (heap_setCell_same _ B)); obtain ⟨Z6, yz6, fz6, zz6⟩ := keep_lo (cs := zDk) hb6 (g := w.heap.size + 1) (by omega) (heap_alloc_of _ (heap_setCell_of _ (by simp) Z));
           have k6 : ∀ k, w.heap.size + 2 ≤ k → k < wr.heap.size → w6.heap[k]? = wr.heap[k]? := (fun k h1 h2 => (hb6.block k h2).trans ((Below.heap_alloc _ _ k (by simp; omega)).trans (Below.heap_setCell _ _ _ k (by simp; omega)))); have s6 : wr.heap.size ≤ w6.heap.size := (by have := hb6.size; simp at this; omega); have t6 : Below w.heap.size w w6 := (((hb.setCell (Nat.le_refl _) _).alloc (by simp; omega) _).trans (hb6.mono (by omega))))
        | (at_builtin; refine wp_appO 25 66 _ _ Try.underlying25 info_turn (by decide) rfl (by decide) tn4 tn_one rfl _ _ rfl w6.heap.size _ 0 [] _ 0 TA ts.length c3 ts (Oe.emptyAt (by simp)) (SlL.below hr.2.2 (by (repeat (first | exact Below.refl _ _ | (refine Below.alloc ?_ (by first | omega | (simp; done) | (simp; omega)) _) | (refine Below.drew ?_) | (refine below_drewN ?_ _) | (refine below_at1 ?_ (by first | omega | (simp; done) | (simp; omega))) | (refine Below.setCell ?_ (by first | omega | (simp; done) | (simp; omega)) _) | (refine Below.trans ?_ (Below.mono (by assumption) (by first | omega | (simp; done) | (simp; omega)))))))) rfl rfl rfl rfl (by simp) (by omega) (by first | omega | (simp; done) | (simp; omega)) ?_; intro A7 c7 w7 us7 hus7 ho7 hb7 hk7; have e7 : us7 = ts := (by rw [hus7.out]; rfl); subst e7;
           obtain ⟨B7, y7, f7, z7⟩ := keep_lo (cs := dkC r f n A5 es.length c5 A6 us6.length c6 TA us7.length c3) hb7 (g := w.heap.size) (by omega) (heap_alloc_of _ (heap_setCell_same _ B6)); obtain ⟨Z7, yz7, fz7, zz7⟩ := keep_lo (cs := zDk) hb7 (g := w.heap.size + 1) (by omega) (heap_alloc_of _ (heap_setCell_of _ (by simp) Z6));
           have k7 : ∀ k, w.heap.size + 2 ≤ k → k < w6.heap.size → w7.heap[k]? = w6.heap[k]? := (fun k h1 h2 => (hb7.block k h2).trans ((Below.heap_alloc _ _ k (by simp; omega)).trans (Below.heap_setCell _ _ _ k (by simp; omega)))); have s7 : w6.heap.size ≤ w7.heap.size := (by have := hb7.size; simp at this; omega); have t7 : Below w.heap.size w w7 := (((t6.setCell (Nat.le_refl _) _).alloc (by simp; omega) _).trans (hb7.mono (by omega))); clear y1 f1 yz1 fz1 y6 f6 yz6 fz6))
      have hD : DkG w7 (w.heap.size + 2) w7.heap.size A5 c5 fs A6 c6 us6 A7 c7 us7 := by
        have i6 := ho6.inB
        exact ⟨wr.heap.size, w6.heap.size, hG2.keep fun k h1 h2 => (k7 k h1 (by omega)).trans (k6 k h1 h2), s6, s7, ho6.keepB fun ad ha => k7 _ (by have := (i6 ad ha).1; omega) (i6 ad ha).2, i6, ho7, ho7.inB⟩
      refine bodyPost_ret (v := dkV r f n A5 es.length c5 A6 us6.length c6 A7 us7.length c7) (by simp [results, Try.results42, go_sem, *]) rfl ?_
      refine ⟨A5, c5, fs, A6, c6, A7, c7, rfl, hd', ?_, ?_⟩
      · refine DkG.lower (lo := w.heap.size + 2) ?_ (by omega)
        iterate 7 refine DkG.setCell ?_ (by simp; try omega)
        exact hD
      · exact (((((((t7.setCell (by first | omega | (simp; done) | (simp; omega)) _).setCell (by first | omega | (simp; done) | (simp; omega)) _).setCell (by first | omega | (simp; done) | (simp; omega)) _).setCell (by first | omega | (simp; done) | (simp; omega)) _).setCell (by first | omega | (simp; done) | (simp; omega)) _).setCell (by first | omega | (simp; done) | (simp; omega)) _).setCell (by first | omega | (simp; done) | (simp; omega)) _)
end Go.Proofs.Ytndmdhmghjfckaa
