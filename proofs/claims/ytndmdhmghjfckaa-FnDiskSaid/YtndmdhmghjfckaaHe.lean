/- Copies of a disk: the program's. -/
import Derived.Test.YtndmdhmghjfckaaHd
namespace Go.Proofs.Ytndmdhmghjfckaa
open Go.RowKit
set_option linter.unusedVariables false
set_option maxRecDepth 100000

def TnPost (w : World) (out : List Tn) (e : Ending) (w' : World) : Prop := ∃ A2 c2, e = .returned (.slice A2 out.length c2) ∧ Oe 66 4 tnL w' w.heap.size A2 c2 out ∧ Below w.heap.size w w'
set_option maxHeartbeats 1000000 in
theorem cloneT_any (A : Option Addr) (c : Nat) (xs : List Tn) (w : World) (ha : Ts w A xs) (hl : xs.length ≤ 1048576) :
    Calls Try.prog 28 #[.slice A xs.length c] w (TnPost w xs) := by
  have hn := fun (w : World) (n : Nat) => Lib.run_eql_slice_nil (P := Try.prog) w 25 66 A n c 0 0 Try.underlying25
  cases A with
  | none =>
    have hx : xs = [] := by rcases ha with h | ⟨b, o, h, _⟩; exact h; cases h
    subst hx
    go_enter Try.func28, Try.ntmps28
    go_wp2_with fail
    go_ret
    exact ⟨none, 0, rfl, ownsG_nil _ _ _ _, Below.refl _ _⟩
  | some ad =>
    go_enter Try.func28, Try.ntmps28
    go_wp2_with (at_builtin; refine wp_appE 25 66 _ _ Try.underlying25 info_turn (by decide) rfl (by decide) tn4 tn_one rfl _ _ rfl w.heap.size _ 0 [] _ 0 ad xs.length c xs Oe.empty (SlL.below ha (by (repeat (first | exact Below.refl _ _ | (refine Below.alloc ?_ (by first | omega | (simp; done) | (simp; omega)) _) | (refine Below.drew ?_) | (refine below_drewN ?_ _) | (refine below_at1 ?_ (by first | omega | (simp; done) | (simp; omega))) | (refine Below.setCell ?_ (by first | omega | (simp; done) | (simp; omega)) _) | (refine Below.trans ?_ (Below.mono (by assumption) (by first | omega | (simp; done) | (simp; omega)))))))) rfl rfl rfl rfl (by simp) hl (by simp) ?_; intro A2 c2 w2 us hus ho2 hb2 hk2)
    go_ret
    have hE := hus.out
    rw [List.nil_append] at hE
    subst hE
    exact ⟨A2, c2, rfl, ho2, ((Below.refl _ _).alloc (Nat.le_refl _) _).trans hb2⟩
set_option maxHeartbeats 8000000 in
theorem copyDisk_any (r f n : Int) (FA : Option Addr) (es : List Fl) (c1 : Nat) (KA : Option Addr) (ks : List Lk) (c2 : Nat) (TA : Option Addr) (ts : List Tn) (c3 : Nat) (w : World) (hr : Dr w FA es KA ks TA ts) (hg : Good es ks ts) :
    Calls Try.prog 13 #[dkV r f n FA es.length c1 KA ks.length c2 TA ts.length c3] w (CpPost w r f n es ks ts) := by
  have hel := hg.el
  have hey := hg.ey
  have hkl := hg.kl
  have htl := hg.tl
  have hb0 : Below w.heap.size w ((w.alloc (.cells (dkC r f n FA es.length c1 KA ks.length c2 TA ts.length c3) 27)).alloc (.cells zDk 27)) := by (repeat (first | exact Below.refl _ _ | (refine Below.alloc ?_ (by first | omega | (simp; done) | (simp; omega)) _) | (refine Below.drew ?_) | (refine below_drewN ?_ _) | (refine below_at1 ?_ (by first | omega | (simp; done) | (simp; omega))) | (refine Below.setCell ?_ (by first | omega | (simp; done) | (simp; omega)) _) | (refine Below.trans ?_ (Below.mono (by assumption) (by first | omega | (simp; done) | (simp; omega))))))
  have hb1 := hb0.alloc hb0.size (.cells #[] 36)
  have B0 : (((w.alloc (.cells (dkC r f n FA es.length c1 KA ks.length c2 TA ts.length c3) 27)).alloc (.cells zDk 27)).alloc (.cells #[] 36)).heap[w.heap.size]? = some (.cells (dkC r f n FA es.length c1 KA ks.length c2 TA ts.length c3) 27 (0, 0)) := (by repeat (first | assumption | exact heap_alloc_at _ (by first | rfl | (simp; done) | omega) | refine heap_alloc_of _ ?_ | refine heap_setCell_of _ (by first | omega | (simp; done) | (simp; omega)) ?_ | refine heap_setCell_same _ ?_ | exact heap_at1_same (by first | omega | (simp; done) | (simp; omega)) | refine heap_at1_of (by first | omega | (simp; done) | (simp; omega)) ?_))
  have Z0 : (((w.alloc (.cells (dkC r f n FA es.length c1 KA ks.length c2 TA ts.length c3) 27)).alloc (.cells zDk 27)).alloc (.cells #[] 36)).heap[w.heap.size + 1]? = some (.cells zDk 27 (0, 0)) := (by repeat (first | assumption | exact heap_alloc_at _ (by first | rfl | (simp; done) | omega) | refine heap_alloc_of _ ?_ | refine heap_setCell_of _ (by first | omega | (simp; done) | (simp; omega)) ?_ | refine heap_setCell_same _ ?_ | exact heap_at1_same (by first | omega | (simp; done) | (simp; omega)) | refine heap_at1_of (by first | omega | (simp; done) | (simp; omega)) ?_))
  have hG0 : FsG (((w.alloc (.cells (dkC r f n FA es.length c1 KA ks.length c2 TA ts.length c3) 27)).alloc (.cells zDk 27)).alloc (.cells #[] 36)) (w.heap.size + 2) (((w.alloc (.cells (dkC r f n FA es.length c1 KA ks.length c2 TA ts.length c3) 27)).alloc (.cells zDk 27)).alloc (.cells #[] 36)).heap.size (some ⟨w.heap.size + 1 + 1, 0, none⟩) 0 [] :=
    ⟨Oe.emptyAt (by simp), fun ad had => by injection had with had; subst had; simp, by show _ ≤ _; simp, fun _ _ e he => by cases he⟩
  go_enter Try.func13, Try.ntmps13
  go_wp2_with fail
  go_loopw [3, 10] (fun fv iv wr => ∃ (k : Nat) (A5 : Option Addr) (c5 : Nat) (fs : List Fl), k ≤ es.length ∧ iv = .int .i64 k ∧ fv = .slice A5 fs.length c5 ∧ fs.length = k ∧ Hid (fs.map fc = (es.take k).map fc) ∧ FsG wr (w.heap.size + 2) wr.heap.size A5 c5 fs ∧ Below w.heap.size w wr ∧ wr.heap[w.heap.size]? = some (.cells (dkC r f n FA es.length c1 KA ks.length c2 TA ts.length c3) 27 (0, 0)) ∧ wr.heap[w.heap.size + 1]? = some (.cells zDk 27 (0, 0))) (fun _ iv _ => es.length - (intOf iv).toNat)
  case atStart => exact ⟨0, _, _, [], Nat.zero_le _, rfl, rfl, rfl, rfl, hG0, hb1, B0, Z0⟩
  case round =>
    clear hG0 hb1 B0 Z0 hb0
    obtain ⟨k, A5, c5, fs, hk, rfl, rfl, hfk, hd, hG, hb, B, Z⟩ := hrel
    have HFK := Lib.hid hfk
    clear hfk
    have zb := hb.size
    by_cases hlt : k < es.length
    · obtain ⟨b, o, rfl, hbs, x0, x1, x2, xb⟩ := Fs.get (hr.1.below hb) hlt
      have hlt' : (k : Int) < es.length := by omega
      have hx := hey _ (List.getElem_mem hlt)
      go_wp2_with fail
      obtain ⟨w1, hw1⟩ : ∃ w1, w1 = wr.alloc (.cells #[.int .i64 es[k].1, .slice es[k].2.1.1 es[k].2.1.2.2.length es[k].2.1.2.1, .int .i64 es[k].2.2] 36) := ⟨_, rfl⟩
      have b1 : Below wr.heap.size wr w1 := by rw [hw1]; exact (Below.refl _ _).alloc (Nat.le_refl _) _
      have s1 : Hid (w1.heap.size = wr.heap.size + 1) := by show _ = _; rw [hw1]; simp
      have F1 : w1.heap[wr.heap.size]? = some (.cells #[.int .i64 es[k].1, .slice es[k].2.1.1 es[k].2.1.2.2.length es[k].2.1.2.1, .int .i64 es[k].2.2] 36 (0, 0)) := by rw [hw1]; exact heap_alloc_new _ _
      rw [← hw1]
      clear hw1
      have x0d : w1.drew.heap[wr.heap.size]? = some (.cells #[.int .i64 es[k].1, .slice es[k].2.1.1 es[k].2.1.2.2.length es[k].2.1.2.1, .int .i64 es[k].2.2] 36 (0, 0)) := F1
      have bd : Below wr.heap.size wr w1.drew := b1.drew
      have hA5 := hG.1
      clear x0 x1 x2
      refine wp_region_held_drew (S := fun w' => w'.heap[wr.heap.size]? = some (.cells #[.int .i64 es[k].1, .slice es[k].2.1.1 es[k].2.1.2.2.length es[k].2.1.2.1, .int .i64 es[k].2.2] 36 (0, 0))) (by kernel_rfl) (x0d) (fun _ => ?_)
      refine wpAnyH_take (i := 0) (v := .slice A5 fs.length c5) rfl (by kernel_rfl) (by kernel_rfl) (by kernel_rfl) (fun _ _ _ h => h) (Or.inl ⟨by rfl, (by intro w' hS; skip; go_simp; try first | rfl | (simp [*, Addr.add_lit]; done))⟩) (x0d) ?_
      try simp only [Act.put, List.getElem_toArray, List.getElem_cons_zero, List.setIfInBounds_toArray, List.set_cons_zero, List.set_cons_succ]
      refine wpAnyH_take (i := 1) (v := .pointer (some ⟨wr.heap.size, 0, none⟩)) rfl (by kernel_rfl) (by kernel_rfl) (by kernel_rfl) (fun _ _ _ h => h) (Or.inl ⟨by rfl, (by intro w' hS; skip; go_simp; try first | rfl | (simp [*, Addr.add_lit]; done))⟩) (x0d) ?_
      try simp only [Act.put, List.getElem_toArray, List.getElem_cons_succ, List.getElem_cons_zero, List.setIfInBounds_toArray, List.set_cons_zero, List.set_cons_succ]
      refine wpAnyH_take (i := 2) (v := .int .i64 es[k].1) rfl (by kernel_rfl) (by kernel_rfl) (by kernel_rfl) (fun _ _ _ h => h) (Or.inl ⟨by rfl, (by intro w' hS; have q : ∀ i, w'.cell? ⟨wr.heap.size, i, none⟩ = _ := fun i => cell_of_row w' _ i _ _ (0, 0) hS; go_simp; try first | rfl | (simp [*, Addr.add_lit]; done))⟩) (x0d) ?_
      try simp only [Act.put, List.getElem_toArray, List.getElem_cons_succ, List.getElem_cons_zero, List.setIfInBounds_toArray, List.set_cons_zero, List.set_cons_succ]
      refine wpAnyH_take (i := 3) (v := .pointer (some ⟨wr.heap.size, 1, none⟩)) rfl (by kernel_rfl) (by kernel_rfl) (by kernel_rfl) (fun _ _ _ h => h) (Or.inl ⟨by rfl, (by intro w' hS; skip; go_simp; try first | rfl | (simp [*, Addr.add_lit]; done))⟩) (x0d) ?_
      try simp only [Act.put, List.getElem_toArray, List.getElem_cons_succ, List.getElem_cons_zero, List.setIfInBounds_toArray, List.set_cons_zero, List.set_cons_succ]
      refine wpAnyH_take (i := 4) (v := .slice es[k].2.1.1 es[k].2.1.2.2.length es[k].2.1.2.1) rfl (by kernel_rfl) (by kernel_rfl) (by kernel_rfl) (fun _ _ _ h => h) (Or.inl ⟨by rfl, (by intro w' hS; have q : ∀ i, w'.cell? ⟨wr.heap.size, i, none⟩ = _ := fun i => cell_of_row w' _ i _ _ (0, 0) hS; go_simp; try first | rfl | (simp [*, Addr.add_lit]; done))⟩) (x0d) ?_
      try simp only [Act.put, List.getElem_toArray, List.getElem_cons_succ, List.getElem_cons_zero, List.setIfInBounds_toArray, List.set_cons_zero, List.set_cons_succ]
      refine wpAnyH_take (i := 6) (v := .pointer (some ⟨wr.heap.size, 2, none⟩)) rfl (by kernel_rfl) (by kernel_rfl) (by kernel_rfl) (fun _ _ _ h => h) (Or.inl ⟨by rfl, (by intro w' hS; skip; go_simp; try first | rfl | (simp [*, Addr.add_lit]; done))⟩) (x0d) ?_
      try simp only [Act.put, List.getElem_toArray, List.getElem_cons_succ, List.getElem_cons_zero, List.setIfInBounds_toArray, List.set_cons_zero, List.set_cons_succ]
      refine wpAnyH_take (i := 7) (v := .int .i64 es[k].2.2) rfl (by kernel_rfl) (by kernel_rfl) (by kernel_rfl) (fun _ _ _ h => h) (Or.inl ⟨by rfl, (by intro w' hS; have q : ∀ i, w'.cell? ⟨wr.heap.size, i, none⟩ = _ := fun i => cell_of_row w' _ i _ _ (0, 0) hS; go_simp; try first | rfl | (simp [*, Addr.add_lit]; done))⟩) (x0d) ?_
      try simp only [Act.put, List.getElem_toArray, List.getElem_cons_succ, List.getElem_cons_zero, List.setIfInBounds_toArray, List.set_cons_zero, List.set_cons_succ]
      refine wpAnyH_ready (rs := [5]) (by kernel_rfl) (by simp) ?_
      refine AllReadyH.cons rfl (fun K hK => ?_) AllReadyH.nil
      go_simp
      refine (cloneB_any _ _ es[k].2.1.2.2 _ (xb.below bd) (by omega)).mono ?_
      rintro e w8 ⟨A8, c8, rfl, ho8, b8⟩
      have z8 := b8.size
      have F8 : w8.heap[wr.heap.size]? = some (.cells #[.int .i64 es[k].1, .slice es[k].2.1.1 es[k].2.1.2.2.length es[k].2.1.2.1, .int .i64 es[k].2.2] 36 (0, 0)) := (b8.block _ (by have := s1.out; simp; omega)).trans x0d
      refine hK.out _ _ (F8) (fun _ => ?_)
      clear hK K
      try simp only [Act.put, List.getElem_toArray, List.getElem_cons_succ, List.getElem_cons_zero, List.setIfInBounds_toArray, List.set_cons_zero, List.set_cons_succ]
      refine wpAnyH_take (i := 8) (v := .agg #[.int .i64 es[k].1, .slice A8 es[k].2.1.2.2.length c8, .int .i64 es[k].2.2]) rfl (by kernel_rfl) (by kernel_rfl) (by kernel_rfl) (fun _ _ _ h => h) (Or.inl ⟨by rfl, (by intro w' hS; skip; go_simp; try first | rfl | (simp [*, Addr.add_lit]; done))⟩) (F8) ?_
      try simp only [Act.put, List.getElem_toArray, List.getElem_cons_succ, List.getElem_cons_zero, List.setIfInBounds_toArray, List.set_cons_zero, List.set_cons_succ]
      refine wpAnyH_ready (rs := [9]) (by kernel_rfl) (by simp) ?_
      refine AllReadyH.cons rfl (fun K hK => ?_) AllReadyH.nil
      go_simp
      have F9 : (w8.alloc (.cells (flL (es[k].1, (A8, c8, es[k].2.1.2.2), es[k].2.2)).toArray 36)).heap[wr.heap.size]? = some (.cells #[.int .i64 es[k].1, .slice es[k].2.1.1 es[k].2.1.2.2.length es[k].2.1.2.1, .int .i64 es[k].2.2] 36 (0, 0)) := heap_alloc_of _ F8
      refine hK.out _ _ (F9) (fun _ => ?_)
      clear hK K
      try simp only [Act.put, List.getElem_toArray, List.getElem_cons_succ, List.getElem_cons_zero, List.setIfInBounds_toArray, List.set_cons_zero, List.set_cons_succ]
      have d8 : Below wr.heap.size wr w8 := bd.trans (b8.mono bd.size)
      obtain ⟨A9, c9, w9, hr9, ho9, hb9, hk9, hf9⟩ := appF_run 23 (w.heap.size + 2) A5 c5 fs w8 (es[k].1, (A8, c8, es[k].2.1.2.2), es[k].2.2) (Oe.below hA5 d8 (Nat.le_refl _)) (by have := HFK.out; omega) (by simp at z8; have := hG.le; have := s1.out; omega)
      have z9 := hb9.size
      refine wpAnyH_ready (rs := [10]) (by kernel_rfl) (by simp) ?_
      refine AllReadyH.cons rfl (fun K hK => ?_) AllReadyH.nil
      refine step_run rfl _ _ rfl rfl rfl hr9 ?_
      have n5 : ∀ ad, A5 = some ad → ad.block ≠ wr.heap.size := fun ad h => by have := (hG.2.1 ad h).2; omega
      have s8 : wr.heap.size + 1 ≤ w8.heap.size := by have := b8.size; have := s1.out; simp at *; omega
      have G9 : w9.heap[wr.heap.size]? = some (.cells #[.int .i64 es[k].1, .slice es[k].2.1.1 es[k].2.1.2.2.length es[k].2.1.2.1, .int .i64 es[k].2.2] 36 (0, 0)) := (hk9 _ (by omega) n5).trans F8
      refine hK.out _ _ (G9) (fun _ => ?_)
      clear hK K
      try simp only [Act.put, List.getElem_toArray, List.getElem_cons_succ, List.getElem_cons_zero, List.setIfInBounds_toArray, List.set_cons_zero, List.set_cons_succ]
      refine wpAnyH_take (i := 11) (v := .slice A9 (fs ++ [(es[k].1, (A8, c8, es[k].2.1.2.2), es[k].2.2)]).length c9) rfl (by kernel_rfl) (by kernel_rfl) (by kernel_rfl) (fun _ _ _ h => h) (Or.inl ⟨by rfl, (by intro w' hS; skip; go_simp; try first | rfl | (simp [*, Addr.add_lit]; done))⟩) (G9) ?_
      try simp only [Act.put, List.getElem_toArray, List.getElem_cons_succ, List.getElem_cons_zero, List.setIfInBounds_toArray, List.set_cons_zero, List.set_cons_succ]
      refine wpAnyH_done (by kernel_rfl) ?_ _
      have hz9 : Hid (w8.heap.size ≤ w9.heap.size) := Lib.hid z9
      have hle := hG.le
      have n0 : ∀ ad, A5 = some ad → ad.block ≠ w.heap.size := fun ad h => by have := (hG.2.1 ad h).1; omega
      have n1 : ∀ ad, A5 = some ad → ad.block ≠ w.heap.size + 1 := fun ad h => by have := (hG.2.1 ad h).1; omega
      have B9 := (hk9 w.heap.size (by omega) n0).trans ((d8.block _ (by omega)).trans B)
      have Z9 := (hk9 (w.heap.size + 1) (by omega) n1).trans ((d8.block _ (by omega)).trans Z)
      have G := hG.push bd ho8 b8 ho9 hk9 hz9.out hf9
      have b9 : Below w.heap.size w w9 := (hb.trans (d8.mono zb)).trans (hb9.mono (by omega))
      have hd9 : Hid ((fs ++ [(es[k].1, (A8, c8, es[k].2.1.2.2), es[k].2.2)]).map fc = (es.take (k + 1)).map fc) := by
        show _ = _
        rw [take_succ_get (List.getElem?_eq_getElem hlt)]
        simp only [List.map_append]
        exact congrArg (· ++ [fc es[k]]) hd.out
      clear hr9 ho9 ho8 hk9 hf9 F1 F8 F9 G9 x0d
      go_wp2_with fail
      go_roundw
      case rel => exact ⟨k + 1, _, _, _, by omega, by go_num, rfl, by have := HFK.out; simp; omega, hd9, G, b9, B9, Z9⟩
      case measure => simp [intOf]; omega
    · have hlt' : ¬ ((k : Int) < es.length) := by omega
      have hd' : Hid (fs.map fc = es.map fc) := by
        have := hd.out
        rw [List.take_of_length_le (by omega)] at this
        exact this
      have hfl : fs.length = es.length := by have := HFK.out; omega
      have hG2 := hG
      rw [hfl]
      have t0 := hb
      obtain ⟨B1, y1, f1, z1⟩ := keep_blk (Below.refl wr.heap.size wr) B
      obtain ⟨Z1, yz1, fz1, zz1⟩ := keep_blk (Below.refl wr.heap.size wr) Z
      go_wp2_with fail
      have B1d : wr.drew.heap[w.heap.size]? = some (.cells (dkC r f n FA es.length c1 KA ks.length c2 TA ts.length c3) 27 (0, 0)) := B
      have bd : Below wr.heap.size wr wr.drew := (Below.refl _ _).drew
      refine wp_regionK (fun w' => w'.heap[w.heap.size]? = some (.cells (dkC r f n FA es.length c1 KA ks.length c2 TA ts.length c3) 27 (0, 0))) 8 (by kernel_rfl) ?_
      refine wpAnyK_free (i := 0) (v := .slice A5 es.length c5) rfl (by kernel_rfl) (by kernel_rfl) (by kernel_rfl) (fun _ _ _ h => h) (by decide) (Or.inl ⟨by rfl, (by intro w' _; go_simp; try first | rfl | (simp [*, Addr.add_lit]; done))⟩) (fun _ => B1d) ?_
      try simp only [Act.put, List.getElem_toArray, List.getElem_cons_zero, List.setIfInBounds_toArray, List.set_cons_zero, List.set_cons_succ]
      refine wpAnyK_free (i := 1) (v := .pointer (some ⟨w.heap.size, 4, none⟩)) rfl (by kernel_rfl) (by kernel_rfl) (by kernel_rfl) (fun _ _ _ h => h) (by decide) (Or.inl ⟨by rfl, (by intro w' _; go_simp; try first | rfl | (simp [*, Addr.add_lit]; done))⟩) (fun _ => B1d) ?_
      try simp only [Act.put, List.getElem_toArray, List.getElem_cons_succ, List.getElem_cons_zero, List.setIfInBounds_toArray, List.set_cons_zero, List.set_cons_succ]
      refine wpAnyK_take (i := 2) (v := .slice KA ks.length c2) rfl (by kernel_rfl) (by kernel_rfl) (by kernel_rfl) (fun _ _ _ h => h) (by kernel_rfl) (by kernel_rfl) (by decide) (Or.inl ⟨by rfl, (by intro w' hS; have q : ∀ i, w'.cell? ⟨w.heap.size, i, none⟩ = _ := fun i => cell_of_row w' _ i _ _ (0, 0) hS; go_simp; try first | rfl | (simp [*]; done))⟩) (B1d) ?_
      try simp only [Act.put, List.getElem_toArray, List.getElem_cons_succ, List.getElem_cons_zero, List.setIfInBounds_toArray, List.set_cons_zero, List.set_cons_succ]
      refine wpAnyK_free (i := 4) (v := .pointer (some ⟨w.heap.size, 5, none⟩)) rfl (by kernel_rfl) (by kernel_rfl) (by kernel_rfl) (fun _ _ _ h => h) (by decide) (Or.inl ⟨by rfl, (by intro w' _; go_simp; try first | rfl | (simp [*, Addr.add_lit]; done))⟩) (fun _ => B1d) ?_
      try simp only [Act.put, List.getElem_toArray, List.getElem_cons_succ, List.getElem_cons_zero, List.setIfInBounds_toArray, List.set_cons_zero, List.set_cons_succ]
      refine wpAnyK_take (i := 5) (v := .slice TA ts.length c3) rfl (by kernel_rfl) (by kernel_rfl) (by kernel_rfl) (fun _ _ _ h => h) (by kernel_rfl) (by kernel_rfl) (by decide) (Or.inl ⟨by rfl, (by intro w' hS; have q : ∀ i, w'.cell? ⟨w.heap.size, i, none⟩ = _ := fun i => cell_of_row w' _ i _ _ (0, 0) hS; go_simp; try first | rfl | (simp [*]; done))⟩) (B1d) ?_
      try simp only [Act.put, List.getElem_toArray, List.getElem_cons_succ, List.getElem_cons_zero, List.setIfInBounds_toArray, List.set_cons_zero, List.set_cons_succ]
      refine wpAnyK_free (i := 7) (v := .pointer (some ⟨w.heap.size, 3, none⟩)) rfl (by kernel_rfl) (by kernel_rfl) (by kernel_rfl) (fun _ _ _ h => h) (by decide) (Or.inl ⟨by rfl, (by intro w' _; go_simp; try first | rfl | (simp [*, Addr.add_lit]; done))⟩) (fun _ => B1d) ?_
      try simp only [Act.put, List.getElem_toArray, List.getElem_cons_succ, List.getElem_cons_zero, List.setIfInBounds_toArray, List.set_cons_zero, List.set_cons_succ]
      refine wpAnyK_ready (rs := [3]) (by kernel_rfl) (by simp) ?_
      refine AllReadyK.cons rfl (fun K hK => ?_) AllReadyK.nil
      go_simp
      refine (cloneL_any KA c2 ks _ (SlL.below hr.2.1 (hb.drew)) hkl).mono ?_
      rintro e w6 ⟨A6, c6, rfl, ho6, hb6⟩
      have z6 := hb6.size
      have B6 := (hb6.block w.heap.size (by simp; omega)).trans B1d
      have Z6 := (hb6.block (w.heap.size + 1) (by simp; omega)).trans Z
      have t6 : Below w.heap.size w w6 := hb.drew.trans (hb6.mono zb)
      refine hK.out _ _ (fun _ => B6) ?_
      clear hK K
      try simp only [Act.put, List.getElem_toArray, List.getElem_cons_succ, List.getElem_cons_zero, List.setIfInBounds_toArray, List.set_cons_zero, List.set_cons_succ]
      refine wpAnyK_ready (rs := [6]) (by kernel_rfl) (by simp) ?_
      refine AllReadyK.cons rfl (fun K hK => ?_) AllReadyK.nil
      go_simp
      refine (cloneT_any TA c3 ts _ (SlL.below hr.2.2 t6) htl).mono ?_
      rintro e w7 ⟨A7, c7, rfl, ho7, hb7⟩
      have s7 := hb7.size
      have t7 : Below w.heap.size w w7 := t6.trans (hb7.mono t6.size)
      obtain ⟨B7, y7, f7, z7⟩ := keep_blk (cs := (dkC r f n FA es.length c1 KA ks.length c2 TA ts.length c3)) hb7 (g := w.heap.size) B6
      obtain ⟨Z7, yz7, fz7, zz7⟩ := keep_blk (cs := zDk) hb7 (g := w.heap.size + 1) Z6
      refine hK.out _ _ (fun _ => B7) ?_
      clear hK K
      try simp only [Act.put, List.getElem_toArray, List.getElem_cons_succ, List.getElem_cons_zero, List.setIfInBounds_toArray, List.set_cons_zero, List.set_cons_succ]
      refine wpAnyK_ready (rs := [8]) (by kernel_rfl) (by simp) ?_
      refine AllReadyK.cons rfl (fun K hK => ?_) AllReadyK.nil
      go_simp
      refine hK.out _ _ (late (by kernel_rfl)) ?_
      clear hK K
      try simp only [Act.put, List.getElem_toArray, List.getElem_cons_succ, List.getElem_cons_zero, List.setIfInBounds_toArray, List.set_cons_zero, List.set_cons_succ]
      refine wpAnyK_free (i := 9) (v := .pointer (some ⟨w.heap.size, 4, none⟩)) rfl (by kernel_rfl) (by kernel_rfl) (by kernel_rfl) (fun _ _ _ h => h) (by decide) (Or.inl ⟨by rfl, (by intro w' _; go_simp; try first | rfl | (simp [*, Addr.add_lit]; done))⟩) (late (by kernel_rfl)) ?_
      try simp only [Act.put, List.getElem_toArray, List.getElem_cons_succ, List.getElem_cons_zero, List.setIfInBounds_toArray, List.set_cons_zero, List.set_cons_succ]
      refine wpAnyK_ready (rs := [10]) (by kernel_rfl) (by simp) ?_
      refine AllReadyK.cons rfl (fun K hK => ?_) AllReadyK.nil
      go_simp
      refine hK.out _ _ (late (by kernel_rfl)) ?_
      clear hK K
      try simp only [Act.put, List.getElem_toArray, List.getElem_cons_succ, List.getElem_cons_zero, List.setIfInBounds_toArray, List.set_cons_zero, List.set_cons_succ]
      refine wpAnyK_free (i := 11) (v := .pointer (some ⟨w.heap.size, 5, none⟩)) rfl (by kernel_rfl) (by kernel_rfl) (by kernel_rfl) (fun _ _ _ h => h) (by decide) (Or.inl ⟨by rfl, (by intro w' _; go_simp; try first | rfl | (simp [*, Addr.add_lit]; done))⟩) (late (by kernel_rfl)) ?_
      try simp only [Act.put, List.getElem_toArray, List.getElem_cons_succ, List.getElem_cons_zero, List.setIfInBounds_toArray, List.set_cons_zero, List.set_cons_succ]
      refine wpAnyK_ready (rs := [12]) (by kernel_rfl) (by simp) ?_
      refine AllReadyK.cons rfl (fun K hK => ?_) AllReadyK.nil
      go_simp
      refine hK.out _ _ (late (by kernel_rfl)) ?_
      clear hK K
      try simp only [Act.put, List.getElem_toArray, List.getElem_cons_succ, List.getElem_cons_zero, List.setIfInBounds_toArray, List.set_cons_zero, List.set_cons_succ]
      refine wpAnyK_done (by kernel_rfl) ?_ _
      have hD : DkG w7 (w.heap.size + 2) w7.heap.size A5 c5 fs A6 c6 ks A7 c7 ts := by
        have i6 := ho6.inB
        have k6 : ∀ k, k < wr.heap.size → w6.heap[k]? = wr.heap[k]? := fun k h => hb6.block k h
        have k7 : ∀ k, k < w6.heap.size → w7.heap[k]? = w6.heap[k]? := fun k h => hb7.block k h
        have z6' : wr.heap.size ≤ w6.heap.size := z6
        exact ⟨wr.heap.size, w6.heap.size, hG2.keep fun k h1 h2 => (k7 k (by omega)).trans (k6 k h2), z6', s7, Oe.keepB ho6 fun ad ha => k7 _ (i6 ad ha).2, i6, ho7, ho7.inB⟩
      go_wp2_with fail
      refine bodyPost_ret (v := dkV r f n A5 es.length c5 A6 ks.length c6 A7 ts.length c7) (by simp [results, Try.results13, go_sem, *]) rfl ?_
      refine ⟨A5, c5, fs, A6, c6, A7, c7, rfl, hd', ?_, ?_⟩
      · refine DkG.lower (lo := w.heap.size + 2) ?_ (by omega)
        iterate 9 refine DkG.setCell ?_ (by simp; try omega)
        exact hD
      · exact (((((((((t7.setCell (by first | omega | (simp; done) | (simp; omega)) _).setCell (by first | omega | (simp; done) | (simp; omega)) _).setCell (by first | omega | (simp; done) | (simp; omega)) _).setCell (by first | omega | (simp; done) | (simp; omega)) _).setCell (by first | omega | (simp; done) | (simp; omega)) _).setCell (by first | omega | (simp; done) | (simp; omega)) _).setCell (by first | omega | (simp; done) | (simp; omega)) _).setCell (by first | omega | (simp; done) | (simp; omega)) _).setCell (by first | omega | (simp; done) | (simp; omega)) _)
end Go.Proofs.Ytndmdhmghjfckaa
