/- DiskCrash: the program's way. -/
import Derived.Test.YtndmdhmghjfckaaHq
namespace Go.Proofs.Ytndmdhmghjfckaa
open Go.RowKit
set_option linter.unusedVariables false
set_option maxRecDepth 100000

theorem slice_take {T : Type} {k : Nat} {enc : T → List Value} {w : World} {A : Option Addr} {xs : List T} (h : SlL w A k enc xs) (m : Nat) : SlL w A k enc (xs.take m) := by
  rcases h with rfl | ⟨b, o, hA, h⟩
  · left; simp
  · exact .inr ⟨b, o, hA, fun i x hi => h i x (by
      rw [List.getElem?_take] at hi
      split at hi
      · exact hi
      · cases hi)⟩
set_option maxHeartbeats 8000000 in
theorem diskCrash_impl0 (turns : Int) (QA : Option Addr) (qc : Nat) (cuts : List Int) (r f n : Int) (FA : Option Addr) (es : List Fl) (c1 : Nat) (KA : Option Addr) (ks : List Lk) (c2 : Nat) (TA : Option Addr) (ts : List Tn) (c3 : Nat) (w : World) (hr : Dr w FA es KA ks TA ts) (hg : Good es ks ts) (hc3 : ts.length ≤ c3) (hq : Cs w QA (cuts.map I)) (hql : cuts.length ≤ 1048576) :
    Calls Try.prog 6 #[dkV r f n FA es.length c1 KA ks.length c2 TA ts.length c3, .int .i64 turns, .slice QA cuts.length qc] w (DOPost w (crashV turns cuts r f n (es.map fc) (ftot es) ks ts)) := by
  have hb0 : Below w.heap.size w ((w.alloc (.cells (dkC r f n FA es.length c1 KA ks.length c2 TA ts.length c3) 27)).alloc (.cells zDk 27)) := by (repeat (first | exact Below.refl _ _ | (refine Below.alloc ?_ (by first | omega | (simp; done) | (simp; omega)) _) | (refine Below.drew ?_) | (refine below_drewN ?_ _) | (refine below_at1 ?_ (by first | omega | (simp; done) | (simp; omega))) | (refine Below.setCell ?_ (by first | omega | (simp; done) | (simp; omega)) _) | (refine Below.trans ?_ (Below.mono (by assumption) (by first | omega | (simp; done) | (simp; omega))))))
  have B0 : ((w.alloc (.cells (dkC r f n FA es.length c1 KA ks.length c2 TA ts.length c3) 27)).alloc (.cells zDk 27)).heap[w.heap.size]? = some (.cells (dkC r f n FA es.length c1 KA ks.length c2 TA ts.length c3) 27 (0, 0)) := (by repeat (first | assumption | exact heap_alloc_at _ (by first | rfl | (simp; done) | omega) | refine heap_alloc_of _ ?_ | refine heap_setCell_of _ (by first | omega | (simp; done) | (simp; omega)) ?_ | refine heap_setCell_same _ ?_ | exact heap_at1_same (by first | omega | (simp; done) | (simp; omega)) | refine heap_at1_of (by first | omega | (simp; done) | (simp; omega)) ?_))
  have Z0 : ((w.alloc (.cells (dkC r f n FA es.length c1 KA ks.length c2 TA ts.length c3) 27)).alloc (.cells zDk 27)).heap[w.heap.size + 1]? = some (.cells zDk 27 (0, 0)) := (by repeat (first | assumption | exact heap_alloc_at _ (by first | rfl | (simp; done) | omega) | refine heap_alloc_of _ ?_ | refine heap_setCell_of _ (by first | omega | (simp; done) | (simp; omega)) ?_ | refine heap_setCell_same _ ?_ | exact heap_at1_same (by first | omega | (simp; done) | (simp; omega)) | refine heap_at1_of (by first | omega | (simp; done) | (simp; omega)) ?_))
  have cO := okImpl_any r f n FA es es c1 KA ks c2 TA ts c3 _ (hr.below hb0) (Lib.hid rfl) hg
  cases hv : dkB r f n (es.map fc) (ftot es) ks ts with
  | false =>
    have HV : Hid (crashV turns cuts r f n (es.map fc) (ftot es) ks ts = DV.no) := by show _ = _; rw [crashV, hv]; rfl
    rw [hv] at cO
    clear hv
    go_enter Try.func6, Try.ntmps6
    go_wp2_with fail
    refine cO.mono ?_
    rintro e w1 ⟨rfl, hb1⟩
    have t1 := hb0.trans (hb1.mono hb0.size)
    obtain ⟨Z1, yz1, fz1, zz1⟩ := keep_blk (cs := zDk) hb1 (g := w.heap.size + 1) Z0
    go_wp2_with fail
    rw [HV.out]
    refine bodyPost_ret (v := .tuple #[dkV 0 0 0 none 0 0 none 0 0 none 0 0, .bool false]) (by simp [results, Try.results6, go_sem, *]) rfl ?_
    exact DOPost.no ((((((t1.setCell (by first | omega | (simp; done) | (simp; omega)) _).setCell (by first | omega | (simp; done) | (simp; omega)) _).setCell (by first | omega | (simp; done) | (simp; omega)) _).setCell (by first | omega | (simp; done) | (simp; omega)) _).setCell (by first | omega | (simp; done) | (simp; omega)) _).setCell (by first | omega | (simp; done) | (simp; omega)) _)
  | true =>
    obtain ⟨g0, g1, g2, g3, g4⟩ := dk_parts hv
    have hsafe := dk_safe hv
    obtain ⟨m, hm⟩ : ∃ m : Nat, Hid ((max 0 (min turns ts.length) : Int) = (m : Int)) := ⟨(max 0 (min turns ts.length)).toNat, Lib.hid (by omega)⟩
    have hmt : m ≤ ts.length := by have := hm.out; omega
    have hmN : (max 0 (min turns ts.length)).toNat = m := by have := hm.out; omega
    obtain ⟨dir, hdir⟩ : ∃ dir, Hid (dirS ks (ts.take m) = dir) := ⟨_, Lib.hid rfl⟩
    have HV : Hid (crashV turns cuts r f n (es.map fc) (ftot es) ks ts = ⟨r, -1, n, crC cuts 0 (keepC dir (es.map fc)), dir, [], true⟩) := by
      show _ = _
      rw [crashV, hv, hmN, hdir.out]
      rfl
    rw [hv] at cO
    have hel : es.length ≤ 10 := by rw [List.length_map] at g0; exact g0
    have hdl : dir.length ≤ 40 := by
      have := dirS_len ks (ts.take m)
      rw [hdir.out, List.length_take] at this
      omega
    have htm : (ts.take m).length = m := by rw [List.length_take]; omega
    have cR := fun W K a (h : Ks W K ks) T b (h2 : Ts W T ts) => dirOf_any K a ks T b (ts.take m) W h (slice_take h2 m) (by omega) (by omega) g3 (runI_take ts ks m g4)
    rw [hdir.out, htm] at cR
    rw [HV.out]
    have HSF : Hid (∀ x, x ∈ es.map fc → 0 ≤ x.2.2 ∧ x.2.2 ≤ x.2.1.length) := hsafe
    have HKL := Lib.hid g1
    have HTL := Lib.hid g2
    clear hv HV hsafe g0 g1 g2 g3 g4 hmN
    go_enter Try.func6, Try.ntmps6
    go_wp2_with fail
    refine cO.mono ?_
    rintro e w1 ⟨rfl, hb1⟩
    have t1 := hb0.trans (hb1.mono hb0.size)
    obtain ⟨B1, y1, f1, z1⟩ := keep_blk (cs := (dkC r f n FA es.length c1 KA ks.length c2 TA ts.length c3)) hb1 (g := w.heap.size) B0
    obtain ⟨Z1, yz1, fz1, zz1⟩ := keep_blk (cs := zDk) hb1 (g := w.heap.size + 1) Z0
    have cC := copyDisk_any r f n FA es c1 KA ks c2 TA ts c3 w1 (hr.below t1) hg
    clear cO
    go_wp2_with fail
    refine cC.mono ?_
    rintro e w3 ⟨A3, d1, fs3, K3, d2, T3, d3, rfl, hd3, ho3, hb3⟩
    have t3 := t1.trans (hb3.mono t1.size)
    have z3 := t3.size
    have s3 : w.heap.size + 2 ≤ w1.heap.size := by have := hb1.size; simpa using this
    have z13 := hb3.size
    have B3 := blk_be hb3 B1
    have Z3 := blk_be hb3 Z1
    clear y1 f1 yz1 fz1 cC
    go_wp2_with fail
    have b4 : Below w3.heap.size w3 (w3.alloc (.cells (dkC r f n A3 es.length d1 K3 ks.length d2 T3 ts.length d3) 27)) := (Below.refl _ _).alloc (Nat.le_refl _) _
    have F0 : (w3.alloc (.cells (dkC r f n A3 es.length d1 K3 ks.length d2 T3 ts.length d3) 27)).drew.heap[w.heap.size]? = some (.cells (dkC r f n FA es.length c1 KA ks.length c2 TA ts.length c3) 27 (0, 0)) := heap_alloc_of _ B3
    have O0 : (w3.alloc (.cells (dkC r f n A3 es.length d1 K3 ks.length d2 T3 ts.length d3) 27)).drew.heap[w3.heap.size]? = some (.cells (dkC r f n A3 es.length d1 K3 ks.length d2 T3 ts.length d3) 27 (0, 0)) := heap_alloc_new _ _
    have t4 := t3.trans (b4.drew.mono t3.size)
    refine wp_region_held_drew (S := fun w' => w'.heap[w.heap.size]? = some (.cells (dkC r f n FA es.length c1 KA ks.length c2 TA ts.length c3) 27 (0, 0))) (by kernel_rfl) (F0) (fun _ => ?_)
    refine wpAnyH_take (i := 0) (v := .pointer (some ⟨w.heap.size, 4, none⟩)) rfl (by kernel_rfl) (by kernel_rfl) (by kernel_rfl) (fun _ _ _ h => h) (Or.inl ⟨by rfl, (by intro w' hS; skip; go_simp; try first | rfl | (simp [*, Addr.add_lit]; done))⟩) (F0) ?_
    try simp only [Act.put, List.getElem_toArray, List.getElem_cons_zero, List.setIfInBounds_toArray, List.set_cons_zero, List.set_cons_succ]
    refine wpAnyH_take (i := 1) (v := .slice KA ks.length c2) rfl (by kernel_rfl) (by kernel_rfl) (by kernel_rfl) (fun _ _ _ h => h) (Or.inl ⟨by rfl, (by intro w' hS; have q := cell_of_row w' w.heap.size 4 _ _ (0, 0) hS; go_simp; try first | rfl | (simp [*, Addr.add_lit]; done))⟩) (F0) ?_
    try simp only [Act.put, List.getElem_toArray, List.getElem_cons_succ, List.getElem_cons_zero, List.setIfInBounds_toArray, List.set_cons_zero, List.set_cons_succ]
    refine wpAnyH_take (i := 2) (v := .pointer (some ⟨w.heap.size, 5, none⟩)) rfl (by kernel_rfl) (by kernel_rfl) (by kernel_rfl) (fun _ _ _ h => h) (Or.inl ⟨by rfl, (by intro w' hS; skip; go_simp; try first | rfl | (simp [*, Addr.add_lit]; done))⟩) (F0) ?_
    try simp only [Act.put, List.getElem_toArray, List.getElem_cons_succ, List.getElem_cons_zero, List.setIfInBounds_toArray, List.set_cons_zero, List.set_cons_succ]
    refine wpAnyH_take (i := 3) (v := .slice TA ts.length c3) rfl (by kernel_rfl) (by kernel_rfl) (by kernel_rfl) (fun _ _ _ h => h) (Or.inl ⟨by rfl, (by intro w' hS; have q := cell_of_row w' w.heap.size 5 _ _ (0, 0) hS; go_simp; try first | rfl | (simp [*, Addr.add_lit]; done))⟩) (F0) ?_
    try simp only [Act.put, List.getElem_toArray, List.getElem_cons_succ, List.getElem_cons_zero, List.setIfInBounds_toArray, List.set_cons_zero, List.set_cons_succ]
    refine wpAnyH_take (i := 4) (v := .int .i64 turns) rfl (by kernel_rfl) (by kernel_rfl) (by kernel_rfl) (fun _ _ _ h => h) (Or.inl ⟨by rfl, (by intro w' hS; skip; go_simp; try first | rfl | (simp [*, Addr.add_lit]; done))⟩) (F0) ?_
    try simp only [Act.put, List.getElem_toArray, List.getElem_cons_succ, List.getElem_cons_zero, List.setIfInBounds_toArray, List.set_cons_zero, List.set_cons_succ]
    refine wpAnyH_take (i := 5) (v := .pointer (some ⟨w.heap.size, 5, none⟩)) rfl (by kernel_rfl) (by kernel_rfl) (by kernel_rfl) (fun _ _ _ h => h) (Or.inl ⟨by rfl, (by intro w' hS; skip; go_simp; try first | rfl | (simp [*, Addr.add_lit]; done))⟩) (F0) ?_
    try simp only [Act.put, List.getElem_toArray, List.getElem_cons_succ, List.getElem_cons_zero, List.setIfInBounds_toArray, List.set_cons_zero, List.set_cons_succ]
    refine wpAnyH_take (i := 6) (v := .slice TA ts.length c3) rfl (by kernel_rfl) (by kernel_rfl) (by kernel_rfl) (fun _ _ _ h => h) (Or.inl ⟨by rfl, (by intro w' hS; have q := cell_of_row w' w.heap.size 5 _ _ (0, 0) hS; go_simp; try first | rfl | (simp [*, Addr.add_lit]; done))⟩) (F0) ?_
    try simp only [Act.put, List.getElem_toArray, List.getElem_cons_succ, List.getElem_cons_zero, List.setIfInBounds_toArray, List.set_cons_zero, List.set_cons_succ]
    refine wpAnyH_take (i := 7) (v := .int .i64 ts.length) rfl (by kernel_rfl) (by kernel_rfl) (by kernel_rfl) (fun _ _ _ h => h) (Or.inl ⟨by rfl, (by intro w' hS; skip; go_simp; try first | rfl | (simp [*, Addr.add_lit]; done))⟩) (F0) ?_
    try simp only [Act.put, List.getElem_toArray, List.getElem_cons_succ, List.getElem_cons_zero, List.setIfInBounds_toArray, List.set_cons_zero, List.set_cons_succ]
    refine wpAnyH_take (i := 8) (v := .int .i64 (min turns ts.length)) rfl (by kernel_rfl) (by kernel_rfl) (by kernel_rfl) (fun _ _ _ h => h) (Or.inl ⟨by rfl, (by intro w' hS; skip; go_simp; try first | rfl | (simp [*, Addr.add_lit]; done))⟩) (F0) ?_
    try simp only [Act.put, List.getElem_toArray, List.getElem_cons_succ, List.getElem_cons_zero, List.setIfInBounds_toArray, List.set_cons_zero, List.set_cons_succ]
    refine wpAnyH_take (i := 9) (v := .int .i64 m) rfl (by kernel_rfl) (by kernel_rfl) (by kernel_rfl) (fun _ _ _ h => h) (Or.inl ⟨by rfl, (by intro w' hS; have e9 := hm.out; go_simp; try first | rfl | (simp [*, Addr.add_lit]; done))⟩) (F0) ?_
    try simp only [Act.put, List.getElem_toArray, List.getElem_cons_succ, List.getElem_cons_zero, List.setIfInBounds_toArray, List.set_cons_zero, List.set_cons_succ]
    have hm1 : (0 : Int) ≤ (m : Int) := by omega
    have hm2 : (m : Int) ≤ c3 := by omega
    refine wpAnyH_ready (rs := [10]) (by kernel_rfl) (by simp) ?_
    refine AllReadyH.cons rfl (fun K hK => ?_) AllReadyH.nil
    go_simp
    refine hK.out _ _ (F0) (fun _ => ?_)
    clear hK K
    try simp only [Act.put, List.getElem_toArray, List.getElem_cons_succ, List.getElem_cons_zero, List.setIfInBounds_toArray, List.set_cons_zero, List.set_cons_succ]
    refine wpAnyH_ready (rs := [11]) (by kernel_rfl) (by simp) ?_
    refine AllReadyH.cons rfl (fun K hK => ?_) AllReadyH.nil
    go_simp
    refine (cR _ KA c2 (SlL.below hr.2.1 t4) TA c3 (SlL.below hr.2.2 t4)).mono ?_
    rintro e w6 ⟨K6, d6, rfl, ho6, hb6⟩
    have s6 : w3.heap.size + 1 ≤ w6.heap.size := by have := hb6.size; simpa using this
    have F6 := blk_be hb6 F0
    obtain ⟨O6, y6, f6, z6⟩ := keep_blk (cs := (dkC r f n A3 es.length d1 K3 ks.length d2 T3 ts.length d3)) hb6 (g := w3.heap.size) O0
    have t6 := t4.trans (hb6.mono t4.size)
    have hne : w3.heap.size ≠ w.heap.size := by omega
    refine hK.out _ _ (F6) (fun _ => ?_)
    clear hK K
    try simp only [Act.put, List.getElem_toArray, List.getElem_cons_succ, List.getElem_cons_zero, List.setIfInBounds_toArray, List.set_cons_zero, List.set_cons_succ]
    refine wpAnyH_take (i := 12) (v := .pointer (some ⟨w3.heap.size, 4, none⟩)) rfl (by kernel_rfl) (by kernel_rfl) (by kernel_rfl) (fun _ _ _ h => h) (Or.inl ⟨by rfl, (by intro w' hS; skip; go_simp; try first | rfl | (simp [*, Addr.add_lit]; done))⟩) (F6) ?_
    try simp only [Act.put, List.getElem_toArray, List.getElem_cons_succ, List.getElem_cons_zero, List.setIfInBounds_toArray, List.set_cons_zero, List.set_cons_succ]
    refine wpAnyH_ready (rs := [13]) (by kernel_rfl) (by simp) ?_
    refine AllReadyH.cons rfl (fun K hK => ?_) AllReadyH.nil
    go_simp
    have F7 : (w6.setCell ⟨w3.heap.size, 4, none⟩ (.slice K6 dir.length d6)).heap[w.heap.size]? = some (.cells (dkC r f n FA es.length c1 KA ks.length c2 TA ts.length c3) 27 (0, 0)) := (Below.heap_setCell _ _ _ _ (by show w.heap.size ≠ w3.heap.size; omega)).trans F6
    refine hK.out _ _ (F7) (fun _ => ?_)
    clear hK K
    try simp only [Act.put, List.getElem_toArray, List.getElem_cons_succ, List.getElem_cons_zero, List.setIfInBounds_toArray, List.set_cons_zero, List.set_cons_succ]
    refine wpAnyH_take (i := 14) (v := .pointer (some ⟨w3.heap.size, 5, none⟩)) rfl (by kernel_rfl) (by kernel_rfl) (by kernel_rfl) (fun _ _ _ h => h) (Or.inl ⟨by rfl, (by intro w' hS; skip; go_simp; try first | rfl | (simp [*, Addr.add_lit]; done))⟩) (F7) ?_
    try simp only [Act.put, List.getElem_toArray, List.getElem_cons_succ, List.getElem_cons_zero, List.setIfInBounds_toArray, List.set_cons_zero, List.set_cons_succ]
    refine wpAnyH_ready (rs := [15]) (by kernel_rfl) (by simp) ?_
    refine AllReadyH.cons rfl (fun K hK => ?_) AllReadyH.nil
    go_simp
    have F8 : ((w6.setCell ⟨w3.heap.size, 4, none⟩ (.slice K6 dir.length d6)).setCell ⟨w3.heap.size, 5, none⟩ (.slice none 0 0)).heap[w.heap.size]? = some (.cells (dkC r f n FA es.length c1 KA ks.length c2 TA ts.length c3) 27 (0, 0)) := (Below.heap_setCell _ _ _ _ (by show w.heap.size ≠ w3.heap.size; omega)).trans F7
    refine hK.out _ _ (F8) (fun _ => ?_)
    clear hK K
    try simp only [Act.put, List.getElem_toArray, List.getElem_cons_succ, List.getElem_cons_zero, List.setIfInBounds_toArray, List.set_cons_zero, List.set_cons_succ]
    refine wpAnyH_take (i := 16) (v := .pointer (some ⟨w3.heap.size, 1, none⟩)) rfl (by kernel_rfl) (by kernel_rfl) (by kernel_rfl) (fun _ _ _ h => h) (Or.inl ⟨by rfl, (by intro w' hS; skip; go_simp; try first | rfl | (simp [*, Addr.add_lit]; done))⟩) (F8) ?_
    try simp only [Act.put, List.getElem_toArray, List.getElem_cons_succ, List.getElem_cons_zero, List.setIfInBounds_toArray, List.set_cons_zero, List.set_cons_succ]
    refine wpAnyH_ready (rs := [17]) (by kernel_rfl) (by simp) ?_
    refine AllReadyH.cons rfl (fun K hK => ?_) AllReadyH.nil
    go_simp
    have F9 : (((w6.setCell ⟨w3.heap.size, 4, none⟩ (.slice K6 dir.length d6)).setCell ⟨w3.heap.size, 5, none⟩ (.slice none 0 0)).setCell ⟨w3.heap.size, 1, none⟩ (.int .i64 (-1))).heap[w.heap.size]? = some (.cells (dkC r f n FA es.length c1 KA ks.length c2 TA ts.length c3) 27 (0, 0)) := (Below.heap_setCell _ _ _ _ (by show w.heap.size ≠ w3.heap.size; omega)).trans F8
    refine hK.out _ _ (F9) (fun _ => ?_)
    clear hK K
    try simp only [Act.put, List.getElem_toArray, List.getElem_cons_succ, List.getElem_cons_zero, List.setIfInBounds_toArray, List.set_cons_zero, List.set_cons_succ]
    refine wpAnyH_done (by kernel_rfl) ?_ _
    obtain ⟨w7, hw7⟩ : ∃ w7, w7 = (((w6.setCell ⟨w3.heap.size, 4, none⟩ (.slice K6 dir.length d6)).setCell ⟨w3.heap.size, 5, none⟩ (.slice none 0 0)).setCell ⟨w3.heap.size, 1, none⟩ (.int .i64 (-1))) := ⟨_, rfl⟩
    rw [← hw7]
    have O7 : w7.heap[w3.heap.size]? = some (.cells (dkC r (-1) n A3 es.length d1 K6 dir.length d6 none 0 0) 27 (0, 0)) := by rw [hw7]; exact heap_setCell_same _ (heap_setCell_same _ (heap_setCell_same _ O6))
    have k7 : ∀ k, k ≠ w3.heap.size → w7.heap[k]? = w6.heap[k]? := fun k hk => by rw [hw7]; exact (Below.heap_setCell _ _ _ k hk).trans ((Below.heap_setCell _ _ _ k hk).trans (Below.heap_setCell _ _ _ k hk))
    have s7 : w7.heap.size = w6.heap.size := by rw [hw7]; simp
    have t7 : Below w.heap.size w w7 := by rw [hw7]; exact ((t6.setCell (by omega) _).setCell (by omega) _).setCell (by omega) _
    clear hw7 F6 F7 F8 F9 F0 O0 O6 y6 f6 hm1 hm2
    have S7 := Lib.hid s7
    clear s7
    obtain ⟨mm, mm', hG3, q2, q3, _⟩ := ho3
    have b36 : Below w3.heap.size w3 w6 := b4.drew.trans (hb6.mono (by simp))
    have hG7 : FsG w7 w1.heap.size mm A3 d1 fs3 := hG3.keep fun k h1 h2 => (k7 k (by omega)).trans (b36.block k (by omega))
    have i6 := ho6.inB
    have i6' : InB (w3.heap.size + 1) w6.heap.size K6 := fun ad h => by have := i6 ad h; simpa using this
    have ho7 : Oe 63 2 lkL w7 (w3.heap.size + 1) K6 d6 dir := Oe.mono (ho6.keepB fun ad h => k7 _ (by have := i6' ad h; omega)) (by simp)
    have fl3l : fs3.length = es.length := fc_len hd3.out
    have cL := keepLinked_any w3.heap.size r (-1) n w1.heap.size mm A3 d1 fs3 K6 dir d6 none 0 0 w7 (by rw [fl3l]; exact O7) (by omega) hG7 (fun W hW => (Oe.kp ho7 hW i6' (.inr (by omega))).sl lk2) (by omega) (by omega)
    go_wp2_with fail
    refine cL.mono ?_
    rintro e w8 ⟨rfl, O8, hG8, b8, k8⟩
    have z8 := b8.size
    have t8 : Below w.heap.size w w8 := t7.trans (b8.mono (by omega))
    have Z8 : w8.heap[w.heap.size + 1]? = some (.cells zDk 27 (0, 0)) := (b8.block _ (by omega)).trans ((k7 _ (by omega)).trans ((b36.block _ (by omega)).trans Z3))
    have ho8 : Oe 63 2 lkL w8 (w3.heap.size + 1) K6 d6 dir := ho7.keepB fun ad h => k8 _ (by have := i6' ad h; omega) (by have := i6' ad h; have := S7.out; omega) (by have := i6' ad h; omega)
    have S8 : Hid (w6.heap.size ≤ w8.heap.size) := by show _ ≤ _; have := S7.out; omega
    have hgl : (keepF dir fs3).length ≤ es.length := by rw [← fl3l]; exact List.length_filter_le ..
    have hgx : ∀ x, x ∈ keepF dir fs3 → (0 ≤ x.2.2 ∧ x.2.2 ≤ x.2.1.2.2.length) ∧ x.2.1.2.2.length ≤ 1048576 := fun x hx => by
      have h1 : x ∈ fs3 := (List.filter_sublist ..).subset hx
      have h2 : fc x ∈ es.map fc := by rw [← hd3.out]; exact List.mem_map_of_mem h1
      obtain ⟨y, hy, hye⟩ := List.mem_map.1 h2
      have h3 := HSF.out _ h2
      refine ⟨h3, ?_⟩
      have h4 := hg.ey y hy
      simp only [fc, Prod.mk.injEq] at hye
      rw [← hye.2.1]
      exact h4
    have HC : Hid ((keepF dir fs3).map fc = keepC dir (es.map fc)) := by show _ = _; rw [keepF_fc, hd3.out]
    obtain ⟨gs, hgs⟩ : ∃ gs, Hid (keepF dir fs3 = gs) := ⟨_, Lib.hid rfl⟩
    rw [hgs.out] at O8 hG8 hgl hgx HC
    have HGX := Lib.hid hgx
    clear cL hgx hG7 O7 ho7 hG3 ho6
    obtain ⟨nn, hnn⟩ : ∃ nn, nn = gs.length := ⟨_, rfl⟩
    rw [← hnn] at O8 hgl
    have HN := Lib.hid hnn
    clear hnn
    have y8 : ∀ i, w8.cell? ⟨w3.heap.size, i, none⟩ = _ := fun i => cell_of_row w8 _ i _ _ (0, 0) O8
    go_wp2_with fail
    go_loopw [37] (fun iv wr => ∃ j : Nat, j ≤ nn ∧ iv = .int .i64 j ∧ FsG wr w1.heap.size mm A3 d1 (crF cuts 0 (gs.take j) ++ gs.drop j) ∧ wr.heap[w3.heap.size]? = some (.cells (dkC r (-1) n A3 nn d1 K6 dir.length d6 none 0 0) 27 (0, 0)) ∧ wr.heap[w.heap.size + 1]? = some (.cells zDk 27 (0, 0)) ∧ Oe 63 2 lkL wr (w3.heap.size + 1) K6 d6 dir ∧ w6.heap.size ≤ wr.heap.size ∧ Below w.heap.size w wr) (fun iv _ => nn - (intOf iv).toNat)
    case atStart => exact ⟨0, Nat.zero_le _, rfl, by simpa [crF] using hG8, O8, Z8, ho8, S8.out, t8⟩
    case round =>
      clear hG8 O8 Z8 ho8 t8 y8
      obtain ⟨j, hj, rfl, hG, OO, ZZ, hoK, s9, t9⟩ := hrel
      have z9 := t9.size
      obtain ⟨OO', yo, fo, zo⟩ := keep_blk (cs := (dkC r (-1) n A3 nn d1 K6 dir.length d6 none 0 0)) (Below.refl wr.heap.size wr) OO
      by_cases hlt : j < nn
      · have hlt' : (j : Int) < nn := by omega
        have hjx : j < gs.length := by have := HN.out; omega
        have hL : crF cuts 0 (gs.take j) ++ gs.drop j = crF cuts 0 (gs.take j) ++ gs[j] :: gs.drop (j + 1) := by rw [List.drop_eq_getElem_cons hjx]
        rw [hL] at hG
        have hml : (crF cuts 0 (gs.take j)).length = j := by rw [crF_len, List.length_take]; omega
        obtain ⟨g, hA3, hlog, hcm, hcap, hF⟩ := hG.1.fillC fl3 (by rw [List.length_append, List.length_cons]; omega)
        have hgj : (crF cuts 0 (gs.take j) ++ gs[j] :: gs.drop (j + 1))[j]? = some gs[j] := by
          have := @List.getElem?_append_right _ (crF cuts 0 (gs.take j)) (gs[j] :: gs.drop (j + 1)) j (by omega)
          rw [this, hml, Nat.sub_self]
          rfl
        have hfl := flat_len fl3 (crF cuts 0 (gs.take j) ++ gs[j] :: gs.drop (j + 1))
        have hll : j * 3 + 3 ≤ (crF cuts 0 (gs.take j) ++ gs[j] :: gs.drop (j + 1)).length * 3 := by rw [List.length_append, List.length_cons]; omega
        have hcap2 : j * 3 + 3 ≤ d1 * 3 := by rw [List.length_append, List.length_cons] at hcap; omega
        have x1 : wr.cell? ⟨g, j * 3 + 1, none⟩ = some (.slice gs[j].2.1.1 gs[j].2.1.2.2.length gs[j].2.1.2.1) := hF.cells _ _ (flat_get fl3 _ j _ hgj 1 _ rfl)
        have x2 : wr.cell? ⟨g, j * 3 + 2, none⟩ = some (.int .i64 gs[j].2.2) := hF.cells _ _ (flat_get fl3 _ j _ hgj 2 _ rfl)
        have ff1 := hF.frozen (j * 3 + 1) (by omega)
        have ff2 := hF.frozen (j * 3 + 2) (by omega)
        have zg := hF.lt
        have hgm : g < mm := by have := hG.2.1 _ hA3; exact this.2
        have hobj : gs[j].2.1.2.2.length ≤ gs[j].2.1.2.1 := by
          obtain ⟨u1, u2, _, _, _, _, u5, _, _⟩ := (by have h := hG.2.2.1; rw [List.map_append, List.map_cons] at h; exact h.split : ∃ m m', _)
          exact Ob.le_cap (bs := gs[j].2.1.2.2) u5
        obtain ⟨⟨hs0, hs1⟩, hlb⟩ := HGX.out _ (List.getElem_mem hjx)
        have hcn := cutN_eq (k := cutK cuts j) (x := fc gs[j]) hs0
        have hcl := cutN_le (k := cutK cuts j) (x := fc gs[j]) hs1
        have hcut : cutFl (cutK cuts j) gs[j] = (gs[j].1, (gs[j].2.1.1, gs[j].2.1.2.1, gs[j].2.1.2.2.take (cutN (cutK cuts j) (fc gs[j]))), (cutN (cutK cuts j) (fc gs[j]) : Int)) := rfl
        have hsucc := crF_succ cuts hjx
        rw [hcut] at hsucc
        obtain ⟨cn, hcnn⟩ : ∃ cn : Nat, Hid (cutN (cutK cuts j) (fc gs[j]) = cn) := ⟨_, Lib.hid rfl⟩
        rw [hcnn.out] at hcn hcl hsucc
        have hcn' : gs[j].2.2 + max 0 (min (cutK cuts j) ((gs[j].2.1.2.2.length : Int) - gs[j].2.2)) = (cn : Int) := hcn
        have hcl' : cn ≤ gs[j].2.1.2.2.length := hcl
        have HGC := Lib.hid (FsG.cut (x := gs[j]) (by rw [hA3] at hG; exact hG) hcl')
        rw [hml] at HGC
        have HSU := Lib.hid hsucc
        obtain ⟨bl, hbl⟩ : ∃ bl : Nat, Hid (gs[j].2.1.2.2.length = bl) := ⟨_, Lib.hid rfl⟩
        rw [hbl.out] at x1 hcn' hcl' hs1 hlb hobj
        obtain ⟨sf, hsf⟩ : ∃ sf : Int, Hid (gs[j].2.2 = sf) := ⟨_, Lib.hid rfl⟩
        rw [hsf.out] at x2 hcn' hs0 hs1
        obtain ⟨kk, hkk⟩ : ∃ kk : Int, Hid (cutK cuts j = kk) := ⟨_, Lib.hid rfl⟩
        rw [hkk.out] at hcn'
        have hs1' : sf ≤ (bl : Int) := by have := hbl.out; have := hsf.out; omega
        have E14 : Hid (IntKind.i64.wrap ((bl : Int) - sf) = (bl : Int) - sf) := by show _ = _; rw [IntKind.wrap_i64]; omega
        have E17 : Hid (IntKind.i64.wrap (sf + max 0 (min kk ((bl : Int) - sf))) = (cn : Int)) := by show _ = _; rw [hcn', IntKind.wrap_i64]; omega
        have hj0 : (0 : Int) ≤ (j : Int) := by omega
        clear hcn hcl hsucc hcut hfl hgj hL hcn' hs1 hF hll
        subst hA3
        have hcc : (cuts = [] ∧ kk = 0) ∨ (0 < cuts.length ∧ ∃ b o, QA = some ⟨b, o, none⟩ ∧ wr.cell? ⟨b, o + j % cuts.length, none⟩ = some (.int .i64 kk)) := by
          rw [← hkk.out, cutK]
          by_cases hc : cuts = []
          · exact .inl ⟨hc, if_pos hc⟩
          · right
            have h0 : 0 < cuts.length := List.length_pos_iff.2 hc
            have hmod := Nat.mod_lt j h0
            rcases hq with h | ⟨b, o, hA, h⟩
            · exact absurd (List.map_eq_nil_iff.1 h) hc
            · refine ⟨h0, b, o, hA, ?_⟩
              have h2 := h (j % cuts.length) (I cuts[j % cuts.length]) (by simp [hmod])
              have h3 := (t9.cell (World.block_lt_of_cell? w _ h2)).trans h2
              rw [h3, if_neg hc, List.getElem?_eq_getElem hmod]
              rfl
        clear hq
        rcases hcc with ⟨hc, rfl⟩ | ⟨hc, b, o, rfl, hx⟩
        · have h0 : ¬ (0 : Int) < cuts.length := by rw [hc]; simp
          clear hc
          have e14 := E14.out
          have e17 := E17.out
          go_wp2_with fail
          have X0 : wr.drew.cell? ⟨g, j * 3 + 1, none⟩ = some (.slice gs[j].2.1.1 bl gs[j].2.1.2.1) ∧ wr.drew.cell? ⟨g, j * 3 + 2, none⟩ = some (.int .i64 sf) := ⟨x1, x2⟩
          refine wp_regionK (fun w' => w'.cell? ⟨g, j * 3 + 1, none⟩ = some (.slice gs[j].2.1.1 bl gs[j].2.1.2.1) ∧ w'.cell? ⟨g, j * 3 + 2, none⟩ = some (.int .i64 sf)) 20 (by kernel_rfl) ?_
          refine wpAnyK_free (i := 0) (v := .pointer (some ⟨g, j * 3, none⟩)) rfl (by kernel_rfl) (by kernel_rfl) (by kernel_rfl) (fun _ _ _ h => h) (by decide) (Or.inl ⟨by rfl, (by intro w' _; go_simp; try first | rfl | (simp [*, Addr.add_lit]; done))⟩) (fun _ => X0) ?_
          try simp only [Act.put, List.getElem_toArray, List.getElem_cons_zero, List.setIfInBounds_toArray, List.set_cons_zero, List.set_cons_succ]
          refine wpAnyK_free (i := 1) (v := .pointer (some ⟨g, j * 3, none⟩)) rfl (by kernel_rfl) (by kernel_rfl) (by kernel_rfl) (fun _ _ _ h => h) (by decide) (Or.inl ⟨by rfl, (by intro w' _; go_simp; try first | rfl | (simp [*, Addr.add_lit]; done))⟩) (fun _ => X0) ?_
          try simp only [Act.put, List.getElem_toArray, List.getElem_cons_succ, List.getElem_cons_zero, List.setIfInBounds_toArray, List.set_cons_zero, List.set_cons_succ]
          refine wpAnyK_free (i := 2) (v := .pointer (some ⟨g, j * 3 + 2, none⟩)) rfl (by kernel_rfl) (by kernel_rfl) (by kernel_rfl) (fun _ _ _ h => h) (by decide) (Or.inl ⟨by rfl, (by intro w' _; go_simp; try first | rfl | (simp [*, Addr.add_lit]; done))⟩) (fun _ => X0) ?_
          try simp only [Act.put, List.getElem_toArray, List.getElem_cons_succ, List.getElem_cons_zero, List.setIfInBounds_toArray, List.set_cons_zero, List.set_cons_succ]
          refine wpAnyK_take (i := 3) (v := .int .i64 sf) rfl (by kernel_rfl) (by kernel_rfl) (by kernel_rfl) (fun _ _ _ h => h) (by kernel_rfl) (by kernel_rfl) (by decide) (Or.inl ⟨by rfl, (by intro w' hS; have q := hS.2; go_simp; try first | rfl | (simp [*]; done))⟩) (X0) ?_
          try simp only [Act.put, List.getElem_toArray, List.getElem_cons_succ, List.getElem_cons_zero, List.setIfInBounds_toArray, List.set_cons_zero, List.set_cons_succ]
          refine wpAnyK_free (i := 4) (v := .int .i64 (0 : Int)) rfl (by kernel_rfl) (by kernel_rfl) (by kernel_rfl) (fun _ _ _ h => h) (by decide) (Or.inl ⟨by rfl, (by intro w' _; go_simp; try first | rfl | (simp [*, Addr.add_lit]; done))⟩) (fun _ => X0) ?_
          try simp only [Act.put, List.getElem_toArray, List.getElem_cons_succ, List.getElem_cons_zero, List.setIfInBounds_toArray, List.set_cons_zero, List.set_cons_succ]
          refine wpAnyK_free (i := 5) (v := .pointer (some ⟨g, j * 3, none⟩)) rfl (by kernel_rfl) (by kernel_rfl) (by kernel_rfl) (fun _ _ _ h => h) (by decide) (Or.inl ⟨by rfl, (by intro w' _; go_simp; try first | rfl | (simp [*, Addr.add_lit]; done))⟩) (fun _ => X0) ?_
          try simp only [Act.put, List.getElem_toArray, List.getElem_cons_succ, List.getElem_cons_zero, List.setIfInBounds_toArray, List.set_cons_zero, List.set_cons_succ]
          refine wpAnyK_free (i := 6) (v := .pointer (some ⟨g, j * 3, none⟩)) rfl (by kernel_rfl) (by kernel_rfl) (by kernel_rfl) (fun _ _ _ h => h) (by decide) (Or.inl ⟨by rfl, (by intro w' _; go_simp; try first | rfl | (simp [*, Addr.add_lit]; done))⟩) (fun _ => X0) ?_
          try simp only [Act.put, List.getElem_toArray, List.getElem_cons_succ, List.getElem_cons_zero, List.setIfInBounds_toArray, List.set_cons_zero, List.set_cons_succ]
          refine wpAnyK_free (i := 7) (v := .pointer (some ⟨g, j * 3 + 1, none⟩)) rfl (by kernel_rfl) (by kernel_rfl) (by kernel_rfl) (fun _ _ _ h => h) (by decide) (Or.inl ⟨by rfl, (by intro w' _; go_simp; try first | rfl | (simp [*, Addr.add_lit]; done))⟩) (fun _ => X0) ?_
          try simp only [Act.put, List.getElem_toArray, List.getElem_cons_succ, List.getElem_cons_zero, List.setIfInBounds_toArray, List.set_cons_zero, List.set_cons_succ]
          refine wpAnyK_take (i := 8) (v := .slice gs[j].2.1.1 bl gs[j].2.1.2.1) rfl (by kernel_rfl) (by kernel_rfl) (by kernel_rfl) (fun _ _ _ h => h) (by kernel_rfl) (by kernel_rfl) (by decide) (Or.inl ⟨by rfl, (by intro w' hS; have q := hS.1; go_simp; try first | rfl | (simp [*]; done))⟩) (X0) ?_
          try simp only [Act.put, List.getElem_toArray, List.getElem_cons_succ, List.getElem_cons_zero, List.setIfInBounds_toArray, List.set_cons_zero, List.set_cons_succ]
          refine wpAnyK_free (i := 9) (v := .int .i64 bl) rfl (by kernel_rfl) (by kernel_rfl) (by kernel_rfl) (fun _ _ _ h => h) (by decide) (Or.inl ⟨by rfl, (by intro w' _; go_simp; try first | rfl | (simp [*, Addr.add_lit]; done))⟩) (fun _ => X0) ?_
          try simp only [Act.put, List.getElem_toArray, List.getElem_cons_succ, List.getElem_cons_zero, List.setIfInBounds_toArray, List.set_cons_zero, List.set_cons_succ]
          refine wpAnyK_free (i := 10) (v := .pointer (some ⟨g, j * 3, none⟩)) rfl (by kernel_rfl) (by kernel_rfl) (by kernel_rfl) (fun _ _ _ h => h) (by decide) (Or.inl ⟨by rfl, (by intro w' _; go_simp; try first | rfl | (simp [*, Addr.add_lit]; done))⟩) (fun _ => X0) ?_
          try simp only [Act.put, List.getElem_toArray, List.getElem_cons_succ, List.getElem_cons_zero, List.setIfInBounds_toArray, List.set_cons_zero, List.set_cons_succ]
          refine wpAnyK_free (i := 11) (v := .pointer (some ⟨g, j * 3, none⟩)) rfl (by kernel_rfl) (by kernel_rfl) (by kernel_rfl) (fun _ _ _ h => h) (by decide) (Or.inl ⟨by rfl, (by intro w' _; go_simp; try first | rfl | (simp [*, Addr.add_lit]; done))⟩) (fun _ => X0) ?_
          try simp only [Act.put, List.getElem_toArray, List.getElem_cons_succ, List.getElem_cons_zero, List.setIfInBounds_toArray, List.set_cons_zero, List.set_cons_succ]
          refine wpAnyK_free (i := 12) (v := .pointer (some ⟨g, j * 3 + 2, none⟩)) rfl (by kernel_rfl) (by kernel_rfl) (by kernel_rfl) (fun _ _ _ h => h) (by decide) (Or.inl ⟨by rfl, (by intro w' _; go_simp; try first | rfl | (simp [*, Addr.add_lit]; done))⟩) (fun _ => X0) ?_
          try simp only [Act.put, List.getElem_toArray, List.getElem_cons_succ, List.getElem_cons_zero, List.setIfInBounds_toArray, List.set_cons_zero, List.set_cons_succ]
          refine wpAnyK_take (i := 13) (v := .int .i64 sf) rfl (by kernel_rfl) (by kernel_rfl) (by kernel_rfl) (fun _ _ _ h => h) (by kernel_rfl) (by kernel_rfl) (by decide) (Or.inl ⟨by rfl, (by intro w' hS; have q := hS.2; go_simp; try first | rfl | (simp [*]; done))⟩) (X0) ?_
          try simp only [Act.put, List.getElem_toArray, List.getElem_cons_succ, List.getElem_cons_zero, List.setIfInBounds_toArray, List.set_cons_zero, List.set_cons_succ]
          refine wpAnyK_free (i := 14) (v := .int .i64 ((bl : Int) - sf)) rfl (by kernel_rfl) (by kernel_rfl) (by kernel_rfl) (fun _ _ _ h => h) (by decide) (Or.inl ⟨by rfl, (by intro w' _; go_simp; try first | rfl | (simp [*, Addr.add_lit]; done))⟩) (fun _ => X0) ?_
          try simp only [Act.put, List.getElem_toArray, List.getElem_cons_succ, List.getElem_cons_zero, List.setIfInBounds_toArray, List.set_cons_zero, List.set_cons_succ]
          refine wpAnyK_free (i := 15) (v := .int .i64 (min (0 : Int) ((bl : Int) - sf))) rfl (by kernel_rfl) (by kernel_rfl) (by kernel_rfl) (fun _ _ _ h => h) (by decide) (Or.inl ⟨by rfl, (by intro w' _; go_simp; try first | rfl | (simp [*, Addr.add_lit]; done))⟩) (fun _ => X0) ?_
          try simp only [Act.put, List.getElem_toArray, List.getElem_cons_succ, List.getElem_cons_zero, List.setIfInBounds_toArray, List.set_cons_zero, List.set_cons_succ]
          refine wpAnyK_free (i := 16) (v := .int .i64 (max 0 (min (0 : Int) ((bl : Int) - sf)))) rfl (by kernel_rfl) (by kernel_rfl) (by kernel_rfl) (fun _ _ _ h => h) (by decide) (Or.inl ⟨by rfl, (by intro w' _; go_simp; try first | rfl | (simp [*, Addr.add_lit]; done))⟩) (fun _ => X0) ?_
          try simp only [Act.put, List.getElem_toArray, List.getElem_cons_succ, List.getElem_cons_zero, List.setIfInBounds_toArray, List.set_cons_zero, List.set_cons_succ]
          refine wpAnyK_free (i := 17) (v := .int .i64 (cn : Int)) rfl (by kernel_rfl) (by kernel_rfl) (by kernel_rfl) (fun _ _ _ h => h) (by decide) (Or.inl ⟨by rfl, (by intro w' _; go_simp; try first | rfl | (simp [*, Addr.add_lit]; done))⟩) (fun _ => X0) ?_
          try simp only [Act.put, List.getElem_toArray, List.getElem_cons_succ, List.getElem_cons_zero, List.setIfInBounds_toArray, List.set_cons_zero, List.set_cons_succ]
          refine wpAnyK_free (i := 18) (v := .pointer (some ⟨g, j * 3, none⟩)) rfl (by kernel_rfl) (by kernel_rfl) (by kernel_rfl) (fun _ _ _ h => h) (by decide) (Or.inl ⟨by rfl, (by intro w' _; go_simp; try first | rfl | (simp [*, Addr.add_lit]; done))⟩) (fun _ => X0) ?_
          try simp only [Act.put, List.getElem_toArray, List.getElem_cons_succ, List.getElem_cons_zero, List.setIfInBounds_toArray, List.set_cons_zero, List.set_cons_succ]
          refine wpAnyK_free (i := 19) (v := .pointer (some ⟨g, j * 3 + 2, none⟩)) rfl (by kernel_rfl) (by kernel_rfl) (by kernel_rfl) (fun _ _ _ h => h) (by decide) (Or.inl ⟨by rfl, (by intro w' _; go_simp; try first | rfl | (simp [*, Addr.add_lit]; done))⟩) (fun _ => X0) ?_
          try simp only [Act.put, List.getElem_toArray, List.getElem_cons_succ, List.getElem_cons_zero, List.setIfInBounds_toArray, List.set_cons_zero, List.set_cons_succ]
          refine wpAnyK_ready (rs := [20]) (by kernel_rfl) (by simp) ?_
          refine AllReadyK.cons rfl (fun K hK => ?_) AllReadyK.nil
          go_simp
          refine hK.out _ _ (late (by kernel_rfl)) ?_
          clear hK K
          try simp only [Act.put, List.getElem_toArray, List.getElem_cons_succ, List.getElem_cons_zero, List.setIfInBounds_toArray, List.set_cons_zero, List.set_cons_succ]
          refine wpAnyK_done (by kernel_rfl) ?_ _
          clear X0 e14 e17
          obtain ⟨v, hv⟩ : ∃ v, v = wr.drew.setCell ⟨g, j * 3 + 2, none⟩ (.int .i64 (cn : Int)) := ⟨_, rfl⟩
          try rw [show (wr.setCell ⟨g, j * 3 + 2, none⟩ (.int .i64 (cn : Int))).drew = v from by rw [hv]; rfl]
          try rw [← hv]
          have v1 : v.cell? ⟨g, j * 3 + 1, none⟩ = some (.slice gs[j].2.1.1 bl gs[j].2.1.2.1) := by rw [hv]; exact (World.cell?_setCell_other _ _ _ _ (by simp)).trans x1
          have v2 : v.cell? ⟨g, j * 3 + 2, none⟩ = some (.int .i64 (cn : Int)) := by rw [hv]; exact World.cell?_setCell_same _ _ _ (by rw [show wr.drew.cell? ⟨g, j * 3 + 2, none⟩ = some (.int .i64 sf) from x2])
          have vf : v.frozen? ⟨g, j * 3 + 1, none⟩ = false := by rw [hv]; simpa using ff1
          have X1 : v.drew.cell? ⟨g, j * 3 + 1, none⟩ = some (.slice gs[j].2.1.1 bl gs[j].2.1.2.1) ∧ v.drew.cell? ⟨g, j * 3 + 2, none⟩ = some (.int .i64 (cn : Int)) := ⟨v1, v2⟩
          have HV := Lib.hid hv
          clear hv
          have hc1 : (0 : Int) ≤ (cn : Int) := by omega
          have hc2 : (cn : Int) ≤ gs[j].2.1.2.1 := by omega
          go_wp2_with fail
          refine wp_regionK (fun w' => w'.cell? ⟨g, j * 3 + 1, none⟩ = some (.slice gs[j].2.1.1 bl gs[j].2.1.2.1) ∧ w'.cell? ⟨g, j * 3 + 2, none⟩ = some (.int .i64 (cn : Int))) 12 (by kernel_rfl) ?_
          refine wpAnyK_free (i := 0) (v := .pointer (some ⟨g, j * 3, none⟩)) rfl (by kernel_rfl) (by kernel_rfl) (by kernel_rfl) (fun _ _ _ h => h) (by decide) (Or.inl ⟨by rfl, (by intro w' _; go_simp; try first | rfl | (simp [*, Addr.add_lit]; done))⟩) (fun _ => X1) ?_
          try simp only [Act.put, List.getElem_toArray, List.getElem_cons_zero, List.setIfInBounds_toArray, List.set_cons_zero, List.set_cons_succ]
          refine wpAnyK_free (i := 1) (v := .pointer (some ⟨g, j * 3, none⟩)) rfl (by kernel_rfl) (by kernel_rfl) (by kernel_rfl) (fun _ _ _ h => h) (by decide) (Or.inl ⟨by rfl, (by intro w' _; go_simp; try first | rfl | (simp [*, Addr.add_lit]; done))⟩) (fun _ => X1) ?_
          try simp only [Act.put, List.getElem_toArray, List.getElem_cons_succ, List.getElem_cons_zero, List.setIfInBounds_toArray, List.set_cons_zero, List.set_cons_succ]
          refine wpAnyK_free (i := 2) (v := .pointer (some ⟨g, j * 3, none⟩)) rfl (by kernel_rfl) (by kernel_rfl) (by kernel_rfl) (fun _ _ _ h => h) (by decide) (Or.inl ⟨by rfl, (by intro w' _; go_simp; try first | rfl | (simp [*, Addr.add_lit]; done))⟩) (fun _ => X1) ?_
          try simp only [Act.put, List.getElem_toArray, List.getElem_cons_succ, List.getElem_cons_zero, List.setIfInBounds_toArray, List.set_cons_zero, List.set_cons_succ]
          refine wpAnyK_free (i := 3) (v := .pointer (some ⟨g, j * 3 + 1, none⟩)) rfl (by kernel_rfl) (by kernel_rfl) (by kernel_rfl) (fun _ _ _ h => h) (by decide) (Or.inl ⟨by rfl, (by intro w' _; go_simp; try first | rfl | (simp [*, Addr.add_lit]; done))⟩) (fun _ => X1) ?_
          try simp only [Act.put, List.getElem_toArray, List.getElem_cons_succ, List.getElem_cons_zero, List.setIfInBounds_toArray, List.set_cons_zero, List.set_cons_succ]
          refine wpAnyK_take (i := 4) (v := .slice gs[j].2.1.1 bl gs[j].2.1.2.1) rfl (by kernel_rfl) (by kernel_rfl) (by kernel_rfl) (fun _ _ _ h => h) (by kernel_rfl) (by kernel_rfl) (by decide) (Or.inl ⟨by rfl, (by intro w' hS; have q := hS.1; go_simp; try first | rfl | (simp [*]; done))⟩) (X1) ?_
          try simp only [Act.put, List.getElem_toArray, List.getElem_cons_succ, List.getElem_cons_zero, List.setIfInBounds_toArray, List.set_cons_zero, List.set_cons_succ]
          refine wpAnyK_free (i := 5) (v := .pointer (some ⟨g, j * 3, none⟩)) rfl (by kernel_rfl) (by kernel_rfl) (by kernel_rfl) (fun _ _ _ h => h) (by decide) (Or.inl ⟨by rfl, (by intro w' _; go_simp; try first | rfl | (simp [*, Addr.add_lit]; done))⟩) (fun _ => X1) ?_
          try simp only [Act.put, List.getElem_toArray, List.getElem_cons_succ, List.getElem_cons_zero, List.setIfInBounds_toArray, List.set_cons_zero, List.set_cons_succ]
          refine wpAnyK_free (i := 6) (v := .pointer (some ⟨g, j * 3, none⟩)) rfl (by kernel_rfl) (by kernel_rfl) (by kernel_rfl) (fun _ _ _ h => h) (by decide) (Or.inl ⟨by rfl, (by intro w' _; go_simp; try first | rfl | (simp [*, Addr.add_lit]; done))⟩) (fun _ => X1) ?_
          try simp only [Act.put, List.getElem_toArray, List.getElem_cons_succ, List.getElem_cons_zero, List.setIfInBounds_toArray, List.set_cons_zero, List.set_cons_succ]
          refine wpAnyK_free (i := 7) (v := .pointer (some ⟨g, j * 3 + 2, none⟩)) rfl (by kernel_rfl) (by kernel_rfl) (by kernel_rfl) (fun _ _ _ h => h) (by decide) (Or.inl ⟨by rfl, (by intro w' _; go_simp; try first | rfl | (simp [*, Addr.add_lit]; done))⟩) (fun _ => X1) ?_
          try simp only [Act.put, List.getElem_toArray, List.getElem_cons_succ, List.getElem_cons_zero, List.setIfInBounds_toArray, List.set_cons_zero, List.set_cons_succ]
          refine wpAnyK_take (i := 8) (v := .int .i64 (cn : Int)) rfl (by kernel_rfl) (by kernel_rfl) (by kernel_rfl) (fun _ _ _ h => h) (by kernel_rfl) (by kernel_rfl) (by decide) (Or.inl ⟨by rfl, (by intro w' hS; have q := hS.2; go_simp; try first | rfl | (simp [*]; done))⟩) (X1) ?_
          try simp only [Act.put, List.getElem_toArray, List.getElem_cons_succ, List.getElem_cons_zero, List.setIfInBounds_toArray, List.set_cons_zero, List.set_cons_succ]
          refine wpAnyK_ready (rs := [9]) (by kernel_rfl) (by simp) ?_
          refine AllReadyK.cons rfl (fun K hK => ?_) AllReadyK.nil
          go_simp
          refine hK.out _ _ (fun _ => X1) ?_
          clear hK K
          try simp only [Act.put, List.getElem_toArray, List.getElem_cons_succ, List.getElem_cons_zero, List.setIfInBounds_toArray, List.set_cons_zero, List.set_cons_succ]
          refine wpAnyK_free (i := 10) (v := .pointer (some ⟨g, j * 3, none⟩)) rfl (by kernel_rfl) (by kernel_rfl) (by kernel_rfl) (fun _ _ _ h => h) (by decide) (Or.inl ⟨by rfl, (by intro w' _; go_simp; try first | rfl | (simp [*, Addr.add_lit]; done))⟩) (fun _ => X1) ?_
          try simp only [Act.put, List.getElem_toArray, List.getElem_cons_succ, List.getElem_cons_zero, List.setIfInBounds_toArray, List.set_cons_zero, List.set_cons_succ]
          refine wpAnyK_free (i := 11) (v := .pointer (some ⟨g, j * 3 + 1, none⟩)) rfl (by kernel_rfl) (by kernel_rfl) (by kernel_rfl) (fun _ _ _ h => h) (by decide) (Or.inl ⟨by rfl, (by intro w' _; go_simp; try first | rfl | (simp [*, Addr.add_lit]; done))⟩) (fun _ => X1) ?_
          try simp only [Act.put, List.getElem_toArray, List.getElem_cons_succ, List.getElem_cons_zero, List.setIfInBounds_toArray, List.set_cons_zero, List.set_cons_succ]
          refine wpAnyK_ready (rs := [12]) (by kernel_rfl) (by simp) ?_
          refine AllReadyK.cons rfl (fun K hK => ?_) AllReadyK.nil
          go_simp
          refine hK.out _ _ (late (by kernel_rfl)) ?_
          clear hK K
          try simp only [Act.put, List.getElem_toArray, List.getElem_cons_succ, List.getElem_cons_zero, List.setIfInBounds_toArray, List.set_cons_zero, List.set_cons_succ]
          refine wpAnyK_done (by kernel_rfl) ?_ _
          clear X1 hc1 hc2
          go_wp2_with fail
          have hh : (v.setCell ⟨g, j * 3 + 1, none⟩ (.slice gs[j].2.1.1 cn gs[j].2.1.2.1)).drew.heap = ((wr.setCell ⟨g, j * 3 + 2, none⟩ (.int .i64 (cn : Int))).setCell ⟨g, j * 3 + 1, none⟩ (.slice gs[j].2.1.1 cn gs[j].2.1.2.1)).heap := by rw [HV.out]; rfl
          have hsz : (v.setCell ⟨g, j * 3 + 1, none⟩ (.slice gs[j].2.1.1 cn gs[j].2.1.2.1)).drew.heap.size = wr.heap.size := by rw [hh]; simp
          have hne : ∀ k, k ≠ g → (v.setCell ⟨g, j * 3 + 1, none⟩ (.slice gs[j].2.1.1 cn gs[j].2.1.2.1)).drew.heap[k]? = wr.heap[k]? := fun k hk => by rw [hh]; exact (Below.heap_setCell _ _ _ k hk).trans (Below.heap_setCell _ _ _ k hk)
          have iK := hoK.inB
          have tV : Below w.heap.size w (v.setCell ⟨g, j * 3 + 1, none⟩ (.slice gs[j].2.1.1 cn gs[j].2.1.2.1)).drew := by rw [HV.out]; exact ((t9.drew.setCell (by show w.heap.size ≤ g; omega) _).setCell (by show w.heap.size ≤ g; omega) _).drew
          go_roundw
          case rel => exact ⟨j + 1, by omega, by go_num, by rw [HSU.out, List.append_assoc]; exact HGC.out.keep fun k _ _ => by rw [hh], (hne _ (by omega)).trans OO, (hne _ (by omega)).trans ZZ, hoK.keepB fun ad had => hne _ (by have := iK ad had; omega), by rw [hsz]; exact s9, tV⟩
          case measure => simp [intOf]; omega
        · have h0 : (0 : Int) < cuts.length := by omega
          obtain ⟨p, hp⟩ : ∃ p : Nat, Hid (j % cuts.length = p) := ⟨_, Lib.hid rfl⟩
          have hpl : p < cuts.length := by rw [← hp.out]; exact Nat.mod_lt j hc
          rw [hp.out] at hx
          have em : Int.tmod (j : Int) (cuts.length : Int) = (p : Int) := by rw [← hp.out]; exact (Int.ofNat_tmod _ _).symm
          have em2 : (j : Int) % (cuts.length : Int) = (p : Int) := by rw [← hp.out]; simp
          have hn0 : ¬ (cuts.length : Int) = 0 := by omega
          have hp0 : (0 : Int) ≤ (p : Int) := by omega
          have hp1 : (p : Int) < cuts.length := by omega
          have e14 := E14.out
          have e17 := E17.out
          go_wp2_with fail
          have X0 : wr.drew.cell? ⟨g, j * 3 + 1, none⟩ = some (.slice gs[j].2.1.1 bl gs[j].2.1.2.1) ∧ wr.drew.cell? ⟨g, j * 3 + 2, none⟩ = some (.int .i64 sf) := ⟨x1, x2⟩
          refine wp_regionK (fun w' => w'.cell? ⟨g, j * 3 + 1, none⟩ = some (.slice gs[j].2.1.1 bl gs[j].2.1.2.1) ∧ w'.cell? ⟨g, j * 3 + 2, none⟩ = some (.int .i64 sf)) 20 (by kernel_rfl) ?_
          refine wpAnyK_free (i := 0) (v := .pointer (some ⟨g, j * 3, none⟩)) rfl (by kernel_rfl) (by kernel_rfl) (by kernel_rfl) (fun _ _ _ h => h) (by decide) (Or.inl ⟨by rfl, (by intro w' _; go_simp; try first | rfl | (simp [*, Addr.add_lit]; done))⟩) (fun _ => X0) ?_
          try simp only [Act.put, List.getElem_toArray, List.getElem_cons_zero, List.setIfInBounds_toArray, List.set_cons_zero, List.set_cons_succ]
          refine wpAnyK_free (i := 1) (v := .pointer (some ⟨g, j * 3, none⟩)) rfl (by kernel_rfl) (by kernel_rfl) (by kernel_rfl) (fun _ _ _ h => h) (by decide) (Or.inl ⟨by rfl, (by intro w' _; go_simp; try first | rfl | (simp [*, Addr.add_lit]; done))⟩) (fun _ => X0) ?_
          try simp only [Act.put, List.getElem_toArray, List.getElem_cons_succ, List.getElem_cons_zero, List.setIfInBounds_toArray, List.set_cons_zero, List.set_cons_succ]
          refine wpAnyK_free (i := 2) (v := .pointer (some ⟨g, j * 3 + 2, none⟩)) rfl (by kernel_rfl) (by kernel_rfl) (by kernel_rfl) (fun _ _ _ h => h) (by decide) (Or.inl ⟨by rfl, (by intro w' _; go_simp; try first | rfl | (simp [*, Addr.add_lit]; done))⟩) (fun _ => X0) ?_
          try simp only [Act.put, List.getElem_toArray, List.getElem_cons_succ, List.getElem_cons_zero, List.setIfInBounds_toArray, List.set_cons_zero, List.set_cons_succ]
          refine wpAnyK_take (i := 3) (v := .int .i64 sf) rfl (by kernel_rfl) (by kernel_rfl) (by kernel_rfl) (fun _ _ _ h => h) (by kernel_rfl) (by kernel_rfl) (by decide) (Or.inl ⟨by rfl, (by intro w' hS; have q := hS.2; go_simp; try first | rfl | (simp [*]; done))⟩) (X0) ?_
          try simp only [Act.put, List.getElem_toArray, List.getElem_cons_succ, List.getElem_cons_zero, List.setIfInBounds_toArray, List.set_cons_zero, List.set_cons_succ]
          refine wpAnyK_free (i := 4) (v := .int .i64 kk) rfl (by kernel_rfl) (by kernel_rfl) (by kernel_rfl) (fun _ _ _ h => h) (by decide) (Or.inl ⟨by rfl, (by intro w' _; go_simp; try first | rfl | (simp [*, Addr.add_lit]; done))⟩) (fun _ => X0) ?_
          try simp only [Act.put, List.getElem_toArray, List.getElem_cons_succ, List.getElem_cons_zero, List.setIfInBounds_toArray, List.set_cons_zero, List.set_cons_succ]
          refine wpAnyK_free (i := 5) (v := .pointer (some ⟨g, j * 3, none⟩)) rfl (by kernel_rfl) (by kernel_rfl) (by kernel_rfl) (fun _ _ _ h => h) (by decide) (Or.inl ⟨by rfl, (by intro w' _; go_simp; try first | rfl | (simp [*, Addr.add_lit]; done))⟩) (fun _ => X0) ?_
          try simp only [Act.put, List.getElem_toArray, List.getElem_cons_succ, List.getElem_cons_zero, List.setIfInBounds_toArray, List.set_cons_zero, List.set_cons_succ]
          refine wpAnyK_free (i := 6) (v := .pointer (some ⟨g, j * 3, none⟩)) rfl (by kernel_rfl) (by kernel_rfl) (by kernel_rfl) (fun _ _ _ h => h) (by decide) (Or.inl ⟨by rfl, (by intro w' _; go_simp; try first | rfl | (simp [*, Addr.add_lit]; done))⟩) (fun _ => X0) ?_
          try simp only [Act.put, List.getElem_toArray, List.getElem_cons_succ, List.getElem_cons_zero, List.setIfInBounds_toArray, List.set_cons_zero, List.set_cons_succ]
          refine wpAnyK_free (i := 7) (v := .pointer (some ⟨g, j * 3 + 1, none⟩)) rfl (by kernel_rfl) (by kernel_rfl) (by kernel_rfl) (fun _ _ _ h => h) (by decide) (Or.inl ⟨by rfl, (by intro w' _; go_simp; try first | rfl | (simp [*, Addr.add_lit]; done))⟩) (fun _ => X0) ?_
          try simp only [Act.put, List.getElem_toArray, List.getElem_cons_succ, List.getElem_cons_zero, List.setIfInBounds_toArray, List.set_cons_zero, List.set_cons_succ]
          refine wpAnyK_take (i := 8) (v := .slice gs[j].2.1.1 bl gs[j].2.1.2.1) rfl (by kernel_rfl) (by kernel_rfl) (by kernel_rfl) (fun _ _ _ h => h) (by kernel_rfl) (by kernel_rfl) (by decide) (Or.inl ⟨by rfl, (by intro w' hS; have q := hS.1; go_simp; try first | rfl | (simp [*]; done))⟩) (X0) ?_
          try simp only [Act.put, List.getElem_toArray, List.getElem_cons_succ, List.getElem_cons_zero, List.setIfInBounds_toArray, List.set_cons_zero, List.set_cons_succ]
          refine wpAnyK_free (i := 9) (v := .int .i64 bl) rfl (by kernel_rfl) (by kernel_rfl) (by kernel_rfl) (fun _ _ _ h => h) (by decide) (Or.inl ⟨by rfl, (by intro w' _; go_simp; try first | rfl | (simp [*, Addr.add_lit]; done))⟩) (fun _ => X0) ?_
          try simp only [Act.put, List.getElem_toArray, List.getElem_cons_succ, List.getElem_cons_zero, List.setIfInBounds_toArray, List.set_cons_zero, List.set_cons_succ]
          refine wpAnyK_free (i := 10) (v := .pointer (some ⟨g, j * 3, none⟩)) rfl (by kernel_rfl) (by kernel_rfl) (by kernel_rfl) (fun _ _ _ h => h) (by decide) (Or.inl ⟨by rfl, (by intro w' _; go_simp; try first | rfl | (simp [*, Addr.add_lit]; done))⟩) (fun _ => X0) ?_
          try simp only [Act.put, List.getElem_toArray, List.getElem_cons_succ, List.getElem_cons_zero, List.setIfInBounds_toArray, List.set_cons_zero, List.set_cons_succ]
          refine wpAnyK_free (i := 11) (v := .pointer (some ⟨g, j * 3, none⟩)) rfl (by kernel_rfl) (by kernel_rfl) (by kernel_rfl) (fun _ _ _ h => h) (by decide) (Or.inl ⟨by rfl, (by intro w' _; go_simp; try first | rfl | (simp [*, Addr.add_lit]; done))⟩) (fun _ => X0) ?_
          try simp only [Act.put, List.getElem_toArray, List.getElem_cons_succ, List.getElem_cons_zero, List.setIfInBounds_toArray, List.set_cons_zero, List.set_cons_succ]
          refine wpAnyK_free (i := 12) (v := .pointer (some ⟨g, j * 3 + 2, none⟩)) rfl (by kernel_rfl) (by kernel_rfl) (by kernel_rfl) (fun _ _ _ h => h) (by decide) (Or.inl ⟨by rfl, (by intro w' _; go_simp; try first | rfl | (simp [*, Addr.add_lit]; done))⟩) (fun _ => X0) ?_
          try simp only [Act.put, List.getElem_toArray, List.getElem_cons_succ, List.getElem_cons_zero, List.setIfInBounds_toArray, List.set_cons_zero, List.set_cons_succ]
          refine wpAnyK_take (i := 13) (v := .int .i64 sf) rfl (by kernel_rfl) (by kernel_rfl) (by kernel_rfl) (fun _ _ _ h => h) (by kernel_rfl) (by kernel_rfl) (by decide) (Or.inl ⟨by rfl, (by intro w' hS; have q := hS.2; go_simp; try first | rfl | (simp [*]; done))⟩) (X0) ?_
          try simp only [Act.put, List.getElem_toArray, List.getElem_cons_succ, List.getElem_cons_zero, List.setIfInBounds_toArray, List.set_cons_zero, List.set_cons_succ]
          refine wpAnyK_free (i := 14) (v := .int .i64 ((bl : Int) - sf)) rfl (by kernel_rfl) (by kernel_rfl) (by kernel_rfl) (fun _ _ _ h => h) (by decide) (Or.inl ⟨by rfl, (by intro w' _; go_simp; try first | rfl | (simp [*, Addr.add_lit]; done))⟩) (fun _ => X0) ?_
          try simp only [Act.put, List.getElem_toArray, List.getElem_cons_succ, List.getElem_cons_zero, List.setIfInBounds_toArray, List.set_cons_zero, List.set_cons_succ]
          refine wpAnyK_free (i := 15) (v := .int .i64 (min kk ((bl : Int) - sf))) rfl (by kernel_rfl) (by kernel_rfl) (by kernel_rfl) (fun _ _ _ h => h) (by decide) (Or.inl ⟨by rfl, (by intro w' _; go_simp; try first | rfl | (simp [*, Addr.add_lit]; done))⟩) (fun _ => X0) ?_
          try simp only [Act.put, List.getElem_toArray, List.getElem_cons_succ, List.getElem_cons_zero, List.setIfInBounds_toArray, List.set_cons_zero, List.set_cons_succ]
          refine wpAnyK_free (i := 16) (v := .int .i64 (max 0 (min kk ((bl : Int) - sf)))) rfl (by kernel_rfl) (by kernel_rfl) (by kernel_rfl) (fun _ _ _ h => h) (by decide) (Or.inl ⟨by rfl, (by intro w' _; go_simp; try first | rfl | (simp [*, Addr.add_lit]; done))⟩) (fun _ => X0) ?_
          try simp only [Act.put, List.getElem_toArray, List.getElem_cons_succ, List.getElem_cons_zero, List.setIfInBounds_toArray, List.set_cons_zero, List.set_cons_succ]
          refine wpAnyK_free (i := 17) (v := .int .i64 (cn : Int)) rfl (by kernel_rfl) (by kernel_rfl) (by kernel_rfl) (fun _ _ _ h => h) (by decide) (Or.inl ⟨by rfl, (by intro w' _; go_simp; try first | rfl | (simp [*, Addr.add_lit]; done))⟩) (fun _ => X0) ?_
          try simp only [Act.put, List.getElem_toArray, List.getElem_cons_succ, List.getElem_cons_zero, List.setIfInBounds_toArray, List.set_cons_zero, List.set_cons_succ]
          refine wpAnyK_free (i := 18) (v := .pointer (some ⟨g, j * 3, none⟩)) rfl (by kernel_rfl) (by kernel_rfl) (by kernel_rfl) (fun _ _ _ h => h) (by decide) (Or.inl ⟨by rfl, (by intro w' _; go_simp; try first | rfl | (simp [*, Addr.add_lit]; done))⟩) (fun _ => X0) ?_
          try simp only [Act.put, List.getElem_toArray, List.getElem_cons_succ, List.getElem_cons_zero, List.setIfInBounds_toArray, List.set_cons_zero, List.set_cons_succ]
          refine wpAnyK_free (i := 19) (v := .pointer (some ⟨g, j * 3 + 2, none⟩)) rfl (by kernel_rfl) (by kernel_rfl) (by kernel_rfl) (fun _ _ _ h => h) (by decide) (Or.inl ⟨by rfl, (by intro w' _; go_simp; try first | rfl | (simp [*, Addr.add_lit]; done))⟩) (fun _ => X0) ?_
          try simp only [Act.put, List.getElem_toArray, List.getElem_cons_succ, List.getElem_cons_zero, List.setIfInBounds_toArray, List.set_cons_zero, List.set_cons_succ]
          refine wpAnyK_ready (rs := [20]) (by kernel_rfl) (by simp) ?_
          refine AllReadyK.cons rfl (fun K hK => ?_) AllReadyK.nil
          go_simp
          refine hK.out _ _ (late (by kernel_rfl)) ?_
          clear hK K
          try simp only [Act.put, List.getElem_toArray, List.getElem_cons_succ, List.getElem_cons_zero, List.setIfInBounds_toArray, List.set_cons_zero, List.set_cons_succ]
          refine wpAnyK_done (by kernel_rfl) ?_ _
          clear X0 e14 e17
          obtain ⟨v, hv⟩ : ∃ v, v = wr.drew.setCell ⟨g, j * 3 + 2, none⟩ (.int .i64 (cn : Int)) := ⟨_, rfl⟩
          try rw [show (wr.setCell ⟨g, j * 3 + 2, none⟩ (.int .i64 (cn : Int))).drew = v from by rw [hv]; rfl]
          try rw [← hv]
          have v1 : v.cell? ⟨g, j * 3 + 1, none⟩ = some (.slice gs[j].2.1.1 bl gs[j].2.1.2.1) := by rw [hv]; exact (World.cell?_setCell_other _ _ _ _ (by simp)).trans x1
          have v2 : v.cell? ⟨g, j * 3 + 2, none⟩ = some (.int .i64 (cn : Int)) := by rw [hv]; exact World.cell?_setCell_same _ _ _ (by rw [show wr.drew.cell? ⟨g, j * 3 + 2, none⟩ = some (.int .i64 sf) from x2])
          have vf : v.frozen? ⟨g, j * 3 + 1, none⟩ = false := by rw [hv]; simpa using ff1
          have X1 : v.drew.cell? ⟨g, j * 3 + 1, none⟩ = some (.slice gs[j].2.1.1 bl gs[j].2.1.2.1) ∧ v.drew.cell? ⟨g, j * 3 + 2, none⟩ = some (.int .i64 (cn : Int)) := ⟨v1, v2⟩
          have HV := Lib.hid hv
          clear hv
          have hc1 : (0 : Int) ≤ (cn : Int) := by omega
          have hc2 : (cn : Int) ≤ gs[j].2.1.2.1 := by omega
          go_wp2_with fail
          refine wp_regionK (fun w' => w'.cell? ⟨g, j * 3 + 1, none⟩ = some (.slice gs[j].2.1.1 bl gs[j].2.1.2.1) ∧ w'.cell? ⟨g, j * 3 + 2, none⟩ = some (.int .i64 (cn : Int))) 12 (by kernel_rfl) ?_
          refine wpAnyK_free (i := 0) (v := .pointer (some ⟨g, j * 3, none⟩)) rfl (by kernel_rfl) (by kernel_rfl) (by kernel_rfl) (fun _ _ _ h => h) (by decide) (Or.inl ⟨by rfl, (by intro w' _; go_simp; try first | rfl | (simp [*, Addr.add_lit]; done))⟩) (fun _ => X1) ?_
          try simp only [Act.put, List.getElem_toArray, List.getElem_cons_zero, List.setIfInBounds_toArray, List.set_cons_zero, List.set_cons_succ]
          refine wpAnyK_free (i := 1) (v := .pointer (some ⟨g, j * 3, none⟩)) rfl (by kernel_rfl) (by kernel_rfl) (by kernel_rfl) (fun _ _ _ h => h) (by decide) (Or.inl ⟨by rfl, (by intro w' _; go_simp; try first | rfl | (simp [*, Addr.add_lit]; done))⟩) (fun _ => X1) ?_
          try simp only [Act.put, List.getElem_toArray, List.getElem_cons_succ, List.getElem_cons_zero, List.setIfInBounds_toArray, List.set_cons_zero, List.set_cons_succ]
          refine wpAnyK_free (i := 2) (v := .pointer (some ⟨g, j * 3, none⟩)) rfl (by kernel_rfl) (by kernel_rfl) (by kernel_rfl) (fun _ _ _ h => h) (by decide) (Or.inl ⟨by rfl, (by intro w' _; go_simp; try first | rfl | (simp [*, Addr.add_lit]; done))⟩) (fun _ => X1) ?_
          try simp only [Act.put, List.getElem_toArray, List.getElem_cons_succ, List.getElem_cons_zero, List.setIfInBounds_toArray, List.set_cons_zero, List.set_cons_succ]
          refine wpAnyK_free (i := 3) (v := .pointer (some ⟨g, j * 3 + 1, none⟩)) rfl (by kernel_rfl) (by kernel_rfl) (by kernel_rfl) (fun _ _ _ h => h) (by decide) (Or.inl ⟨by rfl, (by intro w' _; go_simp; try first | rfl | (simp [*, Addr.add_lit]; done))⟩) (fun _ => X1) ?_
          try simp only [Act.put, List.getElem_toArray, List.getElem_cons_succ, List.getElem_cons_zero, List.setIfInBounds_toArray, List.set_cons_zero, List.set_cons_succ]
          refine wpAnyK_take (i := 4) (v := .slice gs[j].2.1.1 bl gs[j].2.1.2.1) rfl (by kernel_rfl) (by kernel_rfl) (by kernel_rfl) (fun _ _ _ h => h) (by kernel_rfl) (by kernel_rfl) (by decide) (Or.inl ⟨by rfl, (by intro w' hS; have q := hS.1; go_simp; try first | rfl | (simp [*]; done))⟩) (X1) ?_
          try simp only [Act.put, List.getElem_toArray, List.getElem_cons_succ, List.getElem_cons_zero, List.setIfInBounds_toArray, List.set_cons_zero, List.set_cons_succ]
          refine wpAnyK_free (i := 5) (v := .pointer (some ⟨g, j * 3, none⟩)) rfl (by kernel_rfl) (by kernel_rfl) (by kernel_rfl) (fun _ _ _ h => h) (by decide) (Or.inl ⟨by rfl, (by intro w' _; go_simp; try first | rfl | (simp [*, Addr.add_lit]; done))⟩) (fun _ => X1) ?_
          try simp only [Act.put, List.getElem_toArray, List.getElem_cons_succ, List.getElem_cons_zero, List.setIfInBounds_toArray, List.set_cons_zero, List.set_cons_succ]
          refine wpAnyK_free (i := 6) (v := .pointer (some ⟨g, j * 3, none⟩)) rfl (by kernel_rfl) (by kernel_rfl) (by kernel_rfl) (fun _ _ _ h => h) (by decide) (Or.inl ⟨by rfl, (by intro w' _; go_simp; try first | rfl | (simp [*, Addr.add_lit]; done))⟩) (fun _ => X1) ?_
          try simp only [Act.put, List.getElem_toArray, List.getElem_cons_succ, List.getElem_cons_zero, List.setIfInBounds_toArray, List.set_cons_zero, List.set_cons_succ]
          refine wpAnyK_free (i := 7) (v := .pointer (some ⟨g, j * 3 + 2, none⟩)) rfl (by kernel_rfl) (by kernel_rfl) (by kernel_rfl) (fun _ _ _ h => h) (by decide) (Or.inl ⟨by rfl, (by intro w' _; go_simp; try first | rfl | (simp [*, Addr.add_lit]; done))⟩) (fun _ => X1) ?_
          try simp only [Act.put, List.getElem_toArray, List.getElem_cons_succ, List.getElem_cons_zero, List.setIfInBounds_toArray, List.set_cons_zero, List.set_cons_succ]
          refine wpAnyK_take (i := 8) (v := .int .i64 (cn : Int)) rfl (by kernel_rfl) (by kernel_rfl) (by kernel_rfl) (fun _ _ _ h => h) (by kernel_rfl) (by kernel_rfl) (by decide) (Or.inl ⟨by rfl, (by intro w' hS; have q := hS.2; go_simp; try first | rfl | (simp [*]; done))⟩) (X1) ?_
          try simp only [Act.put, List.getElem_toArray, List.getElem_cons_succ, List.getElem_cons_zero, List.setIfInBounds_toArray, List.set_cons_zero, List.set_cons_succ]
          refine wpAnyK_ready (rs := [9]) (by kernel_rfl) (by simp) ?_
          refine AllReadyK.cons rfl (fun K hK => ?_) AllReadyK.nil
          go_simp
          refine hK.out _ _ (fun _ => X1) ?_
          clear hK K
          try simp only [Act.put, List.getElem_toArray, List.getElem_cons_succ, List.getElem_cons_zero, List.setIfInBounds_toArray, List.set_cons_zero, List.set_cons_succ]
          refine wpAnyK_free (i := 10) (v := .pointer (some ⟨g, j * 3, none⟩)) rfl (by kernel_rfl) (by kernel_rfl) (by kernel_rfl) (fun _ _ _ h => h) (by decide) (Or.inl ⟨by rfl, (by intro w' _; go_simp; try first | rfl | (simp [*, Addr.add_lit]; done))⟩) (fun _ => X1) ?_
          try simp only [Act.put, List.getElem_toArray, List.getElem_cons_succ, List.getElem_cons_zero, List.setIfInBounds_toArray, List.set_cons_zero, List.set_cons_succ]
          refine wpAnyK_free (i := 11) (v := .pointer (some ⟨g, j * 3 + 1, none⟩)) rfl (by kernel_rfl) (by kernel_rfl) (by kernel_rfl) (fun _ _ _ h => h) (by decide) (Or.inl ⟨by rfl, (by intro w' _; go_simp; try first | rfl | (simp [*, Addr.add_lit]; done))⟩) (fun _ => X1) ?_
          try simp only [Act.put, List.getElem_toArray, List.getElem_cons_succ, List.getElem_cons_zero, List.setIfInBounds_toArray, List.set_cons_zero, List.set_cons_succ]
          refine wpAnyK_ready (rs := [12]) (by kernel_rfl) (by simp) ?_
          refine AllReadyK.cons rfl (fun K hK => ?_) AllReadyK.nil
          go_simp
          refine hK.out _ _ (late (by kernel_rfl)) ?_
          clear hK K
          try simp only [Act.put, List.getElem_toArray, List.getElem_cons_succ, List.getElem_cons_zero, List.setIfInBounds_toArray, List.set_cons_zero, List.set_cons_succ]
          refine wpAnyK_done (by kernel_rfl) ?_ _
          clear X1 hc1 hc2
          go_wp2_with fail
          have hh : (v.setCell ⟨g, j * 3 + 1, none⟩ (.slice gs[j].2.1.1 cn gs[j].2.1.2.1)).drew.heap = ((wr.setCell ⟨g, j * 3 + 2, none⟩ (.int .i64 (cn : Int))).setCell ⟨g, j * 3 + 1, none⟩ (.slice gs[j].2.1.1 cn gs[j].2.1.2.1)).heap := by rw [HV.out]; rfl
          have hsz : (v.setCell ⟨g, j * 3 + 1, none⟩ (.slice gs[j].2.1.1 cn gs[j].2.1.2.1)).drew.heap.size = wr.heap.size := by rw [hh]; simp
          have hne : ∀ k, k ≠ g → (v.setCell ⟨g, j * 3 + 1, none⟩ (.slice gs[j].2.1.1 cn gs[j].2.1.2.1)).drew.heap[k]? = wr.heap[k]? := fun k hk => by rw [hh]; exact (Below.heap_setCell _ _ _ k hk).trans (Below.heap_setCell _ _ _ k hk)
          have iK := hoK.inB
          have tV : Below w.heap.size w (v.setCell ⟨g, j * 3 + 1, none⟩ (.slice gs[j].2.1.1 cn gs[j].2.1.2.1)).drew := by rw [HV.out]; exact ((t9.drew.setCell (by show w.heap.size ≤ g; omega) _).setCell (by show w.heap.size ≤ g; omega) _).drew
          go_roundw
          case rel => exact ⟨j + 1, by omega, by go_num, by rw [HSU.out, List.append_assoc]; exact HGC.out.keep fun k _ _ => by rw [hh], (hne _ (by omega)).trans OO, (hne _ (by omega)).trans ZZ, hoK.keepB fun ad had => hne _ (by have := iK ad had; omega), by rw [hsz]; exact s9, tV⟩
          case measure => simp [intOf]; omega
      · have hlt' : ¬ ((j : Int) < nn) := by omega
        obtain rfl : j = nn := by omega
        have ht : gs.take j = gs := List.take_of_length_le (by have := HN.out; omega)
        have hdr : gs.drop j = [] := List.drop_of_length_le (by have := HN.out; omega)
        rw [ht, hdr, List.append_nil] at hG
        have hd9 : Hid ((crF cuts 0 gs).map fc = crC cuts 0 (keepC dir (es.map fc))) := by show _ = _; rw [crF_fc, HC.out]
        have hl9 : Hid ((crC cuts 0 (keepC dir (es.map fc))).length = j) := by show _ = _; rw [← hd9.out, List.length_map, crF_len]; exact HN.out.symm
        have iK := hoK.inB
        have hD : DkG wr w1.heap.size wr.heap.size A3 d1 (crF cuts 0 gs) K6 d6 dir none 0 [] := ⟨mm, wr.heap.size, hG, by omega, Nat.le_refl _, Oe.mono hoK (by omega), fun ad h => by have := iK ad h; omega, ownsG_nil _ _ _ _, fun _ h => by cases h⟩
        obtain ⟨ZZ', yzz, fzz, zzz⟩ := keep_blk (cs := zDk) (Below.refl wr.heap.size wr) ZZ
        clear ht hdr hG hoK ZZ' OO'
        go_wp2_with fail
        refine bodyPost_ret (v := .tuple #[dkV r (-1) n A3 j d1 K6 dir.length d6 none 0 0, .bool true]) (by simp [results, Try.results6, go_sem, *]) rfl ?_
        refine ⟨A3, d1, crF cuts 0 gs, K6, d6, none, 0, by dsimp only; rw [hl9.out]; rfl, hd9, ?_, ((((((t9.setCell (by first | omega | (simp; done) | (simp; omega)) _).setCell (by first | omega | (simp; done) | (simp; omega)) _).setCell (by first | omega | (simp; done) | (simp; omega)) _).setCell (by first | omega | (simp; done) | (simp; omega)) _).setCell (by first | omega | (simp; done) | (simp; omega)) _).setCell (by first | omega | (simp; done) | (simp; omega)) _)⟩
        refine DkG.lower (lo := w1.heap.size) ?_ (by omega)
        iterate 6 refine DkG.setCell ?_ (by simp; try omega)
        exact hD
end Go.Proofs.Ytndmdhmghjfckaa
