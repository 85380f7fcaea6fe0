/- Find: the law. -/
import Derived.Test.YtpaeffmjkkikbaaGreatDoorFa
namespace Go.Proofs.YtpaeffmjkkikbaaGreatDoor
open Go.RowKit
set_option linter.unusedVariables false
set_option maxRecDepth 100000

theorem FdPost.out {w w' : World} {G S K : Int} {L : List UInt8} {LD : List (List UInt8)} {m : Nat} {e : Ending} (h : FdPost w (G, S, L, LD, K) e w') (hm : LD.length = m) : ∃ A c A' c' fs mid, Hid (LD = datas fs) ∧ fs.length = m ∧ m ≤ 1048576 ∧ tot fs ≤ 1048576 ∧ e = .returned (.tuple #[.int .i64 G, .int .i64 S, .slice A L.length c, .slice A' m c', .int .i64 K]) ∧ (∀ e, e ∈ fs → Dj e.1 A') ∧ Ob w' w.heap.size A c L ∧ InB w.heap.size mid A ∧ w.heap.size ≤ mid ∧ mid ≤ w'.heap.size ∧ Own w' mid w'.heap.size A' fs ∧ Below w.heap.size w w' := by
  obtain ⟨A, c, A', c', n, fs, mid, h1, h2, h3, h4, he, h5, h6, h7, h8, h9, h10, h11⟩ := h
  have h12 : n = m := by rw [← hm, ← h2, show LD = datas fs from h1.out]; simp [datas]
  subst h12
  exact ⟨A, c, A', c', fs, mid, h1, h2, h3, h4, he, h5, h6, h7, h8, h9, h10, h11⟩
theorem findV_bd (r f n : Int) (es : List Fl) (u : Nat) (ks : List Lk) (ts : List Tn) (hey : ∀ e, e ∈ es → e.2.1.2.2.length ≤ 1048576) : (findV r f n (es.map fc) u ks ts).2.2.1.length ≤ 1048576 := by
  unfold findV
  split
  · split
    · simp
    · exact (nwV_bd r f n es u ks ts hey).2.2.1
  · simp
theorem tot_memN {es : List Sl} {N : Nat} (h : tot es ≤ N) : ∀ e, e ∈ es → e.2.2.length ≤ N := by
  intro e he
  obtain ⟨k, hk, rfl⟩ := List.getElem_of_mem he
  have := tot_get hk
  omega
theorem eqL_any (A A' : Option Addr) (c c' n : Nat) (es fs : List Sl) (LD : List (List UInt8)) (w : World) (hn : es.length = n) (ha : Ls w A es) (hb : Ls w A' fs) (h1 : Hid (LD = datas es)) (h2 : Hid (LD = datas fs)) (hl : n ≤ 1048576) (hm : tot es ≤ 1048576) :
    Calls Tryz.prog 16 #[.slice A n c, .slice A' n c'] w fun e w' => e = .returned (.bool true) ∧ Below w.heap.size w w' :=
  eqLoadS_same A A' c c' n es fs w hn ha hb (Lib.hid (h2.out.symm.trans h1.out)) (by omega) (tot_memN (by omega))
theorem heldL_any (A : Option Addr) (c n : Nat) (es : List Sl) (k : Nat) (w : World) (hn : es.length = n) (ha : Ls w A (marked (k : Int) es)) (hk2 : k ≤ 10000000) (ht : tot es ≤ 1048576) (hl : n ≤ 1048576) :
    Calls Tryz.prog 18 #[.slice A n c, .int .i64 k] w fun e w' => e = .returned (.int .i64 ((k + tot es : Nat) : Int)) ∧ Below w.heap.size w w' := by
  subst hn
  exact (heldLoadS_any _ _ _ _ _ ha (by omega) (by omega) (by omega)).mono fun e w' ⟨he, m, hm⟩ => ⟨by rw [he]; rfl, hm ▸ below_drewN (Below.refl _ _) m⟩
theorem markL_any (lo hi : Nat) (A : Option Addr) (c n : Nat) (es : List Sl) (k : Nat) (w : World) (hn : es.length = n) (ho : Own w lo hi A es) (hj : ∀ e, e ∈ es → Dj e.1 A) (hlo : hi ≤ w.heap.size) (hk2 : k ≤ 10000000) (ht : tot es ≤ 1048576) (hl : n ≤ 1048576) :
    Calls Tryz.prog 17 #[.slice A n c, .int .i64 k] w fun e w' => e = .returned (.int .i64 ((k + tot es : Nat) : Int)) ∧ Ls w' A (marked (k : Int) es) ∧ Kp lo hi w w' := by
  subst hn
  exact (markLoadS_any A c lo hi es (k : Int) w ho.1 hj ho.2.2 hlo (by omega) (by omega) (by omega)).mono fun e w' ⟨he, h1, h2, h3⟩ => ⟨by rw [he]; rfl, ⟨by rw [marked_map]; exact h2, h1.by_⟩, h3⟩
set_option maxHeartbeats 8000000 in
theorem walk_FnExactFind (vs0 : List Value) (w : World) (h0 : Rd Tryz.prog w 26 vs0) (hl : Lv w) :
    Calls Tryz.prog 4 #[.agg vs0.toArray] w fun e w' => e = .returned (.bool true) ∧ Below w.heap.size w w' := by
  obtain ⟨r, f, n, FA, es, c1, KA, ks, c2, TA, ts, c3, rfl, ⟨br, bf, bn⟩, ⟨hF, hFl, hFm⟩, ⟨hK, hKl, hKm⟩, hT, hTl, hTm⟩ := rd_disk h0
  clear h0
  have hsz := fun w' (hb : Below w.heap.size w w') => szDisk_any r f n FA es c1 KA ks c2 TA ts c3 w' (hF.below hb) hFl (fun e he => (hFm e he).2.1) (SlL.below hK hb) hKl (fun e he => (hKm e he).1) (SlL.below hT hb) hTl (fun e he => ⟨(hTm e he).2.1, (hTm e he).2.2.1⟩)
  have hr : Dr w FA es KA ks TA ts := ⟨hF, hK, hT⟩
  have t0 : Below w.heap.size w (w.alloc (.cells (dkC r f n FA es.length c1 KA ks.length c2 TA ts.length c3) 26)) := (Below.refl _ _).alloc (Nat.le_refl _) _
  by_cases hbig : (1048576 : Int) < (es.length + ftot es) + (ks.length + ktot ks) + (ts.length + ttot ts)
  · have HS1 := szR_no hbig
    go_enter Tryz.func4, Tryz.ntmps4
    go_wp2_with fail
    refine (hsz _ t0).mono ?_
    rintro e w1 ⟨he, hb1⟩
    rw [HS1.out] at he
    subst he
    go_wp2_with fail
    go_ret
    exact ⟨rfl, t0.trans (hb1.mono t0.size)⟩
  have HS1 := szR_yes hbig
  have hg := Good.of hbig fun e he => ⟨(hFm e he).1, (hFm e he).2.2⟩
  obtain ⟨L, hL⟩ : ∃ L : Int, Hid (1048576 - ((es.length + ftot es : Int) + (ks.length + ktot ks) + (ts.length + ttot ts)) = L) := ⟨_, Lib.hid rfl⟩
  have hL0 : ¬ L < 0 := by have := hL.out; omega
  have HB := Lib.hid hbig
  clear hF hK hT hFm hKm hTm hbig br bf bn hFl hKl hTl
  have hRl := findV_bd r f n es (ftot es) ks ts hg.ey
  obtain ⟨⟨G, S, L, LD, K⟩, hR⟩ : ∃ V, Hid (findV r f n (es.map fc) (ftot es) ks ts = V) := ⟨_, Lib.hid rfl⟩
  rw [hR.out] at hRl
  obtain ⟨m, hmm⟩ : ∃ m, Hid (LD.length = m) := ⟨_, Lib.hid rfl⟩
  have hRl : L.length ≤ 1048576 := hRl
  go_enter Tryz.func4, Tryz.ntmps4
  go_wp2_with fail
  refine (hsz _ t0).mono ?_
  rintro e w1 ⟨he, hb1⟩
  rw [HS1.out, hL.out] at he
  subst he
  obtain ⟨Ba1, qa1, ra1, za1⟩ := keep_blk hb1 (g := w.heap.size) (by repeat (first | assumption | exact heap_alloc_at _ (by first | rfl | (simp; done) | omega) | refine heap_alloc_of _ ?_ | refine heap_setCell_of _ (by first | omega | (simp; done) | (simp; omega)) ?_ | refine heap_setCell_same _ ?_ | exact heap_at1_same (by first | omega | (simp; done) | (simp; omega)) | refine heap_at1_of (by first | omega | (simp; done) | (simp; omega)) ?_))
  have t1 := t0.trans (hb1.mono t0.size)
  clear hsz
  go_wp2_with fail
  refine (toD_any r f n FA es c1 KA ks c2 TA ts c3 _ (hr.below t1) hg).mono ?_
  rintro e w2 ⟨FA2, d1, fs2, KA2, d2, TA2, d3, rfl, hd2, ho2, hb2⟩
  obtain ⟨Ba2, qa2, ra2, za2⟩ := keep_blk hb2 (g := w.heap.size) (by repeat (first | assumption | exact heap_alloc_at _ (by first | rfl | (simp; done) | omega) | refine heap_alloc_of _ ?_ | refine heap_setCell_of _ (by first | omega | (simp; done) | (simp; omega)) ?_ | refine heap_setCell_same _ ?_ | exact heap_at1_same (by first | omega | (simp; done) | (simp; omega)) | refine heap_at1_of (by first | omega | (simp; done) | (simp; omega)) ?_))
  clear Ba1 qa1 ra1
  have t2 := t1.trans (hb2.mono t1.size)
  have cS := fnd_spec r f n FA2 es fs2 d1 KA2 ks d2 TA2 ts d3 w2 ho2.rd hd2 hg
  rw [hR.out] at cS
  go_wp2_with fail
  refine cS.mono ?_
  intro e w3 hpost
  obtain ⟨A3, l3, Q3, r3, gs3, mid3, hd3, hn3, hm3, ht3, rfl, hj3, hw3, _, _, _, ow3, hb3⟩ := FdPost.out hpost hmm.out
  clear hpost
  obtain ⟨Ba3, qa3, ra3, za3⟩ := keep_blk hb3 (g := w.heap.size) (by repeat (first | assumption | exact heap_alloc_at _ (by first | rfl | (simp; done) | omega) | refine heap_alloc_of _ ?_ | refine heap_setCell_of _ (by first | omega | (simp; done) | (simp; omega)) ?_ | refine heap_setCell_same _ ?_ | exact heap_at1_same (by first | omega | (simp; done) | (simp; omega)) | refine heap_at1_of (by first | omega | (simp; done) | (simp; omega)) ?_))
  clear Ba2 qa2 ra2 ho2 cS
  have t3 := t2.trans (hb3.mono t2.size)
  have i3 := hw3.inB
  go_wp2_with fail
  refine (toD_any r f n FA es c1 KA ks c2 TA ts c3 _ (hr.below t3) hg).mono ?_
  rintro e w4 ⟨FA4, e1, fs4, KA4, e2, TA4, e3, rfl, hd4, ho4, hb4⟩
  obtain ⟨Ba4, qa4, ra4, za4⟩ := keep_blk hb4 (g := w.heap.size) (by repeat (first | assumption | exact heap_alloc_at _ (by first | rfl | (simp; done) | omega) | refine heap_alloc_of _ ?_ | refine heap_setCell_of _ (by first | omega | (simp; done) | (simp; omega)) ?_ | refine heap_setCell_same _ ?_ | exact heap_at1_same (by first | omega | (simp; done) | (simp; omega)) | refine heap_at1_of (by first | omega | (simp; done) | (simp; omega)) ?_))
  clear Ba3 qa3 ra3
  have t4 := t3.trans (hb4.mono t3.size)
  have hr4 : Dr w4 FA4 fs4 KA4 ks TA4 ts := ho4.rd
  have hw4 : Ob w4 w2.heap.size A3 l3 L := hw3.below hb4 (Nat.le_refl _)
  have ow4 := ow3.below hb4 (Nat.le_refl _)
  go_wp2_with fail
  have hb40 : Below w4.heap.size w4 (w4.alloc (.cells (dkC r f n FA4 es.length e1 KA4 ks.length e2 TA4 ts.length e3) 35)) := (Below.refl _ _).alloc (Nat.le_refl _) _
  have cI := fnd_impl r f n FA4 es fs4 e1 KA4 ks e2 TA4 ts e3 (w4.alloc (.cells (dkC r f n FA4 es.length e1 KA4 ks.length e2 TA4 ts.length e3) 35)) (hr4.below hb40) hd4 hg (hl.below (t4.trans (hb40.mono t4.size)) (Nat.le_refl _))
  rw [hR.out] at cI
  refine cI.mono ?_
  intro e w5 hpost
  obtain ⟨A5, l5, Q5, r5, gs5, mid5, hd5, hn5, _, ht5, rfl, hj5, hg5, ib5, mi5, mi5', og5, hb5⟩ := FdPost.out hpost hmm.out
  clear hpost
  obtain ⟨Ba5, qa5, ra5, za5⟩ := keep_blk hb5 (g := w.heap.size) (by repeat (first | assumption | exact heap_alloc_at _ (by first | rfl | (simp; done) | omega) | refine heap_alloc_of _ ?_ | refine heap_setCell_of _ (by first | omega | (simp; done) | (simp; omega)) ?_ | refine heap_setCell_same _ ?_ | exact heap_at1_same (by first | omega | (simp; done) | (simp; omega)) | refine heap_at1_of (by first | omega | (simp; done) | (simp; omega)) ?_))
  obtain ⟨Bx5, qx5, rx5, zx5⟩ := keep_blk hb5 (g := w4.heap.size) (by repeat (first | assumption | exact heap_alloc_at _ (by first | rfl | (simp; done) | omega) | refine heap_alloc_of _ ?_ | refine heap_setCell_of _ (by first | omega | (simp; done) | (simp; omega)) ?_ | refine heap_setCell_same _ ?_ | exact heap_at1_same (by first | omega | (simp; done) | (simp; omega)) | refine heap_at1_of (by first | omega | (simp; done) | (simp; omega)) ?_))
  clear Ba4 qa4 ra4 cI
  have hb45 := hb40.trans (hb5.mono hb40.size)
  have t5 := t4.trans (hb45.mono t4.size)
  have hw5 : Ob w5 w2.heap.size A3 l3 L := hw4.below hb45 (Nat.le_refl _)
  have mi5 : w4.heap.size + 1 ≤ mid5 := by simpa using mi5
  have i5 : InB (w4.heap.size + 1) mid5 A5 := fun ad h => by have := ib5 ad h; simpa using this
  have ow5 := ow4.below hb45 hb4.size
  have ho5 := ho4.below hb45 (Nat.le_refl _)
  go_wp2_with fail
  have z34 : w3.heap.size ≤ w4.heap.size := hb4.size
  have z45 := hb45.size
  refine (eqB_same _ _ _ _ L _ (hg5.by_) (hw5.by_) (by omega)).mono ?_
  rintro e w6b ⟨rfl, hb6b⟩
  go_wp2_with fail
  refine (eqL_any _ _ _ _ m gs5 gs3 LD w6b hn5 ((og5.below hb6b (by first | exact Nat.le_refl _ | omega)).ls) ((ow5.below hb6b (by omega)).ls) hd5 hd3 hm3 ht5).mono ?_
  rintro e w6 ⟨rfl, hb6c⟩
  have hb6 : Below w5.heap.size w5 w6 := hb6b.trans (hb6c.mono hb6b.size)
  have og6 := og5.below hb6 (Nat.le_refl _)
  have ow6 := ow5.below hb6 (by omega)
  obtain ⟨Ba6, qa6, ra6, za6⟩ := keep_blk hb6 (g := w.heap.size) Ba5
  obtain ⟨Bx6, qx6, rx6, zx6⟩ := keep_blk hb6 (g := w4.heap.size) Bx5
  clear Ba5 qa5 ra5 Bx5 qx5 rx5
  have t6 := t5.trans (hb6.mono t5.size)
  have hw6 := hw5.below hb6 (Nat.le_refl _)
  have hg6 := hg5.below hb6 (Nat.le_refl _)
  have ho6 := ho5.below hb6 hb45.size
  have hr6 : Dr w6 FA4 fs4 KA4 ks TA4 ts := ho6.rd
  have hrw := hr.below t6
  have s45 : w4.heap.size + 1 ≤ w5.heap.size := by have := hb5.size; simpa using this
  go_wp2_with fail
  have ca0 : w6.cell? ⟨w.heap.size, 0, none⟩ = some (.int .i64 r) := by rw [qa6]; rfl
  have ca1 : w6.cell? ⟨w.heap.size, 1, none⟩ = some (.int .i64 f) := by rw [qa6]; rfl
  have ca2 : w6.cell? ⟨w.heap.size, 2, none⟩ = some (.int .i64 n) := by rw [qa6]; rfl
  have ca3 : w6.cell? ⟨w.heap.size, 3, none⟩ = some (.slice FA es.length c1) := by rw [qa6]; rfl
  have ca4 : w6.cell? ⟨w.heap.size, 4, none⟩ = some (.slice KA ks.length c2) := by rw [qa6]; rfl
  have ca5 : w6.cell? ⟨w.heap.size, 5, none⟩ = some (.slice TA ts.length c3) := by rw [qa6]; rfl
  have cx0 : w6.cell? ⟨w4.heap.size, 0, none⟩ = some (.int .i64 r) := by rw [qx6]; rfl
  have cx1 : w6.cell? ⟨w4.heap.size, 1, none⟩ = some (.int .i64 f) := by rw [qx6]; rfl
  have cx2 : w6.cell? ⟨w4.heap.size, 2, none⟩ = some (.int .i64 n) := by rw [qx6]; rfl
  have cx3 : w6.cell? ⟨w4.heap.size, 3, none⟩ = some (.slice FA4 es.length e1) := by rw [qx6]; rfl
  have cx4 : w6.cell? ⟨w4.heap.size, 4, none⟩ = some (.slice KA4 ks.length e2) := by rw [qx6]; rfl
  have cx5 : w6.cell? ⟨w4.heap.size, 5, none⟩ = some (.slice TA4 ts.length e3) := by rw [qx6]; rfl
  first | (go_region_held3 (fun w' => Below w6.heap.size w6 w' ∧ w'.cell? ⟨w.heap.size, 0, none⟩ = some (.int .i64 r) ∧ w'.cell? ⟨w.heap.size, 1, none⟩ = some (.int .i64 f) ∧ w'.cell? ⟨w.heap.size, 2, none⟩ = some (.int .i64 n) ∧ w'.cell? ⟨w.heap.size, 3, none⟩ = some (.slice FA es.length c1) ∧ w'.cell? ⟨w.heap.size, 4, none⟩ = some (.slice KA ks.length c2) ∧ w'.cell? ⟨w.heap.size, 5, none⟩ = some (.slice TA ts.length c3) ∧ w'.cell? ⟨w4.heap.size, 0, none⟩ = some (.int .i64 r) ∧ w'.cell? ⟨w4.heap.size, 1, none⟩ = some (.int .i64 f) ∧ w'.cell? ⟨w4.heap.size, 2, none⟩ = some (.int .i64 n) ∧ w'.cell? ⟨w4.heap.size, 3, none⟩ = some (.slice FA4 es.length e1) ∧ w'.cell? ⟨w4.heap.size, 4, none⟩ = some (.slice KA4 ks.length e2) ∧ w'.cell? ⟨w4.heap.size, 5, none⟩ = some (.slice TA4 ts.length e3))
    (first | exact ⟨Below.drew (Below.refl _ _), by simpa using ca0, by simpa using ca1, by simpa using ca2, by simpa using ca3, by simpa using ca4, by simpa using ca5, by simpa using cx0, by simpa using cx1, by simpa using cx2, by simpa using cx3, by simpa using cx4, by simpa using cx5⟩ | assumption)
    ((first | (go_at_call 7; refine (toD_any r f n FA es c1 KA ks c2 TA ts c3 _ (hrw.below (Below.drew (Below.refl _ _))) hg).mono ?_; rintro e w7 ⟨FA7, g1, fs7, KA7, g2, TA7, g3, rfl, hd7, ho7, hb7⟩; have s7 : Below w6.heap.size w6 w7 := (Below.drew (Below.refl _ _)).trans hb7; have hkeep_s7 := (And.intro s7 (And.intro ((s7.cell (World.block_lt_of_cell? w6 _ ca0)).trans ca0) (And.intro ((s7.cell (World.block_lt_of_cell? w6 _ ca1)).trans ca1) (And.intro ((s7.cell (World.block_lt_of_cell? w6 _ ca2)).trans ca2) (And.intro ((s7.cell (World.block_lt_of_cell? w6 _ ca3)).trans ca3) (And.intro ((s7.cell (World.block_lt_of_cell? w6 _ ca4)).trans ca4) (And.intro ((s7.cell (World.block_lt_of_cell? w6 _ ca5)).trans ca5) (And.intro ((s7.cell (World.block_lt_of_cell? w6 _ cx0)).trans cx0) (And.intro ((s7.cell (World.block_lt_of_cell? w6 _ cx1)).trans cx1) (And.intro ((s7.cell (World.block_lt_of_cell? w6 _ cx2)).trans cx2) (And.intro ((s7.cell (World.block_lt_of_cell? w6 _ cx3)).trans cx3) (And.intro ((s7.cell (World.block_lt_of_cell? w6 _ cx4)).trans cx4) ((s7.cell (World.block_lt_of_cell? w6 _ cx5)).trans cx5)))))))))))))) | (go_at_call 10; refine (eqDisk_same r f n _ es.length _ _ _ _ _ _ _ _ _ _ _ fs4 fs7 ks ts _ (fc_len hd4.out) (hr6.1.below s7) ho7.rd.1 (Lib.hid (hd7.out.trans hd4.out.symm)) (by have := hg.el; omega) (fun e he => by have := (hg.copy hd4.out).ey e he; omega) (SlL.below hr6.2.1 s7) ho7.rd.2.1 (by have := hg.kl; omega) (SlL.below hr6.2.2 s7) ho7.rd.2.2 (by have := hg.tl; omega)).mono ?_; rintro e w8 ⟨rfl, hb8⟩; have s8 : Below w6.heap.size w6 w8 := s7.trans (hb8.mono s7.size); have hkeep_s8 := (And.intro s8 (And.intro ((s8.cell (World.block_lt_of_cell? w6 _ ca0)).trans ca0) (And.intro ((s8.cell (World.block_lt_of_cell? w6 _ ca1)).trans ca1) (And.intro ((s8.cell (World.block_lt_of_cell? w6 _ ca2)).trans ca2) (And.intro ((s8.cell (World.block_lt_of_cell? w6 _ ca3)).trans ca3) (And.intro ((s8.cell (World.block_lt_of_cell? w6 _ ca4)).trans ca4) (And.intro ((s8.cell (World.block_lt_of_cell? w6 _ ca5)).trans ca5) (And.intro ((s8.cell (World.block_lt_of_cell? w6 _ cx0)).trans cx0) (And.intro ((s8.cell (World.block_lt_of_cell? w6 _ cx1)).trans cx1) (And.intro ((s8.cell (World.block_lt_of_cell? w6 _ cx2)).trans cx2) (And.intro ((s8.cell (World.block_lt_of_cell? w6 _ cx3)).trans cx3) (And.intro ((s8.cell (World.block_lt_of_cell? w6 _ cx4)).trans cx4) ((s8.cell (World.block_lt_of_cell? w6 _ cx5)).trans cx5))))))))))))))))) | fail
  clear hkeep_s7 hkeep_s8 ca0 ca1 ca2 ca3 ca4 ca5 cx0 cx1 cx2 cx3 cx4 cx5 qa6 qx6 ra6 rx6
  have t8 := t6.trans (s8.mono t6.size)
  have z68 := s8.size
  have z56 := hb6.size
  have hw8 := hw6.below s8 (Nat.le_refl _)
  have og8 := og6.below s8 (by omega)
  have ow8 := ow6.below s8 (by omega)
  have hg8 := hg6.below s8 (Nat.le_refl _)
  have ho8 := ho6.below s8 (by omega)
  have Bx8 := (s8.block _ zx6).trans Bx6
  have Ba8 := (s8.block _ za6).trans Ba6
  have y8 : ∀ i, w8.cell? ⟨w4.heap.size, i, none⟩ = _ := fun i => cell_of_row w8 _ i _ _ (0, 0) Bx8
  have cy0 : w8.cell? ⟨w4.heap.size, 0, none⟩ = some (.int .i64 r) := y8 0
  have cy1 : w8.cell? ⟨w4.heap.size, 1, none⟩ = some (.int .i64 f) := y8 1
  have cy2 : w8.cell? ⟨w4.heap.size, 2, none⟩ = some (.int .i64 n) := y8 2
  have cy3 : w8.cell? ⟨w4.heap.size, 3, none⟩ = some (.slice FA4 es.length e1) := y8 3
  have cy4 : w8.cell? ⟨w4.heap.size, 4, none⟩ = some (.slice KA4 ks.length e2) := y8 4
  have cy5 : w8.cell? ⟨w4.heap.size, 5, none⟩ = some (.slice TA4 ts.length e3) := y8 5
  have cM := markDisk_any r f n w3.heap.size w4.heap.size FA4 e1 fs4 KA4 e2 ks TA4 e3 ts 1 w8 ho8 (by omega) (Nat.le_refl _) (by rw [mEnd, fc_len hd4.out, fc_tot hd4.out]; have := HB.out; omega)
  rw [fc_len hd4.out] at cM
  obtain ⟨M, hM⟩ : ∃ M : Nat, Hid (mEnd 1 fs4 ks.length ts.length = M) := ⟨_, Lib.hid rfl⟩
  rw [hM.out] at cM
  go_wp2_with fail
  refine cM.mono ?_
  rintro e w9 ⟨rfl, _, kp9⟩
  have hM0 : ¬ (M : Int) < 0 := by omega
  have z89 := kp9.1.size
  have z34 : w3.heap.size ≤ w4.heap.size := hb4.size
  have z23 : w2.heap.size ≤ w3.heap.size := hb3.size
  have z3 := t3.size
  have hw9 := Ob.kp hw8 kp9 i3 (.inl (Nat.le_refl _))
  have og9 := og8.kp kp9 (by omega) (by omega)
  have ow9 := ow8.below kp9.1 (Nat.le_refl _)
  have hg9 := Ob.kp hg8 kp9 i5 (.inr (by omega))
  have t9 : Below w.heap.size w w9 := t8.trans (kp9.1.mono (by omega))
  have Ba9 := (kp9.1.block w.heap.size za3).trans Ba8
  clear cM y8 cy0 cy1 cy2 cy3 cy4 cy5
  go_wp2_with fail
  refine (eqB_same _ _ _ _ L _ (hg9.by_) (hw9.by_) (by omega)).mono ?_
  rintro e w10b ⟨rfl, hb10b⟩
  go_wp2_with fail
  refine (eqL_any _ _ _ _ m gs5 gs3 LD w10b hn5 ((og9.below hb10b (by first | exact Nat.le_refl _ | omega)).ls) ((ow9.below hb10b (by omega)).ls) hd5 hd3 hm3 ht5).mono ?_
  rintro e w10 ⟨rfl, hb10c⟩
  have hb10 : Below w9.heap.size w9 w10 := hb10b.trans (hb10c.mono hb10b.size)
  have og10 := og9.below hb10 (by omega)
  have ow10 := ow9.below hb10 (by omega)
  have t10 := t9.trans (hb10.mono t9.size)
  have z910 := hb10.size
  have hw10 := hw9.below hb10 (Nat.le_refl _)
  have hg10 := hg9.below hb10 (Nat.le_refl _)
  have Ba10 := (hb10.block w.heap.size (by omega)).trans Ba9
  have cG := markB_any (w4.heap.size + 1) mid5 A5 l5 L 1 w10 (hg10.mono (by simp)) i5 (by omega) hRl (by omega)
  obtain ⟨E1, hE1⟩ : ∃ E : Nat, Hid (1 + L.length = E) := ⟨_, Lib.hid rfl⟩
  rw [hE1.out] at cG
  have hE1b : E1 ≤ 1048577 := by rw [← hE1.out]; omega
  go_wp2_with fail
  refine cG.mono ?_
  rintro e w11b ⟨rfl, hg11b, kp11b⟩
  have z1011b := kp11b.1.size
  have og11b := og10.kp kp11b (Nat.le_refl _) (by omega)
  have cQ := markL_any mid5 w5.heap.size Q5 r5 m gs5 E1 w11b hn5 og11b hj5 (by omega) (by omega) ht5 hm3
  obtain ⟨E, hE⟩ : ∃ E : Nat, Hid (E1 + tot gs5 = E) := ⟨_, Lib.hid rfl⟩
  rw [hE.out] at cQ
  go_wp2_with fail
  refine cQ.mono ?_
  rintro e w11 ⟨rfl, hls11, kp11q⟩
  have hg11 := Ob.kp hg11b kp11q i5 (.inl (Nat.le_refl _))
  have kp11 : Kp (w4.heap.size + 1) w5.heap.size w10 w11 := (kp11b.wide (Nat.le_refl _) mi5').trans (kp11q.wide mi5 (Nat.le_refl _))
  have ow11 := ow10.below kp11.1 (by omega)
  have cHL : ∀ W, Below w11.heap.size w11 W → Calls Tryz.prog 18 #[.slice Q5 m r5, .int .i64 (E1 : Int)] W fun e w' => e = .returned (.int .i64 (E : Int)) ∧ Below W.heap.size W w' := fun W hW => by
    have := heldL_any Q5 r5 m gs5 E1 W hn5 (hls11.below hW) (by omega) ht5 hm3
    rwa [hE.out] at this
  have hE10 : ¬ (E1 : Int) < 0 := by omega
  clear cQ
  have z1011 := kp11.1.size
  have hw11 := Ob.kp hw10 kp11 i3 (.inl (by omega))
  have t11 : Below w.heap.size w w11 := t10.trans (kp11.1.mono (by omega))
  have Ba11 := (kp11.1.block w.heap.size (by omega)).trans Ba10
  have cH : ∀ W, Below w11.heap.size w11 W → Calls Tryz.prog 13 #[.slice A5 L.length l5, .int .i64 1] W fun e w' => e = .returned (.int .i64 (E1 : Int)) ∧ Below W.heap.size W w' := fun W hW => by
    have := heldB_any A5 l5 L.length 1 W (By.below hg11.by_ hW) hRl (by omega)
    rwa [hE1.out] at this
  have hE0 : ¬ (E : Int) < 0 := by omega
  clear cG
  go_wp2_with fail
  refine (cH _ (Below.refl _ _)).mono ?_
  rintro e w12b ⟨rfl, hb12b⟩
  go_wp2_with fail
  refine (cHL _ hb12b).mono ?_
  rintro e w12 ⟨rfl, hb12c⟩
  have hb12 : Below w11.heap.size w11 w12 := hb12b.trans (hb12c.mono hb12b.size)
  have t12 := t11.trans (hb12.mono t11.size)
  have Ba12 := (hb12.block w.heap.size (by have := t11.size; omega)).trans Ba11
  have qa12 : ∀ i, w12.cell? ⟨w.heap.size, i, none⟩ = _ := fun i => cell_of_row w12 _ i _ _ (0, 0) Ba12
  have cz0 : w12.cell? ⟨w.heap.size, 0, none⟩ = some (.int .i64 r) := qa12 0
  have cz1 : w12.cell? ⟨w.heap.size, 1, none⟩ = some (.int .i64 f) := qa12 1
  have cz2 : w12.cell? ⟨w.heap.size, 2, none⟩ = some (.int .i64 n) := qa12 2
  have cz3 : w12.cell? ⟨w.heap.size, 3, none⟩ = some (.slice FA es.length c1) := qa12 3
  have cz4 : w12.cell? ⟨w.heap.size, 4, none⟩ = some (.slice KA ks.length c2) := qa12 4
  have cz5 : w12.cell? ⟨w.heap.size, 5, none⟩ = some (.slice TA ts.length c3) := qa12 5
  go_wp2_with fail
  refine (toD_any r f n FA es c1 KA ks c2 TA ts c3 _ (hr.below t12) hg).mono ?_
  rintro e w13 ⟨FA13, i1', fs13, KA13, i2', TA13, i3', rfl, hd13, ho13, hb13⟩
  have t13 := t12.trans (hb13.mono t12.size)
  have cJ := fnd_impl r f n FA13 es fs13 i1' KA13 ks i2' TA13 ts i3' w13 ho13.rd hd13 hg (hl.below t13 (Nat.le_refl _))
  rw [hR.out] at cJ
  go_wp2_with fail
  refine cJ.mono ?_
  intro e w14 hpost
  obtain ⟨A14, l14, Q14, r14, gs14, mid14, hd14, hn14, _, ht14, rfl, hj14, hg14, _, _, _, og14, hb14⟩ := FdPost.out hpost hmm.out
  clear hpost
  have t14 := t13.trans (hb14.mono t13.size)
  have b1114 : Below w11.heap.size w11 w14 := hb12.trans ((hb13.trans (hb14.mono hb13.size)).mono hb12.size)
  have hw14 := hw11.below b1114 (Nat.le_refl _)
  clear cJ
  go_wp2_with fail
  have ow14 := ow11.below b1114 (by omega)
  have z1114 := b1114.size
  refine (eqB_same _ _ _ _ L _ (hg14.by_) (hw14.by_) (by omega)).mono ?_
  rintro e w15b ⟨rfl, hb15b⟩
  go_wp2_with fail
  refine (eqL_any _ _ _ _ m gs14 gs3 LD w15b hn14 ((og14.below hb15b (by first | exact Nat.le_refl _ | omega)).ls) ((ow14.below hb15b (by omega)).ls) hd14 hd3 hm3 ht14).mono ?_
  rintro e w15 ⟨rfl, hb15c⟩
  have hb15 : Below w14.heap.size w14 w15 := hb15b.trans (hb15c.mono hb15b.size)
  have t15 := t14.trans (hb15.mono t14.size)
  go_wp2_with fail
  refine (cH _ (b1114.trans (hb15.mono b1114.size))).mono ?_
  rintro e w16b ⟨rfl, hb16b⟩
  go_wp2_with fail
  refine (cHL _ ((b1114.trans (hb15.mono b1114.size)).trans (hb16b.mono (b1114.trans (hb15.mono b1114.size)).size))).mono ?_
  rintro e w16 ⟨rfl, hb16c⟩
  have hb16 : Below w15.heap.size w15 w16 := hb16b.trans (hb16c.mono hb16b.size)
  go_wp2_with fail
  go_ret
  exact ⟨rfl, t15.trans (hb16.mono t15.size)⟩
end Go.Proofs.YtpaeffmjkkikbaaGreatDoor
