/- DiskSet: both ways. -/
import Derived.Test.YtljpeiflnimblaaGreatHe
namespace Go.Proofs.YtljpeiflnimblaaGreat
open Go.RowKit
set_option linter.unusedVariables false
set_option maxRecDepth 100000

/-- A disk's content, and whether there is any. -/
structure DV where
  r : Int
  f : Int
  n : Int
  cs : List (Int × List UInt8 × Int)
  ks : List Lk
  ts : List Tn
  ok : Bool
def DV.no : DV := ⟨0, 0, 0, [], [], [], false⟩
/-- A disk in memory of its own, and whether there is any. -/
def DOPost (w : World) (V : DV) (e : Ending) (w' : World) : Prop :=
  ∃ FA c1 fs KA c2 TA c3, e = .returned (.tuple #[dkV V.r V.f V.n FA V.cs.length c1 KA V.ks.length c2 TA V.ts.length c3, .bool V.ok]) ∧ Hid (fs.map fc = V.cs) ∧ DkG w' w.heap.size w'.heap.size FA c1 fs KA c2 V.ks TA c3 V.ts ∧ Below w.heap.size w w'
theorem DkG.nil {w : World} {lo hi : Nat} (h : lo ≤ hi) : DkG w lo hi none 0 [] none 0 [] none 0 [] :=
  ⟨lo, lo, ⟨ownsG_nil _ _ _ _, fun _ h => (by cases h), Nat.le_refl _, fun _ h => (by cases h)⟩, Nat.le_refl _, h, ownsG_nil _ _ _ _, fun _ h => (by cases h), ownsG_nil _ _ _ _, fun _ h => (by cases h)⟩
theorem DOPost.no {w w' : World} (h : Below w.heap.size w w') : DOPost w DV.no (.returned (.tuple #[dkV 0 0 0 none 0 0 none 0 0 none 0 0, .bool false])) w' :=
  ⟨none, 0, [], none, 0, none, 0, rfl, rfl, DkG.nil h.size, h⟩
/-- What DiskSet answers. -/
def setV (room fuse r f n : Int) (cs : List (Int × List UInt8 × Int)) (u : Nat) (ks : List Lk) (ts : List Tn) : DV :=
  if dkB r f n cs u ks ts = true then (if dkB room fuse n cs u ks ts = true then ⟨room, fuse, n, cs, ks, ts, true⟩ else DV.no) else DV.no
set_option maxHeartbeats 4000000 in
theorem diskSet_spec0 (room fuse r f n : Int) (FA : Option Addr) (es : List Fl) (c1 : Nat) (KA : Option Addr) (ks : List Lk) (c2 : Nat) (TA : Option Addr) (ts : List Tn) (c3 : Nat) (w : World) (hr : Dr w FA es KA ks TA ts) (hg : Good es ks ts) :
    Calls Tryz.prog 15 #[dkV r f n FA es.length c1 KA ks.length c2 TA ts.length c3, .int .i64 room, .int .i64 fuse] w (DOPost w (setV room fuse r f n (es.map fc) (ftot es) ks ts)) := by
  have hb0 : Below w.heap.size w ((w.alloc (.cells (dkC r f n FA es.length c1 KA ks.length c2 TA ts.length c3) 35)).alloc (.cells zDk 35)) := by (repeat (first | exact Below.refl _ _ | (refine Below.alloc ?_ (by first | omega | (simp; done) | (simp; omega)) _) | (refine Below.drew ?_) | (refine below_drewN ?_ _) | (refine below_at1 ?_ (by first | omega | (simp; done) | (simp; omega))) | (refine Below.setCell ?_ (by first | omega | (simp; done) | (simp; omega)) _) | (refine Below.trans ?_ (Below.mono (by assumption) (by first | omega | (simp; done) | (simp; omega))))))
  have B0 : ((w.alloc (.cells (dkC r f n FA es.length c1 KA ks.length c2 TA ts.length c3) 35)).alloc (.cells zDk 35)).heap[w.heap.size]? = some (.cells (dkC r f n FA es.length c1 KA ks.length c2 TA ts.length c3) 35 (0, 0)) := (by repeat (first | assumption | exact heap_alloc_at _ (by first | rfl | (simp; done) | omega) | refine heap_alloc_of _ ?_ | refine heap_setCell_of _ (by first | omega | (simp; done) | (simp; omega)) ?_ | refine heap_setCell_same _ ?_ | exact heap_at1_same (by first | omega | (simp; done) | (simp; omega)) | refine heap_at1_of (by first | omega | (simp; done) | (simp; omega)) ?_))
  have Z0 : ((w.alloc (.cells (dkC r f n FA es.length c1 KA ks.length c2 TA ts.length c3) 35)).alloc (.cells zDk 35)).heap[w.heap.size + 1]? = some (.cells zDk 35 (0, 0)) := (by repeat (first | assumption | exact heap_alloc_at _ (by first | rfl | (simp; done) | omega) | refine heap_alloc_of _ ?_ | refine heap_setCell_of _ (by first | omega | (simp; done) | (simp; omega)) ?_ | refine heap_setCell_same _ ?_ | exact heap_at1_same (by first | omega | (simp; done) | (simp; omega)) | refine heap_at1_of (by first | omega | (simp; done) | (simp; omega)) ?_))
  have cC := l02Copy_any r f n FA es c1 KA ks c2 TA ts c3 _ (hr.below hb0) hg
  have cO := fun W (hW : Below w.heap.size w W) => okSpec_any r f n FA es es c1 KA ks c2 TA ts c3 W (hr.below hW) (Lib.hid rfl) hg
  have cP := fun W A a1 f2 K a2 T a3 (h : Dr W A f2 K ks T ts) (h2 : Hid (f2.map fc = es.map fc)) => okSpec_any room fuse n A es f2 a1 K ks a2 T ts a3 W h h2 hg
  obtain ⟨R, hR⟩ : ∃ R, Hid (setV room fuse r f n (es.map fc) (ftot es) ks ts = R) := ⟨_, Lib.hid rfl⟩
  have hcs : (dkB r f n (es.map fc) (ftot es) ks ts = false ∧ R = DV.no) ∨ (dkB r f n (es.map fc) (ftot es) ks ts = true ∧ dkB room fuse n (es.map fc) (ftot es) ks ts = false ∧ R = DV.no) ∨ (dkB r f n (es.map fc) (ftot es) ks ts = true ∧ dkB room fuse n (es.map fc) (ftot es) ks ts = true ∧ R = ⟨room, fuse, n, es.map fc, ks, ts, true⟩) := by
    rw [← hR.out, setV]
    cases dkB r f n (es.map fc) (ftot es) ks ts <;> cases dkB room fuse n (es.map fc) (ftot es) ks ts <;> simp
  rw [hR.out]
  clear hR
  go_enter Tryz.func15, Tryz.ntmps15
  go_wp2_with fail
  refine cC.mono ?_
  intro e w3 hC
  obtain ⟨A3, d1, fs3, K3, d2, T3, d3, he, hd3, ho3, hb3⟩ := hC
  subst he
  have t3 := hb0.trans (hb3.mono hb0.size)
  have z3 := t3.size
  have s3 : w.heap.size + 2 ≤ w3.heap.size := by have := hb3.size; simpa using this
  obtain ⟨B3, y3, f3, zz3⟩ := keep_blk (cs := (dkC r f n FA es.length c1 KA ks.length c2 TA ts.length c3)) hb3 (g := w.heap.size) B0
  obtain ⟨Z3, yz3, fz3, zzz3⟩ := keep_blk (cs := zDk) hb3 (g := w.heap.size + 1) Z0
  have t4 : Below w.heap.size w (w3.alloc (.cells (dkC room fuse n A3 es.length d1 K3 ks.length d2 T3 ts.length d3) 35)) := t3.alloc z3 _
  have b4 : Below w3.heap.size w3 (w3.alloc (.cells (dkC room fuse n A3 es.length d1 K3 ks.length d2 T3 ts.length d3) 35)) := (Below.refl _ _).alloc (Nat.le_refl _) _
  have B4 : (w3.alloc (.cells (dkC room fuse n A3 es.length d1 K3 ks.length d2 T3 ts.length d3) 35)).heap[w3.heap.size]? = some (.cells (dkC room fuse n A3 es.length d1 K3 ks.length d2 T3 ts.length d3) 35 (0, 0)) := heap_alloc_new _ _
  have Z4 := heap_alloc_of (.cells (dkC room fuse n A3 es.length d1 K3 ks.length d2 T3 ts.length d3) 35) Z3
  have cO4 := cO _ t4
  rcases hcs with ⟨h1, rfl⟩ | ⟨h1, h2, rfl⟩ | ⟨h1, h2, rfl⟩
  · rw [h1] at cO4
    clear h1 cO cP
    go_wp2_with fail
    refine cO4.mono ?_
    rintro e w5 ⟨rfl, hb5⟩
    have t5 := t4.trans (hb5.mono t4.size)
    obtain ⟨Z5, yz5, fz5, zz5⟩ := keep_blk (cs := zDk) hb5 (g := w.heap.size + 1) Z4
    clear cO4 y3 f3 yz3 fz3
    go_wp2_with fail
    refine bodyPost_ret (v := .tuple #[dkV 0 0 0 none 0 0 none 0 0 none 0 0, .bool false]) (by simp [results, Tryz.results15, go_sem, *]) rfl ?_
    exact DOPost.no ((((((t5.setCell (by first | omega | (simp; done) | (simp; omega)) _).setCell (by first | omega | (simp; done) | (simp; omega)) _).setCell (by first | omega | (simp; done) | (simp; omega)) _).setCell (by first | omega | (simp; done) | (simp; omega)) _).setCell (by first | omega | (simp; done) | (simp; omega)) _).setCell (by first | omega | (simp; done) | (simp; omega)) _)
  · rw [h1] at cO4
    clear h1 cO
    go_wp2_with fail
    refine cO4.mono ?_
    rintro e w5 ⟨rfl, hb5⟩
    have t5 := t4.trans (hb5.mono t4.size)
    obtain ⟨Z5, yz5, fz5, zz5⟩ := keep_blk (cs := zDk) hb5 (g := w.heap.size + 1) Z4
    obtain ⟨C5, yc5, fc5, zc5⟩ := keep_blk (cs := dkC room fuse n A3 es.length d1 K3 ks.length d2 T3 ts.length d3) hb5 (g := w3.heap.size) B4
    have cP5 := cP w5 A3 d1 fs3 K3 d2 T3 d3 (Dr.below ho3.rd (b4.trans (hb5.mono b4.size))) hd3
    rw [h2] at cP5
    clear cO4 y3 f3 yz3 fz3 h2 cP
    go_wp2_with fail
    refine cP5.mono ?_
    rintro e w6 ⟨rfl, hb6⟩
    have t6 := t5.trans (hb6.mono t5.size)
    obtain ⟨Z6, yz6, fz6, zz6⟩ := keep_blk (cs := zDk) hb6 (g := w.heap.size + 1) Z5
    clear cP5 yz5 fz5 yc5 fc5
    go_wp2_with fail
    refine bodyPost_ret (v := .tuple #[dkV 0 0 0 none 0 0 none 0 0 none 0 0, .bool false]) (by simp [results, Tryz.results15, go_sem, *]) rfl ?_
    exact DOPost.no ((((((t6.setCell (by first | omega | (simp; done) | (simp; omega)) _).setCell (by first | omega | (simp; done) | (simp; omega)) _).setCell (by first | omega | (simp; done) | (simp; omega)) _).setCell (by first | omega | (simp; done) | (simp; omega)) _).setCell (by first | omega | (simp; done) | (simp; omega)) _).setCell (by first | omega | (simp; done) | (simp; omega)) _)
  · rw [h1] at cO4
    clear h1 cO
    go_wp2_with fail
    refine cO4.mono ?_
    rintro e w5 ⟨rfl, hb5⟩
    have t5 := t4.trans (hb5.mono t4.size)
    obtain ⟨Z5, yz5, fz5, zz5⟩ := keep_blk (cs := zDk) hb5 (g := w.heap.size + 1) Z4
    obtain ⟨C5, yc5, fc5, zc5⟩ := keep_blk (cs := dkC room fuse n A3 es.length d1 K3 ks.length d2 T3 ts.length d3) hb5 (g := w3.heap.size) B4
    have b5 := b4.trans (hb5.mono b4.size)
    have cP5 := cP w5 A3 d1 fs3 K3 d2 T3 d3 (Dr.below ho3.rd b5) hd3
    rw [h2] at cP5
    clear cO4 y3 f3 yz3 fz3 h2 cP
    go_wp2_with fail
    refine cP5.mono ?_
    rintro e w6 ⟨rfl, hb6⟩
    have t6 := t5.trans (hb6.mono t5.size)
    have b6 := b5.trans (hb6.mono b5.size)
    obtain ⟨Z6, yz6, fz6, zz6⟩ := keep_blk (cs := zDk) hb6 (g := w.heap.size + 1) Z5
    obtain ⟨C6, yc6, fc6, zc6⟩ := keep_blk (cs := dkC room fuse n A3 es.length d1 K3 ks.length d2 T3 ts.length d3) hb6 (g := w3.heap.size) C5
    clear cP5 yz5 fz5 yc5 fc5
    go_wp2_with fail
    refine bodyPost_ret (v := .tuple #[dkV room fuse n A3 es.length d1 K3 ks.length d2 T3 ts.length d3, .bool true]) (by simp [results, Tryz.results15, go_sem, *]) rfl ?_
    have hD : DkG w6 (w.heap.size + 2) w6.heap.size A3 d1 fs3 K3 d2 ks T3 d3 ts := by
      have h := ho3.below b6 (Nat.le_refl _)
      obtain ⟨m, m', g1, g2, g3, g4⟩ := h
      have := b6.size
      exact ⟨m, m', g1.lower (by simp), g2, by omega, g4.1, g4.2.1, g4.2.2.1, fun ad h => by have := g4.2.2.2 ad h; omega⟩
    have hl : (es.map fc).length = es.length := List.length_map ..
    refine ⟨A3, d1, fs3, K3, d2, T3, d3, by rw [hl], hd3, ?_, ((((((t6.setCell (by first | omega | (simp; done) | (simp; omega)) _).setCell (by first | omega | (simp; done) | (simp; omega)) _).setCell (by first | omega | (simp; done) | (simp; omega)) _).setCell (by first | omega | (simp; done) | (simp; omega)) _).setCell (by first | omega | (simp; done) | (simp; omega)) _).setCell (by first | omega | (simp; done) | (simp; omega)) _)⟩
    refine DkG.lower (lo := w.heap.size + 2) ?_ (by omega)
    iterate 6 refine DkG.setCell ?_ (by simp; try omega)
    exact hD
theorem diskSet_spec (room fuse r f n : Int) (FA : Option Addr) (es fs : List Fl) (c1 : Nat) (KA : Option Addr) (ks : List Lk) (c2 : Nat) (TA : Option Addr) (ts : List Tn) (c3 : Nat) (w : World) (hr : Dr w FA fs KA ks TA ts) (hd : Hid (fs.map fc = es.map fc)) (hg : Good es ks ts) :
    Calls Tryz.prog 15 #[dkV r f n FA es.length c1 KA ks.length c2 TA ts.length c3, .int .i64 room, .int .i64 fuse] w (DOPost w (setV room fuse r f n (es.map fc) (ftot es) ks ts)) := by
  have := diskSet_spec0 room fuse r f n FA fs c1 KA ks c2 TA ts c3 w hr (hg.copy hd.out)
  rwa [fc_len hd.out, hd.out, fc_tot hd.out] at this
set_option maxHeartbeats 4000000 in
theorem diskSet_impl0 (room fuse r f n : Int) (FA : Option Addr) (es : List Fl) (c1 : Nat) (KA : Option Addr) (ks : List Lk) (c2 : Nat) (TA : Option Addr) (ts : List Tn) (c3 : Nat) (w : World) (hr : Dr w FA es KA ks TA ts) (hg : Good es ks ts) :
    Calls Tryz.prog 16 #[dkV r f n FA es.length c1 KA ks.length c2 TA ts.length c3, .int .i64 room, .int .i64 fuse] w (DOPost w (setV room fuse r f n (es.map fc) (ftot es) ks ts)) := by
  have hb0 : Below w.heap.size w ((w.alloc (.cells (dkC r f n FA es.length c1 KA ks.length c2 TA ts.length c3) 35)).alloc (.cells zDk 35)) := by (repeat (first | exact Below.refl _ _ | (refine Below.alloc ?_ (by first | omega | (simp; done) | (simp; omega)) _) | (refine Below.drew ?_) | (refine below_drewN ?_ _) | (refine below_at1 ?_ (by first | omega | (simp; done) | (simp; omega))) | (refine Below.setCell ?_ (by first | omega | (simp; done) | (simp; omega)) _) | (refine Below.trans ?_ (Below.mono (by assumption) (by first | omega | (simp; done) | (simp; omega))))))
  have B0 : ((w.alloc (.cells (dkC r f n FA es.length c1 KA ks.length c2 TA ts.length c3) 35)).alloc (.cells zDk 35)).heap[w.heap.size]? = some (.cells (dkC r f n FA es.length c1 KA ks.length c2 TA ts.length c3) 35 (0, 0)) := (by repeat (first | assumption | exact heap_alloc_at _ (by first | rfl | (simp; done) | omega) | refine heap_alloc_of _ ?_ | refine heap_setCell_of _ (by first | omega | (simp; done) | (simp; omega)) ?_ | refine heap_setCell_same _ ?_ | exact heap_at1_same (by first | omega | (simp; done) | (simp; omega)) | refine heap_at1_of (by first | omega | (simp; done) | (simp; omega)) ?_))
  have Z0 : ((w.alloc (.cells (dkC r f n FA es.length c1 KA ks.length c2 TA ts.length c3) 35)).alloc (.cells zDk 35)).heap[w.heap.size + 1]? = some (.cells zDk 35 (0, 0)) := (by repeat (first | assumption | exact heap_alloc_at _ (by first | rfl | (simp; done) | omega) | refine heap_alloc_of _ ?_ | refine heap_setCell_of _ (by first | omega | (simp; done) | (simp; omega)) ?_ | refine heap_setCell_same _ ?_ | exact heap_at1_same (by first | omega | (simp; done) | (simp; omega)) | refine heap_at1_of (by first | omega | (simp; done) | (simp; omega)) ?_))
  have cC := copyDisk_any r f n FA es c1 KA ks c2 TA ts c3 _ (hr.below hb0) hg
  have cO := fun W (hW : Below w.heap.size w W) => okImpl_any r f n FA es es c1 KA ks c2 TA ts c3 W (hr.below hW) (Lib.hid rfl) hg
  have cP := fun W A a1 f2 K a2 T a3 (h : Dr W A f2 K ks T ts) (h2 : Hid (f2.map fc = es.map fc)) => okImpl_any room fuse n A es f2 a1 K ks a2 T ts a3 W h h2 hg
  obtain ⟨R, hR⟩ : ∃ R, Hid (setV room fuse r f n (es.map fc) (ftot es) ks ts = R) := ⟨_, Lib.hid rfl⟩
  have hcs : (dkB r f n (es.map fc) (ftot es) ks ts = false ∧ R = DV.no) ∨ (dkB r f n (es.map fc) (ftot es) ks ts = true ∧ dkB room fuse n (es.map fc) (ftot es) ks ts = false ∧ R = DV.no) ∨ (dkB r f n (es.map fc) (ftot es) ks ts = true ∧ dkB room fuse n (es.map fc) (ftot es) ks ts = true ∧ R = ⟨room, fuse, n, es.map fc, ks, ts, true⟩) := by
    rw [← hR.out, setV]
    cases dkB r f n (es.map fc) (ftot es) ks ts <;> cases dkB room fuse n (es.map fc) (ftot es) ks ts <;> simp
  rw [hR.out]
  clear hR
  go_enter Tryz.func16, Tryz.ntmps16
  go_wp2_with fail
  refine cC.mono ?_
  intro e w3 hC
  obtain ⟨A3, d1, fs3, K3, d2, T3, d3, he, hd3, ho3, hb3⟩ := hC
  subst he
  have t3 := hb0.trans (hb3.mono hb0.size)
  have z3 := t3.size
  have s3 : w.heap.size + 2 ≤ w3.heap.size := by have := hb3.size; simpa using this
  obtain ⟨B3, y3, f3, zz3⟩ := keep_blk (cs := (dkC r f n FA es.length c1 KA ks.length c2 TA ts.length c3)) hb3 (g := w.heap.size) B0
  obtain ⟨Z3, yz3, fz3, zzz3⟩ := keep_blk (cs := zDk) hb3 (g := w.heap.size + 1) Z0
  have t4 : Below w.heap.size w (w3.alloc (.cells (dkC room fuse n A3 es.length d1 K3 ks.length d2 T3 ts.length d3) 35)) := t3.alloc z3 _
  have b4 : Below w3.heap.size w3 (w3.alloc (.cells (dkC room fuse n A3 es.length d1 K3 ks.length d2 T3 ts.length d3) 35)) := (Below.refl _ _).alloc (Nat.le_refl _) _
  have B4 : (w3.alloc (.cells (dkC room fuse n A3 es.length d1 K3 ks.length d2 T3 ts.length d3) 35)).heap[w3.heap.size]? = some (.cells (dkC room fuse n A3 es.length d1 K3 ks.length d2 T3 ts.length d3) 35 (0, 0)) := heap_alloc_new _ _
  have Z4 := heap_alloc_of (.cells (dkC room fuse n A3 es.length d1 K3 ks.length d2 T3 ts.length d3) 35) Z3
  have cO4 := cO _ t4
  rcases hcs with ⟨h1, rfl⟩ | ⟨h1, h2, rfl⟩ | ⟨h1, h2, rfl⟩
  · rw [h1] at cO4
    clear h1 cO cP
    go_wp2_with fail
    refine cO4.mono ?_
    rintro e w5 ⟨rfl, hb5⟩
    have t5 := t4.trans (hb5.mono t4.size)
    obtain ⟨Z5, yz5, fz5, zz5⟩ := keep_blk (cs := zDk) hb5 (g := w.heap.size + 1) Z4
    clear cO4 y3 f3 yz3 fz3
    go_wp2_with fail
    refine bodyPost_ret (v := .tuple #[dkV 0 0 0 none 0 0 none 0 0 none 0 0, .bool false]) (by simp [results, Tryz.results16, go_sem, *]) rfl ?_
    exact DOPost.no ((((((t5.setCell (by first | omega | (simp; done) | (simp; omega)) _).setCell (by first | omega | (simp; done) | (simp; omega)) _).setCell (by first | omega | (simp; done) | (simp; omega)) _).setCell (by first | omega | (simp; done) | (simp; omega)) _).setCell (by first | omega | (simp; done) | (simp; omega)) _).setCell (by first | omega | (simp; done) | (simp; omega)) _)
  · rw [h1] at cO4
    clear h1 cO
    go_wp2_with fail
    refine cO4.mono ?_
    rintro e w5 ⟨rfl, hb5⟩
    have t5 := t4.trans (hb5.mono t4.size)
    obtain ⟨Z5, yz5, fz5, zz5⟩ := keep_blk (cs := zDk) hb5 (g := w.heap.size + 1) Z4
    obtain ⟨C5, yc5, fc5, zc5⟩ := keep_blk (cs := dkC room fuse n A3 es.length d1 K3 ks.length d2 T3 ts.length d3) hb5 (g := w3.heap.size) B4
    have cP5 := cP w5 A3 d1 fs3 K3 d2 T3 d3 (Dr.below ho3.rd (b4.trans (hb5.mono b4.size))) hd3
    rw [h2] at cP5
    clear cO4 y3 f3 yz3 fz3 h2 cP
    go_wp2_with fail
    refine cP5.mono ?_
    rintro e w6 ⟨rfl, hb6⟩
    have t6 := t5.trans (hb6.mono t5.size)
    obtain ⟨Z6, yz6, fz6, zz6⟩ := keep_blk (cs := zDk) hb6 (g := w.heap.size + 1) Z5
    clear cP5 yz5 fz5 yc5 fc5
    go_wp2_with fail
    refine bodyPost_ret (v := .tuple #[dkV 0 0 0 none 0 0 none 0 0 none 0 0, .bool false]) (by simp [results, Tryz.results16, go_sem, *]) rfl ?_
    exact DOPost.no ((((((t6.setCell (by first | omega | (simp; done) | (simp; omega)) _).setCell (by first | omega | (simp; done) | (simp; omega)) _).setCell (by first | omega | (simp; done) | (simp; omega)) _).setCell (by first | omega | (simp; done) | (simp; omega)) _).setCell (by first | omega | (simp; done) | (simp; omega)) _).setCell (by first | omega | (simp; done) | (simp; omega)) _)
  · rw [h1] at cO4
    clear h1 cO
    go_wp2_with fail
    refine cO4.mono ?_
    rintro e w5 ⟨rfl, hb5⟩
    have t5 := t4.trans (hb5.mono t4.size)
    obtain ⟨Z5, yz5, fz5, zz5⟩ := keep_blk (cs := zDk) hb5 (g := w.heap.size + 1) Z4
    obtain ⟨C5, yc5, fc5, zc5⟩ := keep_blk (cs := dkC room fuse n A3 es.length d1 K3 ks.length d2 T3 ts.length d3) hb5 (g := w3.heap.size) B4
    have b5 := b4.trans (hb5.mono b4.size)
    have cP5 := cP w5 A3 d1 fs3 K3 d2 T3 d3 (Dr.below ho3.rd b5) hd3
    rw [h2] at cP5
    clear cO4 y3 f3 yz3 fz3 h2 cP
    go_wp2_with fail
    refine cP5.mono ?_
    rintro e w6 ⟨rfl, hb6⟩
    have t6 := t5.trans (hb6.mono t5.size)
    have b6 := b5.trans (hb6.mono b5.size)
    obtain ⟨Z6, yz6, fz6, zz6⟩ := keep_blk (cs := zDk) hb6 (g := w.heap.size + 1) Z5
    obtain ⟨C6, yc6, fc6, zc6⟩ := keep_blk (cs := dkC room fuse n A3 es.length d1 K3 ks.length d2 T3 ts.length d3) hb6 (g := w3.heap.size) C5
    clear cP5 yz5 fz5 yc5 fc5
    go_wp2_with fail
    refine bodyPost_ret (v := .tuple #[dkV room fuse n A3 es.length d1 K3 ks.length d2 T3 ts.length d3, .bool true]) (by simp [results, Tryz.results16, go_sem, *]) rfl ?_
    have hD : DkG w6 (w.heap.size + 2) w6.heap.size A3 d1 fs3 K3 d2 ks T3 d3 ts := by
      have h := ho3.below b6 (Nat.le_refl _)
      obtain ⟨m, m', g1, g2, g3, g4⟩ := h
      have := b6.size
      exact ⟨m, m', g1.lower (by simp), g2, by omega, g4.1, g4.2.1, g4.2.2.1, fun ad h => by have := g4.2.2.2 ad h; omega⟩
    have hl : (es.map fc).length = es.length := List.length_map ..
    refine ⟨A3, d1, fs3, K3, d2, T3, d3, by rw [hl], hd3, ?_, ((((((t6.setCell (by first | omega | (simp; done) | (simp; omega)) _).setCell (by first | omega | (simp; done) | (simp; omega)) _).setCell (by first | omega | (simp; done) | (simp; omega)) _).setCell (by first | omega | (simp; done) | (simp; omega)) _).setCell (by first | omega | (simp; done) | (simp; omega)) _).setCell (by first | omega | (simp; done) | (simp; omega)) _)⟩
    refine DkG.lower (lo := w.heap.size + 2) ?_ (by omega)
    iterate 6 refine DkG.setCell ?_ (by simp; try omega)
    exact hD
theorem diskSet_impl (room fuse r f n : Int) (FA : Option Addr) (es fs : List Fl) (c1 : Nat) (KA : Option Addr) (ks : List Lk) (c2 : Nat) (TA : Option Addr) (ts : List Tn) (c3 : Nat) (w : World) (hr : Dr w FA fs KA ks TA ts) (hd : Hid (fs.map fc = es.map fc)) (hg : Good es ks ts) :
    Calls Tryz.prog 16 #[dkV r f n FA es.length c1 KA ks.length c2 TA ts.length c3, .int .i64 room, .int .i64 fuse] w (DOPost w (setV room fuse r f n (es.map fc) (ftot es) ks ts)) := by
  have := diskSet_impl0 room fuse r f n FA fs c1 KA ks c2 TA ts c3 w hr (hg.copy hd.out)
  rwa [fc_len hd.out, hd.out, fc_tot hd.out] at this
end Go.Proofs.YtljpeiflnimblaaGreat
