/- An operation of kind 3 on a disk. -/
import Derived.Test.YtndmdhmghjfckaaDa
namespace Go.Proofs.Ytndmdhmghjfckaa
open Go.RowKit
set_option linter.unusedVariables false
set_option maxRecDepth 100000

set_option maxHeartbeats 20000000 in
theorem diskDo_3 (r f n : Int) (FA : Option Addr) (es : List Fl) (c1 : Nat) (KA : Option Addr) (ks : List Lk) (c2 : Nat) (TA : Option Addr) (ts : List Tn) (c3 : Nat) (s t : ByteArray) (DA : Option Addr) (xs : List UInt8) (dc : Nat) (w : World) (hr : Dr w FA es KA ks TA ts) (hvd : Vd r f n (es.map fc) ks ts) (hop : opB 3 s t xs.length = true) (hD : By w DA xs) (hdc : xs.length ≤ dc) :
    Calls Try.prog 21 #[dkV r f n FA es.length c1 KA ks.length c2 TA ts.length c3, opV 3 s t DA xs.length dc] w (DdPost w) := by
  have hg := hvd.good
  have hv : dkB r f n (es.map fc) (ftot es) ks ts = true := by rw [ftot_cu]; exact vd_iff.2 hvd
  obtain ⟨os, ot, om, on', o4', o5', o2'⟩ := op_parts hop
  have on := Lib.hid on'
  have o4 := Lib.hid o4'
  have o5 := Lib.hid o5'
  have o2 := Lib.hid o2'
  clear on' o4' o5' o2'
  have hb0 : Below w.heap.size w (((w.alloc (.cells (dkC r f n FA es.length c1 KA ks.length c2 TA ts.length c3) 27)).alloc (.cells (opC 3 s t DA xs.length dc) 57)).alloc (.cells zDk 27)) := by (repeat (first | exact Below.refl _ _ | (refine Below.alloc ?_ (by first | omega | (simp; done) | (simp; omega)) _) | (refine Below.drew ?_) | (refine below_drewN ?_ _) | (refine below_at1 ?_ (by first | omega | (simp; done) | (simp; omega))) | (refine Below.setCell ?_ (by first | omega | (simp; done) | (simp; omega)) _) | (refine Below.trans ?_ (Below.mono (by assumption) (by first | omega | (simp; done) | (simp; omega))))))
  have B0 : (((w.alloc (.cells (dkC r f n FA es.length c1 KA ks.length c2 TA ts.length c3) 27)).alloc (.cells (opC 3 s t DA xs.length dc) 57)).alloc (.cells zDk 27)).heap[w.heap.size]? = some (.cells (dkC r f n FA es.length c1 KA ks.length c2 TA ts.length c3) 27 (0, 0)) := (by repeat (first | assumption | exact heap_alloc_at _ (by first | rfl | (simp; done) | omega) | refine heap_alloc_of _ ?_ | refine heap_setCell_of _ (by first | omega | (simp; done) | (simp; omega)) ?_ | refine heap_setCell_same _ ?_ | exact heap_at1_same (by first | omega | (simp; done) | (simp; omega)) | refine heap_at1_of (by first | omega | (simp; done) | (simp; omega)) ?_))
  have P0 : (((w.alloc (.cells (dkC r f n FA es.length c1 KA ks.length c2 TA ts.length c3) 27)).alloc (.cells (opC 3 s t DA xs.length dc) 57)).alloc (.cells zDk 27)).heap[w.heap.size + 1]? = some (.cells (opC 3 s t DA xs.length dc) 57 (0, 0)) := (by repeat (first | assumption | exact heap_alloc_at _ (by first | rfl | (simp; done) | omega) | refine heap_alloc_of _ ?_ | refine heap_setCell_of _ (by first | omega | (simp; done) | (simp; omega)) ?_ | refine heap_setCell_same _ ?_ | exact heap_at1_same (by first | omega | (simp; done) | (simp; omega)) | refine heap_at1_of (by first | omega | (simp; done) | (simp; omega)) ?_))
  have Z0 : (((w.alloc (.cells (dkC r f n FA es.length c1 KA ks.length c2 TA ts.length c3) 27)).alloc (.cells (opC 3 s t DA xs.length dc) 57)).alloc (.cells zDk 27)).heap[w.heap.size + 2]? = some (.cells zDk 27 (0, 0)) := (by repeat (first | assumption | exact heap_alloc_at _ (by first | rfl | (simp; done) | omega) | refine heap_alloc_of _ ?_ | refine heap_setCell_of _ (by first | omega | (simp; done) | (simp; omega)) ?_ | refine heap_setCell_same _ ?_ | exact heap_at1_same (by first | omega | (simp; done) | (simp; omega)) | refine heap_at1_of (by first | omega | (simp; done) | (simp; omega)) ?_))
  have s0 : (((w.alloc (.cells (dkC r f n FA es.length c1 KA ks.length c2 TA ts.length c3) 27)).alloc (.cells (opC 3 s t DA xs.length dc) 57)).alloc (.cells zDk 27)).heap.size = w.heap.size + 3 := by simp
  have cO := okSpec_any r f n FA es es c1 KA ks c2 TA ts c3 (((w.alloc (.cells (dkC r f n FA es.length c1 KA ks.length c2 TA ts.length c3) 27)).alloc (.cells (opC 3 s t DA xs.length dc) 57)).alloc (.cells zDk 27)) (hr.below hb0) (Lib.hid rfl) hg
  rw [hv] at cO
  have cP := fun W => diskOpOk_spec 3 s t DA xs.length dc W os ot (by omega)
  rw [hop] at cP
  go_enter Try.func21, Try.ntmps21
  go_wp2_with fail
  refine cO.mono ?_
  rintro e w1 ⟨rfl, hb1⟩
  have z1 := hb1.size
  have t1 := hb0.trans (hb1.mono hb0.size)
  have B1 := (hb1.block w.heap.size (by omega)).trans B0
  have P1 := (hb1.block (w.heap.size + 1) (by omega)).trans P0
  have Z1 := (hb1.block (w.heap.size + 2) (by omega)).trans Z0
  have p1 : ∀ i, w1.cell? ⟨w.heap.size + 1, i, none⟩ = _ := fun i => cell_of_row _ _ i _ _ (0, 0) P1
  have p10 := p1 0
  have p11 := p1 1
  have p12 := p1 2
  have p13 := p1 3
  clear p1
  clear cO B0 P0 Z0 hb1
  go_wp2_with fail
  refine (cP _).mono ?_
  rintro e w2 ⟨rfl, hb2⟩
  have z2 := hb2.size
  have t2 := t1.trans (hb2.mono t1.size)
  have B2 := (hb2.block w.heap.size (by omega)).trans B1
  have P2 := (hb2.block (w.heap.size + 1) (by omega)).trans P1
  have Z2 := (hb2.block (w.heap.size + 2) (by omega)).trans Z1
  have q2 : ∀ i, w2.cell? ⟨w.heap.size, i, none⟩ = _ := fun i => cell_of_row _ _ i _ _ (0, 0) B2
  have q20 := q2 0
  have q21 := q2 1
  have q22 := q2 2
  have q23 := q2 3
  have q24 := q2 4
  have q25 := q2 5
  clear q2
  clear p10 p11 p12 p13 B1 P1 Z1 hb2 cP
  go_wp2_with fail
  refine (l02Copy_any r f n FA es c1 KA ks c2 TA ts c3 w2 (hr.below t2) hg).mono ?_
  rintro e w3 ⟨A3, d1, fs, K3, d2, T3, d3, rfl, hd3, ho3, hb3⟩
  have z3 := hb3.size
  have t3 := t2.trans (hb3.mono t2.size)
  have HEL : Hid (es.length = fs.length) := (fc_len hd3.out).symm
  have hvf : Vd r f n (fs.map fc) ks ts := by rw [hd3.out]; exact hvd
  have B3 := (hb3.block w.heap.size (by omega)).trans B2
  have P3 := (hb3.block (w.heap.size + 1) (by omega)).trans P2
  have Z3 := (hb3.block (w.heap.size + 2) (by omega)).trans Z2
  have B4 := heap_alloc_of (.cells (dkC r f n A3 es.length d1 K3 ks.length d2 T3 ts.length d3) 27) B3
  have P4 := heap_alloc_of (.cells (dkC r f n A3 es.length d1 K3 ks.length d2 T3 ts.length d3) 27) P3
  have Z4 := heap_alloc_of (.cells (dkC r f n A3 es.length d1 K3 ks.length d2 T3 ts.length d3) 27) Z3
  have O4 : (w3.alloc (.cells (dkC r f n A3 es.length d1 K3 ks.length d2 T3 ts.length d3) 27)).heap[w3.heap.size]? = some (.cells (dkC r f n A3 es.length d1 K3 ks.length d2 T3 ts.length d3) 27 (0, 0)) := heap_alloc_new _ _
  have b4 : Below w3.heap.size w3 (w3.alloc (.cells (dkC r f n A3 es.length d1 K3 ks.length d2 T3 ts.length d3) 27)) := (Below.refl _ _).alloc (Nat.le_refl _) _
  have t4 := t3.trans (b4.mono t3.size)
  have s4 : (w3.alloc (.cells (dkC r f n A3 es.length d1 K3 ks.length d2 T3 ts.length d3) 27)).heap.size = w3.heap.size + 1 := by simp
  have cC := l02Code_3 r f n FA es c1 KA ks c2 TA ts c3 s t DA xs.length dc _ (hr.below t4) hv hg
  have g30 : w.heap.size < w3.heap.size := by omega
  have g31 : w.heap.size + 1 < w3.heap.size := by omega
  have q3 : ∀ i, w3.cell? ⟨w.heap.size, i, none⟩ = _ := fun i => cell_of_row _ _ i _ _ (0, 0) B3
  have q30 := q3 0
  have q31 := q3 1
  have q32 := q3 2
  have q33 := q3 3
  have q34 := q3 4
  have q35 := q3 5
  clear q3
  have p3 : ∀ i, w3.cell? ⟨w.heap.size + 1, i, none⟩ = _ := fun i => cell_of_row _ _ i _ _ (0, 0) P3
  have p30 := p3 0
  have p31 := p3 1
  have p32 := p3 2
  have p33 := p3 3
  clear p3
  clear q20 q21 q22 q23 q24 q25 B2 P2 Z2 B3 P3 Z3 hb3
  go_wp2_with fail
  refine cC.mono ?_
  rintro e w5 ⟨z, rfl, hz', hb5⟩
  have hz := Lib.hid hz'
  clear hz'
  have z5 := hb5.size
  have t5 := t4.trans (hb5.mono t4.size)
  have b35 := b4.trans (hb5.mono b4.size)
  have B5 := (hb5.block w.heap.size (by omega)).trans B4
  have P5 := (hb5.block (w.heap.size + 1) (by omega)).trans P4
  have Z5 := (hb5.block (w.heap.size + 2) (by omega)).trans Z4
  have O5 := (hb5.block w3.heap.size (by omega)).trans O4
  have zz5 : w3.heap.size < w5.heap.size := by omega
  have o5x : ∀ i, w5.cell? ⟨w3.heap.size, i, none⟩ = _ := fun i => cell_of_row _ _ i _ _ (0, 0) O5
  have o5x0 := o5x 0
  have o5x1 := o5x 1
  have o5x2 := o5x 2
  have o5x3 := o5x 3
  have o5x4 := o5x 4
  have o5x5 := o5x 5
  clear o5x
  have fz5 : ∀ i, w5.frozen? ⟨w.heap.size + 2, i, none⟩ = false := fun i => by simp [World.frozen?, Z5]
  have y5x : ∀ i, w5.cell? ⟨w.heap.size + 2, i, none⟩ = _ := fun i => cell_of_row _ _ i _ _ (0, 0) Z5
  have y5x0 := y5x 0
  have y5x1 := y5x 1
  have y5x2 := y5x 2
  have y5x3 := y5x 3
  have y5x4 := y5x 4
  have y5x5 := y5x 5
  clear y5x
  have dk5 : DkG w5 w2.heap.size w3.heap.size A3 d1 fs K3 d2 ks T3 d3 ts := ho3.below b35 (Nat.le_refl _)
  clear cC q30 q31 q32 q33 q34 q35 p30 p31 p32 p33 B4 P4 Z4 O4 hb5 t1 t2 t3 t4 b4
  by_cases hz0 : z = 0
  case neg =>
    have e0 : (z == 0) = false := by rw [beq_eq_false_iff_ne]; exact hz0
    clear hz hz0 hD hr
    go_wp2_with fail
    refine bodyPost_ret (v := .tuple #[dkV r f n A3 es.length d1 K3 ks.length d2 T3 ts.length d3, .int .i64 z]) (by simp [results, Try.results21, go_sem, *]) rfl ?_
    refine DdPost.pk (lo := w2.heap.size) (H := w3.heap.size) (J := w3.heap.size) HEL.out hvf ?_ (by omega) ((((((t5.setCell (by first | omega | (simp; done) | (simp; omega)) _).setCell (by first | omega | (simp; done) | (simp; omega)) _).setCell (by first | omega | (simp; done) | (simp; omega)) _).setCell (by first | omega | (simp; done) | (simp; omega)) _).setCell (by first | omega | (simp; done) | (simp; omega)) _).setCell (by first | omega | (simp; done) | (simp; omega)) _)
    iterate 6 refine Pk.set ?_ _ (.inr (.inr (by show w.heap.size + 2 < w2.heap.size; omega)))
    exact Pk.of_dkg dk5 (Nat.le_refl _) (Nat.le_refl _)
  case pos =>
    subst hz0
    obtain ⟨cf, cno', cyes', cfl', cnx', ctl', cne'⟩ := hz.out rfl
    have cno := Lib.hid cno'
    have cyes := Lib.hid cyes'
    have cfl := Lib.hid cfl'
    have cnx := Lib.hid cnx'
    have ctl := Lib.hid ctl'
    have cne := Lib.hid cne'
    clear cno' cyes' cfl' cnx' ctl' cne'
    have hff := hvd.hf
    have hnn := hvd.hn
    have hrr := hvd.hr
    clear hz y5x0 y5x1 y5x2 y5x3 y5x4 y5x5 fz5
    by_cases hfp : 0 < f
    case pos =>
      have ew : ∀ [Inhabited Nat], wrap64 (f - 1) = f - 1 := by intro _; unfold wrap64; omega
      have fz1 : w5.frozen? ⟨w3.heap.size, 1, none⟩ = false := by simp [World.frozen?, O5]
      go_wp2_with fail
      have O6 : (w5.setCell ⟨w3.heap.size, 1, none⟩ (.int .i64 (f - 1))).heap[w3.heap.size]? = some (.cells (dkC r (f - 1) n A3 es.length d1 K3 ks.length d2 T3 ts.length d3) 27 (0, 0)) := heap_setCell_same _ O5
      have B6 : (w5.setCell ⟨w3.heap.size, 1, none⟩ (.int .i64 (f - 1))).heap[w.heap.size]? = some (.cells (dkC r f n FA es.length c1 KA ks.length c2 TA ts.length c3) 27 (0, 0)) := heap_setCell_of _ (by first | omega | (simp; done) | (simp; omega)) B5
      have P6 : (w5.setCell ⟨w3.heap.size, 1, none⟩ (.int .i64 (f - 1))).heap[w.heap.size + 1]? = some (.cells (opC 3 s t DA xs.length dc) 57 (0, 0)) := heap_setCell_of _ (by first | omega | (simp; done) | (simp; omega)) P5
      have Z6 : (w5.setCell ⟨w3.heap.size, 1, none⟩ (.int .i64 (f - 1))).heap[w.heap.size + 2]? = some (.cells zDk 27 (0, 0)) := heap_setCell_of _ (by first | omega | (simp; done) | (simp; omega)) Z5
      have t6 : Below w.heap.size w (w5.setCell ⟨w3.heap.size, 1, none⟩ (.int .i64 (f - 1))) := t5.setCell (by first | omega | (simp; done) | (simp; omega)) _
      have zz6 : w3.heap.size < (w5.setCell ⟨w3.heap.size, 1, none⟩ (.int .i64 (f - 1))).heap.size := by simpa using zz5
      have dk6 : DkG (w5.setCell ⟨w3.heap.size, 1, none⟩ (.int .i64 (f - 1))) w2.heap.size w3.heap.size A3 d1 fs K3 d2 ks T3 d3 ts := dk5.keep fun g _ h2 => Below.heap_setCell _ _ _ _ (by show g ≠ w3.heap.size; omega)
      have hvF : Vd r (f - 1) n (fs.map fc) ks ts := hvf.fuse (by omega)
      clear ew fz1
      generalize w5.setCell ⟨w3.heap.size, 1, none⟩ (.int .i64 (f - 1)) = w6 at O6 B6 P6 Z6 t6 zz6 dk6 ⊢
      clear o5x0 o5x1 o5x2 o5x3 o5x4 o5x5
      have b6d : Below w6.heap.size w6 w6.drew := (Below.refl _ _).drew
      refine wp_region_held_drew (S := fun w' => w'.heap[w.heap.size]? = some (.cells (dkC r f n FA es.length c1 KA ks.length c2 TA ts.length c3) 27 (0, 0)) ∧ w'.heap[w.heap.size + 1]? = some (.cells (opC 3 s t DA xs.length dc) 57 (0, 0))) (by kernel_rfl) (⟨B6, P6⟩) (fun _ => ?_)
      refine wpAnyH_take (i := 0) (v := dkV r f n FA es.length c1 KA ks.length c2 TA ts.length c3) rfl (by kernel_rfl) (by kernel_rfl) (by kernel_rfl) (fun _ _ _ h => h) (Or.inl ⟨by rfl, (by intro w' hS; have q := fun i => cell_of_row w' _ i _ _ (0, 0) hS.1; go_simp; try first | rfl | (simp [*, Addr.add_lit]; done))⟩) (⟨B6, P6⟩) ?_
      try simp only [Act.put, List.getElem_toArray, List.getElem_cons_zero, List.setIfInBounds_toArray, List.set_cons_zero, List.set_cons_succ]
      refine wpAnyH_take (i := 1) (v := dkV r f n FA es.length c1 KA ks.length c2 TA ts.length c3) rfl (by kernel_rfl) (by kernel_rfl) (by kernel_rfl) (fun _ _ _ h => h) (Or.inl ⟨by rfl, (by intro w' hS; have q := fun i => cell_of_row w' _ i _ _ (0, 0) hS.1; go_simp; try first | rfl | (simp [*, Addr.add_lit]; done))⟩) (⟨B6, P6⟩) ?_
      try simp only [Act.put, List.getElem_toArray, List.getElem_cons_succ, List.getElem_cons_zero, List.setIfInBounds_toArray, List.set_cons_zero, List.set_cons_succ]
      refine wpAnyH_take (i := 3) (v := .pointer (some ⟨w.heap.size + 1, 1, none⟩)) rfl (by kernel_rfl) (by kernel_rfl) (by kernel_rfl) (fun _ _ _ h => h) (Or.inl ⟨by rfl, (by intro w' hS; skip; go_simp; try first | rfl | (simp [*, Addr.add_lit]; done))⟩) (⟨B6, P6⟩) ?_
      try simp only [Act.put, List.getElem_toArray, List.getElem_cons_succ, List.getElem_cons_zero, List.setIfInBounds_toArray, List.set_cons_zero, List.set_cons_succ]
      refine wpAnyH_take (i := 4) (v := .string s) rfl (by kernel_rfl) (by kernel_rfl) (by kernel_rfl) (fun _ _ _ h => h) (Or.inl ⟨by rfl, (by intro w' hS; have q := fun i => cell_of_row w' _ i _ _ (0, 0) hS.2; go_simp; try first | rfl | (simp [*, Addr.add_lit]; done))⟩) (⟨B6, P6⟩) ?_
      try simp only [Act.put, List.getElem_toArray, List.getElem_cons_succ, List.getElem_cons_zero, List.setIfInBounds_toArray, List.set_cons_zero, List.set_cons_succ]
      refine wpAnyH_ready (rs := [2]) (by kernel_rfl) (by simp) ?_
      refine AllReadyH.cons rfl (fun K hK => ?_) AllReadyH.nil
      go_simp
      refine (diskDir_spec r f n FA es es c1 KA ks c2 TA ts c3 _ (hr.below (t6.trans (b6d.mono t6.size))) (Lib.hid rfl) hg).mono ?_
      rw [show dirV r f n (es.map fc) (ftot es) ks ts = dirS ks ts from if_pos hv]
      rintro e w7 ⟨A7, d7, rfl, ho7, hb7⟩
      have b7 : Below w6.heap.size w6 w7 := b6d.trans hb7
      have z7 := b7.size
      have hdl := dirS_len ks ts
      have hkl := hvd.kl
      have htl := hvd.tl
      have F7 : w7.heap[w.heap.size]? = some (.cells (dkC r f n FA es.length c1 KA ks.length c2 TA ts.length c3) 27 (0, 0)) ∧ w7.heap[w.heap.size + 1]? = some (.cells (opC 3 s t DA xs.length dc) 57 (0, 0)) := ⟨(b7.block w.heap.size (by omega)).trans B6, (b7.block (w.heap.size + 1) (by omega)).trans P6⟩
      refine hK.out _ _ (F7) (fun _ => ?_)
      clear hK K
      try simp only [Act.put, List.getElem_toArray, List.getElem_cons_succ, List.getElem_cons_zero, List.setIfInBounds_toArray, List.set_cons_zero, List.set_cons_succ]
      refine wpAnyH_ready (rs := [5]) (by kernel_rfl) (by simp) ?_
      refine AllReadyH.cons rfl (fun K hK => ?_) AllReadyH.nil
      go_simp
      refine (find_spec A7 d7 (dirS ks ts) s w7 (ho7.sl lk2) (by omega)).mono ?_
      rintro e w8 ⟨rfl, hb8⟩
      have b8 : Below w6.heap.size w6 w8 := b7.trans (hb8.mono z7)
      have z8 := b8.size
      have F8 : w8.heap[w.heap.size]? = some (.cells (dkC r f n FA es.length c1 KA ks.length c2 TA ts.length c3) 27 (0, 0)) ∧ w8.heap[w.heap.size + 1]? = some (.cells (opC 3 s t DA xs.length dc) 57 (0, 0)) := ⟨(b8.block w.heap.size (by omega)).trans B6, (b8.block (w.heap.size + 1) (by omega)).trans P6⟩
      refine hK.out _ _ (F8) (fun _ => ?_)
      clear hK K
      try simp only [Act.put, List.getElem_toArray, List.getElem_cons_succ, List.getElem_cons_zero, List.setIfInBounds_toArray, List.set_cons_zero, List.set_cons_succ]
      refine wpAnyH_ready (rs := [6]) (by kernel_rfl) (by simp) ?_
      refine AllReadyH.cons rfl (fun K hK => ?_) AllReadyH.nil
      go_simp
      refine (l02At_any r f n FA es c1 KA ks.length c2 TA ts.length c3 (findS (dirS ks ts) s) w8 (hr.below (t6.trans (b8.mono t6.size))).1.1 (by have := hg.el; omega)).mono ?_
      rintro e w9 ⟨he, hb9⟩
      obtain ⟨AT, hAT⟩ : ∃ AT : Int, Hid (ixV (fun x : Fl => x.1 == findS (dirS ks ts) s) es = AT) := ⟨_, Lib.hid rfl⟩
      rw [hAT.out] at he
      subst he
      have b9 : Below w6.heap.size w6 w9 := b8.trans (hb9.mono z8)
      have z9 := b9.size
      have F9 : w9.heap[w.heap.size]? = some (.cells (dkC r f n FA es.length c1 KA ks.length c2 TA ts.length c3) 27 (0, 0)) ∧ w9.heap[w.heap.size + 1]? = some (.cells (opC 3 s t DA xs.length dc) 57 (0, 0)) := ⟨(b9.block w.heap.size (by omega)).trans B6, (b9.block (w.heap.size + 1) (by omega)).trans P6⟩
      refine hK.out _ _ (F9) (fun _ => ?_)
      clear hK K
      try simp only [Act.put, List.getElem_toArray, List.getElem_cons_succ, List.getElem_cons_zero, List.setIfInBounds_toArray, List.set_cons_zero, List.set_cons_succ]
      refine wpAnyH_take (i := 7) (v := .int .i64 AT) rfl (by kernel_rfl) (by kernel_rfl) (by kernel_rfl) (fun _ _ _ h => h) (Or.inl ⟨by rfl, (by intro w' hS; skip; go_simp; try first | rfl | (simp [*, Addr.add_lit]; done))⟩) (F9) ?_
      try simp only [Act.put, List.getElem_toArray, List.getElem_cons_succ, List.getElem_cons_zero, List.setIfInBounds_toArray, List.set_cons_zero, List.set_cons_succ]
      refine wpAnyH_done (by kernel_rfl) ?_ _
      obtain ⟨B9, P9⟩ := F9
      have Z9 := (b9.block (w.heap.size + 2) (by omega)).trans Z6
      have O9 := (b9.block w3.heap.size (by omega)).trans O6
      have t9 := t6.trans (b9.mono t6.size)
      have dk9 : DkG w9 w2.heap.size w3.heap.size A3 d1 fs K3 d2 ks T3 d3 ts := dk6.below b9 (by omega)
      have zz9 : w3.heap.size < w9.heap.size := by omega
      clear F7 F8 hb7 hb8 hb9 b7 b8 b6d ho7 O6 B6 P6 Z6 dk6
      have o9x : ∀ i, w9.cell? ⟨w3.heap.size, i, none⟩ = _ := fun i => cell_of_row _ _ i _ _ (0, 0) O9
      have o9x0 := o9x 0
      have o9x1 := o9x 1
      have o9x2 := o9x 2
      have o9x3 := o9x 3
      have o9x4 := o9x 4
      have o9x5 := o9x 5
      clear o9x
      have p9x : ∀ i, w9.cell? ⟨w.heap.size + 1, i, none⟩ = _ := fun i => cell_of_row _ _ i _ _ (0, 0) P9
      have p9x0 := p9x 0
      have p9x1 := p9x 1
      have p9x2 := p9x 2
      have p9x3 := p9x 3
      clear p9x
      have q9x : ∀ i, w9.cell? ⟨w.heap.size, i, none⟩ = _ := fun i => cell_of_row _ _ i _ _ (0, 0) B9
      have q9x0 := q9x 0
      have q9x1 := q9x 1
      have q9x2 := q9x 2
      have q9x3 := q9x 3
      have q9x4 := q9x 4
      have q9x5 := q9x 5
      clear q9x
      have fo9 : ∀ i, w9.frozen? ⟨w3.heap.size, i, none⟩ = false := fun i => by simp [World.frozen?, O9]
      have fz9 : ∀ i, w9.frozen? ⟨w.heap.size + 2, i, none⟩ = false := fun i => by simp [World.frozen?, Z9]
      have hcas : ∃ (j : Nat) (x : Fl) (g o : Nat), Hid (AT = (j : Int)) ∧ j < fs.length ∧ Hid (fs[j]? = some x) ∧ A3 = some ⟨g, o, none⟩ ∧ x ∈ fs := by
        have h0 := cyes.out (by decide) (by decide)
        rcases read_cases hv s with ⟨h1, _⟩ | ⟨j, hj, _, h2, _⟩
        · omega
        · have hj2 : j < fs.length := by have := HEL.out; omega
          obtain ⟨g, o, hA, _⟩ := SlL.get (dk9.rd.1.1) hj2 (by simp)
          exact ⟨j, fs[j], g, o, Lib.hid (by rw [← hAT.out]; exact h2), hj2, Lib.hid (List.getElem?_eq_getElem hj2), hA, List.getElem_mem hj2⟩
      obtain ⟨j, x, g, o, hj0, hj, hx, rfl, hxm⟩ := hcas
      rw [hj0.out]
      have ho0 : Hid (o = 0) := by
        obtain ⟨g', hg', _⟩ := (dk9.choose_f).fillC fl3 (by omega)
        injection hg' with hg'
        injection hg' with _ h2 _
        all_goals (first | exact Lib.hid h2 | exact Lib.hid rfl | rfl)
      have hgb : g < w3.heap.size := dk9.f_lt
      have hgl : w2.heap.size ≤ g := dk9.f_le
      obtain ⟨id, ⟨bA, bc, bs⟩, sf⟩ := x
      have hfc : w9.cell? ⟨g, o + j * 3, none⟩ = some (.int .i64 id) ∧ w9.cell? ⟨g, o + j * 3 + 1, none⟩ = some (.slice bA bs.length bc) ∧ w9.cell? ⟨g, o + j * 3 + 2, none⟩ = some (.int .i64 sf) := by
        have h0 := ho0.out
        subst h0
        simp only [Nat.zero_add]
        exact fs_cells dk9.rd.1.1 hx.out
      have hfr : ∀ i, i < 3 → w9.frozen? ⟨g, o + j * 3 + i, none⟩ = false := fun i hi => by
        have h0 := ho0.out
        subst h0
        simp only [Nat.zero_add]
        exact Oe.f_frozen dk9.choose_f _ (by omega)
      have frg0 : w9.frozen? ⟨g, o + j * 3, none⟩ = false := hfr 0 (by omega)
      have frg1 := hfr 1 (by omega)
      have frg2 := hfr 2 (by omega)
      clear hfr
      obtain ⟨x0, x1, x2⟩ := hfc
      have hlt' : (j : Int) < es.length := by have := HEL.out; omega
      have hj0' : (0 : Int) ≤ (j : Int) := Int.natCast_nonneg j
      have hvN : Vd r (f - 1) n ((fs.set j (id, (bA, bc, bs), (bs.length : Int))).map fc) ks ts := vd_set hvF hx.out rfl (by show (0 : Int) ≤ bs.length ∧ (bs.length : Int) ≤ bs.length; omega) (by show ((bs.length : Nat) : Int) - (bs.length : Nat) + _ ≤ r; have := hvF.hu; omega)
      have hgz : g < w9.heap.size := by omega
      have g30' : w3.heap.size < w9.heap.size := zz9
      have HLEN : Hid (es.length = (fs.set j (id, (bA, bc, bs), (bs.length : Int))).length) := by show _ = _; rw [List.length_set]; exact HEL.out
      clear hD hr cno cyes cfl cnx ctl cne hvd hvF hvf hj0 hAT fo9 fz9
      go_wp2_with (first | (refine at_pos (p := "l02_disk.go:285") rfl ?_; first | (refine wp_ldD rfl _ rfl w3.heap.size rfl r (f - 1) n (some ⟨g, o, none⟩) es.length d1 K3 ks.length d2 T3 ts.length d3 (heap_alloc_of _ (heap_setCell_of _ (by first | omega | (simp; done) | (simp; omega)) (heap_setCell_of _ (by first | omega | (simp; done) | (simp; omega)) (heap_setCell_of _ (by first | omega | (simp; done) | (simp; omega)) O9)))) ?_) | (refine wp_stD rfl _ _ rfl (w.heap.size + 2) rfl r (f - 1) n (some ⟨g, o, none⟩) es.length d1 K3 ks.length d2 T3 ts.length d3 rfl zDk (heap_alloc_of _ (heap_setCell_of _ (by first | omega | (simp; done) | (simp; omega)) (heap_setCell_of _ (by first | omega | (simp; done) | (simp; omega)) (heap_setCell_of _ (by first | omega | (simp; done) | (simp; omega)) Z9)))) rfl ?_; intro wE ZE kE sE bE)))
      refine bodyPost_ret (results_rowD Try.results21 _ _ (w.heap.size + 2) _ rfl ZE rfl) rfl ?_
      have pk9 : Pk w9 w2.heap.size w3.heap.size w3.heap.size (some ⟨g, o, none⟩) d1 fs K3 d2 ks T3 d3 ts := Pk.of_dkg dk9 (Nat.le_refl _) (Nat.le_refl _)
      have pkN : Pk ((((w9.setCell ⟨g, o + j * 3, none⟩ (.int .i64 id)).setCell ⟨g, o + j * 3 + 1, none⟩ (.slice bA bs.length bc)).setCell ⟨g, o + j * 3 + 2, none⟩ (.int .i64 bs.length)).alloc (.cells #[.int .i64 id, .slice bA bs.length bc, .int .i64 bs.length] 36)) w2.heap.size w3.heap.size w3.heap.size (some ⟨g, o, none⟩) d1 (fs.set j (id, (bA, bc, bs), (bs.length : Int))) K3 d2 ks T3 d3 ts := by
        have h0 := ho0.out
        subst h0
        simp only [Nat.zero_add]
        exact Pk.alloc (pk9.setF (i := id) (s := (bs.length : Int)) hj hx.out (pk9.b _ hxm) (fun _ _ _ => rfl) (fun ad ha => .inl ⟨ad, ha, rfl⟩) (by omega) (by omega)) _
      have tN : Below w.heap.size w ((((w9.setCell ⟨g, o + j * 3, none⟩ (.int .i64 id)).setCell ⟨g, o + j * 3 + 1, none⟩ (.slice bA bs.length bc)).setCell ⟨g, o + j * 3 + 2, none⟩ (.int .i64 bs.length)).alloc (.cells #[.int .i64 id, .slice bA bs.length bc, .int .i64 bs.length] 36)) := (((t9.setCell (by first | omega | (simp; done) | (simp; omega)) _).setCell (by first | omega | (simp; done) | (simp; omega)) _).setCell (by first | omega | (simp; done) | (simp; omega)) _).alloc (((t9.setCell (p := ⟨g, o + j * 3, none⟩) (by first | omega | (simp; done) | (simp; omega)) (.int .i64 id)).setCell (p := ⟨g, o + j * 3 + 1, none⟩) (by first | omega | (simp; done) | (simp; omega)) (.slice bA bs.length bc)).setCell (p := ⟨g, o + j * 3 + 2, none⟩) (by first | omega | (simp; done) | (simp; omega)) (.int .i64 bs.length)).size _
      refine DdPost.pk (lo := w2.heap.size) (H := w3.heap.size) (J := w3.heap.size) HLEN.out hvN ?_ (by omega) (bE _ _ tN (Nat.le_refl _) (by omega))
      exact (pkN).others kE (.inr (.inr (by omega)))
    case neg =>
      go_wp2_with fail
      have O6 := O5
      have B6 := B5
      have P6 := P5
      have Z6 := Z5
      have t6 := t5
      have zz6 := zz5
      have dk6 := dk5
      have hvF := hvf
      clear dk5
      generalize w5 = w6 at O6 B6 P6 Z6 t6 zz6 dk6 ⊢
      have b6d : Below w6.heap.size w6 w6.drew := (Below.refl _ _).drew
      refine wp_region_held_drew (S := fun w' => w'.heap[w.heap.size]? = some (.cells (dkC r f n FA es.length c1 KA ks.length c2 TA ts.length c3) 27 (0, 0)) ∧ w'.heap[w.heap.size + 1]? = some (.cells (opC 3 s t DA xs.length dc) 57 (0, 0))) (by kernel_rfl) (⟨B6, P6⟩) (fun _ => ?_)
      refine wpAnyH_take (i := 0) (v := dkV r f n FA es.length c1 KA ks.length c2 TA ts.length c3) rfl (by kernel_rfl) (by kernel_rfl) (by kernel_rfl) (fun _ _ _ h => h) (Or.inl ⟨by rfl, (by intro w' hS; have q := fun i => cell_of_row w' _ i _ _ (0, 0) hS.1; go_simp; try first | rfl | (simp [*, Addr.add_lit]; done))⟩) (⟨B6, P6⟩) ?_
      try simp only [Act.put, List.getElem_toArray, List.getElem_cons_zero, List.setIfInBounds_toArray, List.set_cons_zero, List.set_cons_succ]
      refine wpAnyH_take (i := 1) (v := dkV r f n FA es.length c1 KA ks.length c2 TA ts.length c3) rfl (by kernel_rfl) (by kernel_rfl) (by kernel_rfl) (fun _ _ _ h => h) (Or.inl ⟨by rfl, (by intro w' hS; have q := fun i => cell_of_row w' _ i _ _ (0, 0) hS.1; go_simp; try first | rfl | (simp [*, Addr.add_lit]; done))⟩) (⟨B6, P6⟩) ?_
      try simp only [Act.put, List.getElem_toArray, List.getElem_cons_succ, List.getElem_cons_zero, List.setIfInBounds_toArray, List.set_cons_zero, List.set_cons_succ]
      refine wpAnyH_take (i := 3) (v := .pointer (some ⟨w.heap.size + 1, 1, none⟩)) rfl (by kernel_rfl) (by kernel_rfl) (by kernel_rfl) (fun _ _ _ h => h) (Or.inl ⟨by rfl, (by intro w' hS; skip; go_simp; try first | rfl | (simp [*, Addr.add_lit]; done))⟩) (⟨B6, P6⟩) ?_
      try simp only [Act.put, List.getElem_toArray, List.getElem_cons_succ, List.getElem_cons_zero, List.setIfInBounds_toArray, List.set_cons_zero, List.set_cons_succ]
      refine wpAnyH_take (i := 4) (v := .string s) rfl (by kernel_rfl) (by kernel_rfl) (by kernel_rfl) (fun _ _ _ h => h) (Or.inl ⟨by rfl, (by intro w' hS; have q := fun i => cell_of_row w' _ i _ _ (0, 0) hS.2; go_simp; try first | rfl | (simp [*, Addr.add_lit]; done))⟩) (⟨B6, P6⟩) ?_
      try simp only [Act.put, List.getElem_toArray, List.getElem_cons_succ, List.getElem_cons_zero, List.setIfInBounds_toArray, List.set_cons_zero, List.set_cons_succ]
      refine wpAnyH_ready (rs := [2]) (by kernel_rfl) (by simp) ?_
      refine AllReadyH.cons rfl (fun K hK => ?_) AllReadyH.nil
      go_simp
      refine (diskDir_spec r f n FA es es c1 KA ks c2 TA ts c3 _ (hr.below (t6.trans (b6d.mono t6.size))) (Lib.hid rfl) hg).mono ?_
      rw [show dirV r f n (es.map fc) (ftot es) ks ts = dirS ks ts from if_pos hv]
      rintro e w7 ⟨A7, d7, rfl, ho7, hb7⟩
      have b7 : Below w6.heap.size w6 w7 := b6d.trans hb7
      have z7 := b7.size
      have hdl := dirS_len ks ts
      have hkl := hvd.kl
      have htl := hvd.tl
      have F7 : w7.heap[w.heap.size]? = some (.cells (dkC r f n FA es.length c1 KA ks.length c2 TA ts.length c3) 27 (0, 0)) ∧ w7.heap[w.heap.size + 1]? = some (.cells (opC 3 s t DA xs.length dc) 57 (0, 0)) := ⟨(b7.block w.heap.size (by omega)).trans B6, (b7.block (w.heap.size + 1) (by omega)).trans P6⟩
      refine hK.out _ _ (F7) (fun _ => ?_)
      clear hK K
      try simp only [Act.put, List.getElem_toArray, List.getElem_cons_succ, List.getElem_cons_zero, List.setIfInBounds_toArray, List.set_cons_zero, List.set_cons_succ]
      refine wpAnyH_ready (rs := [5]) (by kernel_rfl) (by simp) ?_
      refine AllReadyH.cons rfl (fun K hK => ?_) AllReadyH.nil
      go_simp
      refine (find_spec A7 d7 (dirS ks ts) s w7 (ho7.sl lk2) (by omega)).mono ?_
      rintro e w8 ⟨rfl, hb8⟩
      have b8 : Below w6.heap.size w6 w8 := b7.trans (hb8.mono z7)
      have z8 := b8.size
      have F8 : w8.heap[w.heap.size]? = some (.cells (dkC r f n FA es.length c1 KA ks.length c2 TA ts.length c3) 27 (0, 0)) ∧ w8.heap[w.heap.size + 1]? = some (.cells (opC 3 s t DA xs.length dc) 57 (0, 0)) := ⟨(b8.block w.heap.size (by omega)).trans B6, (b8.block (w.heap.size + 1) (by omega)).trans P6⟩
      refine hK.out _ _ (F8) (fun _ => ?_)
      clear hK K
      try simp only [Act.put, List.getElem_toArray, List.getElem_cons_succ, List.getElem_cons_zero, List.setIfInBounds_toArray, List.set_cons_zero, List.set_cons_succ]
      refine wpAnyH_ready (rs := [6]) (by kernel_rfl) (by simp) ?_
      refine AllReadyH.cons rfl (fun K hK => ?_) AllReadyH.nil
      go_simp
      refine (l02At_any r f n FA es c1 KA ks.length c2 TA ts.length c3 (findS (dirS ks ts) s) w8 (hr.below (t6.trans (b8.mono t6.size))).1.1 (by have := hg.el; omega)).mono ?_
      rintro e w9 ⟨he, hb9⟩
      obtain ⟨AT, hAT⟩ : ∃ AT : Int, Hid (ixV (fun x : Fl => x.1 == findS (dirS ks ts) s) es = AT) := ⟨_, Lib.hid rfl⟩
      rw [hAT.out] at he
      subst he
      have b9 : Below w6.heap.size w6 w9 := b8.trans (hb9.mono z8)
      have z9 := b9.size
      have F9 : w9.heap[w.heap.size]? = some (.cells (dkC r f n FA es.length c1 KA ks.length c2 TA ts.length c3) 27 (0, 0)) ∧ w9.heap[w.heap.size + 1]? = some (.cells (opC 3 s t DA xs.length dc) 57 (0, 0)) := ⟨(b9.block w.heap.size (by omega)).trans B6, (b9.block (w.heap.size + 1) (by omega)).trans P6⟩
      refine hK.out _ _ (F9) (fun _ => ?_)
      clear hK K
      try simp only [Act.put, List.getElem_toArray, List.getElem_cons_succ, List.getElem_cons_zero, List.setIfInBounds_toArray, List.set_cons_zero, List.set_cons_succ]
      refine wpAnyH_take (i := 7) (v := .int .i64 AT) rfl (by kernel_rfl) (by kernel_rfl) (by kernel_rfl) (fun _ _ _ h => h) (Or.inl ⟨by rfl, (by intro w' hS; skip; go_simp; try first | rfl | (simp [*, Addr.add_lit]; done))⟩) (F9) ?_
      try simp only [Act.put, List.getElem_toArray, List.getElem_cons_succ, List.getElem_cons_zero, List.setIfInBounds_toArray, List.set_cons_zero, List.set_cons_succ]
      refine wpAnyH_done (by kernel_rfl) ?_ _
      obtain ⟨B9, P9⟩ := F9
      have Z9 := (b9.block (w.heap.size + 2) (by omega)).trans Z6
      have O9 := (b9.block w3.heap.size (by omega)).trans O6
      have t9 := t6.trans (b9.mono t6.size)
      have dk9 : DkG w9 w2.heap.size w3.heap.size A3 d1 fs K3 d2 ks T3 d3 ts := dk6.below b9 (by omega)
      have zz9 : w3.heap.size < w9.heap.size := by omega
      clear F7 F8 hb7 hb8 hb9 b7 b8 b6d ho7 O6 B6 P6 Z6 dk6
      have o9x : ∀ i, w9.cell? ⟨w3.heap.size, i, none⟩ = _ := fun i => cell_of_row _ _ i _ _ (0, 0) O9
      have o9x0 := o9x 0
      have o9x1 := o9x 1
      have o9x2 := o9x 2
      have o9x3 := o9x 3
      have o9x4 := o9x 4
      have o9x5 := o9x 5
      clear o9x
      have p9x : ∀ i, w9.cell? ⟨w.heap.size + 1, i, none⟩ = _ := fun i => cell_of_row _ _ i _ _ (0, 0) P9
      have p9x0 := p9x 0
      have p9x1 := p9x 1
      have p9x2 := p9x 2
      have p9x3 := p9x 3
      clear p9x
      have q9x : ∀ i, w9.cell? ⟨w.heap.size, i, none⟩ = _ := fun i => cell_of_row _ _ i _ _ (0, 0) B9
      have q9x0 := q9x 0
      have q9x1 := q9x 1
      have q9x2 := q9x 2
      have q9x3 := q9x 3
      have q9x4 := q9x 4
      have q9x5 := q9x 5
      clear q9x
      have fo9 : ∀ i, w9.frozen? ⟨w3.heap.size, i, none⟩ = false := fun i => by simp [World.frozen?, O9]
      have fz9 : ∀ i, w9.frozen? ⟨w.heap.size + 2, i, none⟩ = false := fun i => by simp [World.frozen?, Z9]
      have hcas : ∃ (j : Nat) (x : Fl) (g o : Nat), Hid (AT = (j : Int)) ∧ j < fs.length ∧ Hid (fs[j]? = some x) ∧ A3 = some ⟨g, o, none⟩ ∧ x ∈ fs := by
        have h0 := cyes.out (by decide) (by decide)
        rcases read_cases hv s with ⟨h1, _⟩ | ⟨j, hj, _, h2, _⟩
        · omega
        · have hj2 : j < fs.length := by have := HEL.out; omega
          obtain ⟨g, o, hA, _⟩ := SlL.get (dk9.rd.1.1) hj2 (by simp)
          exact ⟨j, fs[j], g, o, Lib.hid (by rw [← hAT.out]; exact h2), hj2, Lib.hid (List.getElem?_eq_getElem hj2), hA, List.getElem_mem hj2⟩
      obtain ⟨j, x, g, o, hj0, hj, hx, rfl, hxm⟩ := hcas
      rw [hj0.out]
      have ho0 : Hid (o = 0) := by
        obtain ⟨g', hg', _⟩ := (dk9.choose_f).fillC fl3 (by omega)
        injection hg' with hg'
        injection hg' with _ h2 _
        all_goals (first | exact Lib.hid h2 | exact Lib.hid rfl | rfl)
      have hgb : g < w3.heap.size := dk9.f_lt
      have hgl : w2.heap.size ≤ g := dk9.f_le
      obtain ⟨id, ⟨bA, bc, bs⟩, sf⟩ := x
      have hfc : w9.cell? ⟨g, o + j * 3, none⟩ = some (.int .i64 id) ∧ w9.cell? ⟨g, o + j * 3 + 1, none⟩ = some (.slice bA bs.length bc) ∧ w9.cell? ⟨g, o + j * 3 + 2, none⟩ = some (.int .i64 sf) := by
        have h0 := ho0.out
        subst h0
        simp only [Nat.zero_add]
        exact fs_cells dk9.rd.1.1 hx.out
      have hfr : ∀ i, i < 3 → w9.frozen? ⟨g, o + j * 3 + i, none⟩ = false := fun i hi => by
        have h0 := ho0.out
        subst h0
        simp only [Nat.zero_add]
        exact Oe.f_frozen dk9.choose_f _ (by omega)
      have frg0 : w9.frozen? ⟨g, o + j * 3, none⟩ = false := hfr 0 (by omega)
      have frg1 := hfr 1 (by omega)
      have frg2 := hfr 2 (by omega)
      clear hfr
      obtain ⟨x0, x1, x2⟩ := hfc
      have hlt' : (j : Int) < es.length := by have := HEL.out; omega
      have hj0' : (0 : Int) ≤ (j : Int) := Int.natCast_nonneg j
      have hvN : Vd r f n ((fs.set j (id, (bA, bc, bs), (bs.length : Int))).map fc) ks ts := vd_set hvF hx.out rfl (by show (0 : Int) ≤ bs.length ∧ (bs.length : Int) ≤ bs.length; omega) (by show ((bs.length : Nat) : Int) - (bs.length : Nat) + _ ≤ r; have := hvF.hu; omega)
      have hgz : g < w9.heap.size := by omega
      have g30' : w3.heap.size < w9.heap.size := zz9
      have HLEN : Hid (es.length = (fs.set j (id, (bA, bc, bs), (bs.length : Int))).length) := by show _ = _; rw [List.length_set]; exact HEL.out
      clear hD hr cno cyes cfl cnx ctl cne hvd hvF hvf hj0 hAT fo9 fz9
      go_wp2_with (first | (refine at_pos (p := "l02_disk.go:285") rfl ?_; first | (refine wp_ldD rfl _ rfl w3.heap.size rfl r f n (some ⟨g, o, none⟩) es.length d1 K3 ks.length d2 T3 ts.length d3 (heap_alloc_of _ (heap_setCell_of _ (by first | omega | (simp; done) | (simp; omega)) (heap_setCell_of _ (by first | omega | (simp; done) | (simp; omega)) (heap_setCell_of _ (by first | omega | (simp; done) | (simp; omega)) O9)))) ?_) | (refine wp_stD rfl _ _ rfl (w.heap.size + 2) rfl r f n (some ⟨g, o, none⟩) es.length d1 K3 ks.length d2 T3 ts.length d3 rfl zDk (heap_alloc_of _ (heap_setCell_of _ (by first | omega | (simp; done) | (simp; omega)) (heap_setCell_of _ (by first | omega | (simp; done) | (simp; omega)) (heap_setCell_of _ (by first | omega | (simp; done) | (simp; omega)) Z9)))) rfl ?_; intro wE ZE kE sE bE)))
      refine bodyPost_ret (results_rowD Try.results21 _ _ (w.heap.size + 2) _ rfl ZE rfl) rfl ?_
      have pk9 : Pk w9 w2.heap.size w3.heap.size w3.heap.size (some ⟨g, o, none⟩) d1 fs K3 d2 ks T3 d3 ts := Pk.of_dkg dk9 (Nat.le_refl _) (Nat.le_refl _)
      have pkN : Pk ((((w9.setCell ⟨g, o + j * 3, none⟩ (.int .i64 id)).setCell ⟨g, o + j * 3 + 1, none⟩ (.slice bA bs.length bc)).setCell ⟨g, o + j * 3 + 2, none⟩ (.int .i64 bs.length)).alloc (.cells #[.int .i64 id, .slice bA bs.length bc, .int .i64 bs.length] 36)) w2.heap.size w3.heap.size w3.heap.size (some ⟨g, o, none⟩) d1 (fs.set j (id, (bA, bc, bs), (bs.length : Int))) K3 d2 ks T3 d3 ts := by
        have h0 := ho0.out
        subst h0
        simp only [Nat.zero_add]
        exact Pk.alloc (pk9.setF (i := id) (s := (bs.length : Int)) hj hx.out (pk9.b _ hxm) (fun _ _ _ => rfl) (fun ad ha => .inl ⟨ad, ha, rfl⟩) (by omega) (by omega)) _
      have tN : Below w.heap.size w ((((w9.setCell ⟨g, o + j * 3, none⟩ (.int .i64 id)).setCell ⟨g, o + j * 3 + 1, none⟩ (.slice bA bs.length bc)).setCell ⟨g, o + j * 3 + 2, none⟩ (.int .i64 bs.length)).alloc (.cells #[.int .i64 id, .slice bA bs.length bc, .int .i64 bs.length] 36)) := (((t9.setCell (by first | omega | (simp; done) | (simp; omega)) _).setCell (by first | omega | (simp; done) | (simp; omega)) _).setCell (by first | omega | (simp; done) | (simp; omega)) _).alloc (((t9.setCell (p := ⟨g, o + j * 3, none⟩) (by first | omega | (simp; done) | (simp; omega)) (.int .i64 id)).setCell (p := ⟨g, o + j * 3 + 1, none⟩) (by first | omega | (simp; done) | (simp; omega)) (.slice bA bs.length bc)).setCell (p := ⟨g, o + j * 3 + 2, none⟩) (by first | omega | (simp; done) | (simp; omega)) (.int .i64 bs.length)).size _
      refine DdPost.pk (lo := w2.heap.size) (H := w3.heap.size) (J := w3.heap.size) HLEN.out hvN ?_ (by omega) (bE _ _ tN (Nat.le_refl _) (by omega))
      exact (pkN).others kE (.inr (.inr (by omega)))
end Go.Proofs.Ytndmdhmghjfckaa
