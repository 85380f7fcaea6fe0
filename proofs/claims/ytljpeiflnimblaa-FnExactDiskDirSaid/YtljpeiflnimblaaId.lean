/- A disk is valid: the law. -/
import Derived.Test.YtljpeiflnimblaaIc
import Derived.Deep.RegionHeld3
import Derived.Deep.DeepCutAuto
namespace Go.Proofs.Ytljpeiflnimblaa
open Go.RowKit
set_option linter.unusedVariables false
set_option maxRecDepth 100000

/-- What a law's disk is bounded by. -/
structure Good (es : List Fl) (ks : List Lk) (ts : List Tn) : Prop where
  el : es.length ≤ 1048576
  ef : ftot es ≤ 1048576
  eb : ∀ e, e ∈ es → bd e.1 ∧ bd e.2.2
  ey : ∀ e, e ∈ es → e.2.1.2.2.length ≤ 1048576
  kl : ks.length ≤ 1048576
  km : ∀ x, x ∈ ks → x.1.data.toList.length ≤ 549755813888
  tl : ts.length ≤ 1048576
  tm : ∀ x, x ∈ ts → x.2.1.data.toList.length ≤ 549755813888 ∧ x.2.2.1.data.toList.length ≤ 549755813888
theorem mem_sum {T : Type} (f : T → Nat) : ∀ {l : List T} {x : T}, x ∈ l → f x ≤ (l.map f).sum
  | y :: r, x, h => by
    rw [List.map_cons, List.sum_cons]
    rcases List.mem_cons.1 h with rfl | h
    · omega
    · have := mem_sum f h; omega
theorem Good.of {es : List Fl} {ks : List Lk} {ts : List Tn} (h : ¬ (1048576 : Int) < (es.length + ftot es) + (ks.length + ktot ks) + (ts.length + ttot ts)) (hb : ∀ e, e ∈ es → bd e.1 ∧ bd e.2.2) : Good es ks ts where
  el := by omega
  ef := by omega
  eb := hb
  ey := fun e he => by have := mem_sum (fun e : Fl => e.2.1.2.2.length) he; unfold ftot at h; omega
  kl := by omega
  km := fun x hx => by
    have h1 := mem_sum (fun e : Lk => e.1.size) hx
    have h2 : x.1.data.toList.length = x.1.size := Array.length_toList
    unfold ktot at h
    omega
  tl := by omega
  tm := fun x hx => by
    have h1 := mem_sum (fun e : Tn => e.2.1.size + e.2.2.1.size) hx
    have h2 : x.2.1.data.toList.length = x.2.1.size := Array.length_toList
    have h3 : x.2.2.1.data.toList.length = x.2.2.1.size := Array.length_toList
    unfold ttot at h
    omega
theorem fc_mem {es fs : List Fl} (h : fs.map fc = es.map fc) {e : Fl} (he : e ∈ fs) : ∃ x, x ∈ es ∧ e.1 = x.1 ∧ e.2.1.2.2 = x.2.1.2.2 ∧ e.2.2 = x.2.2 := by
  have h1 : fc e ∈ es.map fc := by rw [← h]; exact List.mem_map_of_mem he
  obtain ⟨x, hx, hxe⟩ := List.mem_map.1 h1
  simp only [fc, Prod.mk.injEq] at hxe
  exact ⟨x, hx, hxe.1.symm, hxe.2.1.symm, hxe.2.2.symm⟩
theorem fc_tot {es fs : List Fl} (h : fs.map fc = es.map fc) : ftot fs = ftot es := by
  have h1 : ∀ l : List Fl, ftot l = ((l.map fc).map fun x => x.2.1.length).sum := fun l => by rw [List.map_map]; rfl
  rw [h1, h1, h]
theorem Good.copy {es fs : List Fl} {ks : List Lk} {ts : List Tn} (h : Good es ks ts) (hd : fs.map fc = es.map fc) : Good fs ks ts where
  el := by rw [fc_len hd]; exact h.el
  ef := by rw [fc_tot hd]; exact h.ef
  eb := fun e he => by obtain ⟨x, hx, e1, e2, e3⟩ := fc_mem hd he; rw [e1, e3]; exact h.eb x hx
  ey := fun e he => by obtain ⟨x, hx, e1, e2, e3⟩ := fc_mem hd he; rw [e2]; exact h.ey x hx
  kl := h.kl
  km := h.km
  tl := h.tl
  tm := h.tm
/-- A disk that reads so. -/
def Dr (w : World) (FA : Option Addr) (fs : List Fl) (KA : Option Addr) (ks : List Lk) (TA : Option Addr) (ts : List Tn) : Prop := Fs w FA fs ∧ Ks w KA ks ∧ Ts w TA ts
theorem Dr.below {w w' : World} {FA KA TA : Option Addr} {fs : List Fl} {ks : List Lk} {ts : List Tn} (h : Dr w FA fs KA ks TA ts) (hb : Below w.heap.size w w') : Dr w' FA fs KA ks TA ts := ⟨h.1.below hb, SlL.below h.2.1 hb, SlL.below h.2.2 hb⟩
section
variable (r f n : Int) (FA : Option Addr) (es fs : List Fl) (c1 : Nat) (KA : Option Addr) (ks : List Lk) (c2 : Nat) (TA : Option Addr) (ts : List Tn) (c3 : Nat) (w : World) (hr : Dr w FA fs KA ks TA ts) (hd : Hid (fs.map fc = es.map fc)) (hg : Good es ks ts)
include hr hd hg
theorem okSpec_any : Calls Try.prog 7 #[dkV r f n FA es.length c1 KA ks.length c2 TA ts.length c3] w fun e w' => e = .returned (.bool (dkB r f n (es.map fc) (ftot es) ks ts)) ∧ Below w.heap.size w w' := by
  have g := hg.copy hd.out
  have := diskOk_spec r f n FA fs c1 KA ks c2 TA ts c3 w hr.1 g.el g.ef hr.2.1 g.kl g.km hr.2.2 g.tl g.tm g.eb
  rwa [fc_len hd.out, hd.out, fc_tot hd.out] at this
theorem okImpl_any : Calls Try.prog 9 #[dkV r f n FA es.length c1 KA ks.length c2 TA ts.length c3] w fun e w' => e = .returned (.bool (dkB r f n (es.map fc) (ftot es) ks ts)) ∧ Below w.heap.size w w' := by
  have g := hg.copy hd.out
  have := diskOk_impl r f n FA fs c1 KA ks c2 TA ts c3 w hr.1 g.el g.ef hr.2.1 g.kl g.km hr.2.2 g.tl g.tm g.eb
  rwa [fc_len hd.out, hd.out, fc_tot hd.out] at this
end
theorem toD_any (r f n : Int) (FA : Option Addr) (es : List Fl) (c1 : Nat) (KA : Option Addr) (ks : List Lk) (c2 : Nat) (TA : Option Addr) (ts : List Tn) (c3 : Nat) (w : World) (hr : Dr w FA es KA ks TA ts) (hg : Good es ks ts) :
    Calls Try.prog 8 #[dkV r f n FA es.length c1 KA ks.length c2 TA ts.length c3] w (ToDPost w r f n es ks ts) :=
  toDisk_any r f n FA es c1 KA ks c2 TA ts c3 w hr.1 hr.2.1 hr.2.2 hg.el (fun e he => by have := hg.ey e he; omega) hg.kl hg.tl
set_option maxHeartbeats 8000000 in
theorem walk_FnExactDiskOk (vs0 : List Value) (w : World) (h0 : Rd Try.prog w 26 vs0) :
    Calls Try.prog 3 #[.agg vs0.toArray] w fun e w' => e = .returned (.bool true) ∧ Below w.heap.size w w' := by
  obtain ⟨r, f, n, FA, es, c1, KA, ks, c2, TA, ts, c3, rfl, ⟨br, bf, bn⟩, ⟨hF, hFl, hFm⟩, ⟨hK, hKl, hKm⟩, hT, hTl, hTm⟩ := rd_disk h0
  clear h0
  have hsz := fun w' (hb : Below w.heap.size w w') => szDisk_any r f n FA es c1 KA ks c2 TA ts c3 w' (hF.below hb) hFl (fun e he => (hFm e he).2.1) (SlL.below hK hb) hKl (fun e he => (hKm e he).1) (SlL.below hT hb) hTl (fun e he => ⟨(hTm e he).2.1, (hTm e he).2.2.1⟩)
  have hr : Dr w FA es KA ks TA ts := ⟨hF, hK, hT⟩
  have t0 : Below w.heap.size w (w.alloc (.cells (dkC r f n FA es.length c1 KA ks.length c2 TA ts.length c3) 26)) := (Below.refl _ _).alloc (Nat.le_refl _) _
  by_cases hbig : (1048576 : Int) < (es.length + ftot es) + (ks.length + ktot ks) + (ts.length + ttot ts)
  · have HS1 := szR_no hbig
    go_enter Try.func3, Try.ntmps3
    go_wp2_with fail
    refine (hsz _ t0).mono ?_
    rintro e w1 ⟨he, hb1⟩
    rw [HS1.out] at he
    subst he
    go_wp2_with fail
    go_ret
    exact ⟨rfl, t0.trans (hb1.mono t0.size)⟩
  have HS1 := szR_yes hbig
  have hg := Good.of hbig fun e he => ⟨(hFm e he).1, (hFm e he).2.2⟩
  obtain ⟨L, hL⟩ : ∃ L : Int, Hid (1048576 - ((es.length + ftot es : Int) + (ks.length + ktot ks) + (ts.length + ttot ts)) = L) := ⟨_, Lib.hid rfl⟩
  have hL0 : ¬ L < 0 := by have := hL.out; omega
  clear hF hK hT hFm hKm hTm hbig br bf bn hFl hKl hTl
  go_enter Try.func3, Try.ntmps3
  go_wp2_with fail
  refine (hsz _ t0).mono ?_
  rintro e w1 ⟨he, hb1⟩
  rw [HS1.out, hL.out] at he
  subst he
  obtain ⟨Ba1, qa1, ra1, za1⟩ := keep_blk hb1 (g := w.heap.size) (by repeat (first | assumption | exact heap_alloc_at _ (by first | rfl | (simp; done) | omega) | refine heap_alloc_of _ ?_ | refine heap_setCell_of _ (by first | omega | (simp; done) | (simp; omega)) ?_ | refine heap_setCell_same _ ?_ | exact heap_at1_same (by first | omega | (simp; done) | (simp; omega)) | refine heap_at1_of (by first | omega | (simp; done) | (simp; omega)) ?_))
  have t1 := t0.trans (hb1.mono t0.size)
  clear hsz
  go_wp2_with fail
  refine (toD_any r f n FA es c1 KA ks c2 TA ts c3 _ (hr.below t1) hg).mono ?_
  rintro e w2 ⟨FA2, d1, fs2, KA2, d2, TA2, d3, rfl, hd2, ho2, hb2⟩
  obtain ⟨Ba2, qa2, ra2, za2⟩ := keep_blk hb2 (g := w.heap.size) (by repeat (first | assumption | exact heap_alloc_at _ (by first | rfl | (simp; done) | omega) | refine heap_alloc_of _ ?_ | refine heap_setCell_of _ (by first | omega | (simp; done) | (simp; omega)) ?_ | refine heap_setCell_same _ ?_ | exact heap_at1_same (by first | omega | (simp; done) | (simp; omega)) | refine heap_at1_of (by first | omega | (simp; done) | (simp; omega)) ?_))
  clear Ba1 qa1 ra1
  have t2 := t1.trans (hb2.mono t1.size)
  go_wp2_with fail
  refine (okSpec_any r f n FA2 es fs2 d1 KA2 ks d2 TA2 ts d3 _ ho2.rd hd2 hg).mono ?_
  rintro e w3 ⟨rfl, hb3⟩
  obtain ⟨Ba3, qa3, ra3, za3⟩ := keep_blk hb3 (g := w.heap.size) (by repeat (first | assumption | exact heap_alloc_at _ (by first | rfl | (simp; done) | omega) | refine heap_alloc_of _ ?_ | refine heap_setCell_of _ (by first | omega | (simp; done) | (simp; omega)) ?_ | refine heap_setCell_same _ ?_ | exact heap_at1_same (by first | omega | (simp; done) | (simp; omega)) | refine heap_at1_of (by first | omega | (simp; done) | (simp; omega)) ?_))
  clear Ba2 qa2 ra2 ho2
  have t3 := t2.trans (hb3.mono t2.size)
  generalize HS : dkB r f n (es.map fc) (ftot es) ks ts = R
  have HR := Lib.hid HS
  clear HS
  go_wp2_with fail
  refine (toD_any r f n FA es c1 KA ks c2 TA ts c3 _ (hr.below t3) hg).mono ?_
  rintro e w4 ⟨FA4, e1, fs4, KA4, e2, TA4, e3, rfl, hd4, ho4, hb4⟩
  obtain ⟨Ba4, qa4, ra4, za4⟩ := keep_blk hb4 (g := w.heap.size) (by repeat (first | assumption | exact heap_alloc_at _ (by first | rfl | (simp; done) | omega) | refine heap_alloc_of _ ?_ | refine heap_setCell_of _ (by first | omega | (simp; done) | (simp; omega)) ?_ | refine heap_setCell_same _ ?_ | exact heap_at1_same (by first | omega | (simp; done) | (simp; omega)) | refine heap_at1_of (by first | omega | (simp; done) | (simp; omega)) ?_))
  clear Ba3 qa3 ra3
  have t4 := t3.trans (hb4.mono t3.size)
  have hr4 : Dr w4 FA4 fs4 KA4 ks TA4 ts := ho4.rd
  go_wp2_with fail
  have hb40 : Below w4.heap.size w4 (w4.alloc (.cells (dkC r f n FA4 es.length e1 KA4 ks.length e2 TA4 ts.length e3) 33)) := (Below.refl _ _).alloc (Nat.le_refl _) _
  refine (okImpl_any r f n FA4 es fs4 e1 KA4 ks e2 TA4 ts e3 _ (hr4.below hb40) hd4 hg).mono ?_
  rintro e w5 ⟨he, hb5⟩
  rw [HR.out] at he
  subst he
  obtain ⟨Ba5, qa5, ra5, za5⟩ := keep_blk hb5 (g := w.heap.size) (by repeat (first | assumption | exact heap_alloc_at _ (by first | rfl | (simp; done) | omega) | refine heap_alloc_of _ ?_ | refine heap_setCell_of _ (by first | omega | (simp; done) | (simp; omega)) ?_ | refine heap_setCell_same _ ?_ | exact heap_at1_same (by first | omega | (simp; done) | (simp; omega)) | refine heap_at1_of (by first | omega | (simp; done) | (simp; omega)) ?_))
  obtain ⟨Bx5, qx5, rx5, zx5⟩ := keep_blk hb5 (g := w4.heap.size) (by repeat (first | assumption | exact heap_alloc_at _ (by first | rfl | (simp; done) | omega) | refine heap_alloc_of _ ?_ | refine heap_setCell_of _ (by first | omega | (simp; done) | (simp; omega)) ?_ | refine heap_setCell_same _ ?_ | exact heap_at1_same (by first | omega | (simp; done) | (simp; omega)) | refine heap_at1_of (by first | omega | (simp; done) | (simp; omega)) ?_))
  clear Ba4 qa4 ra4
  have hb45 := hb40.trans (hb5.mono hb40.size)
  have t5 := t4.trans (hb45.mono t4.size)
  have hr5 := hr4.below hb45
  have hrw := hr.below t5
  go_wp2_with fail
  have ca0 : w5.cell? ⟨w.heap.size, 0, none⟩ = some (.int .i64 r) := by rw [qa5]; rfl
  have ca1 : w5.cell? ⟨w.heap.size, 1, none⟩ = some (.int .i64 f) := by rw [qa5]; rfl
  have ca2 : w5.cell? ⟨w.heap.size, 2, none⟩ = some (.int .i64 n) := by rw [qa5]; rfl
  have ca3 : w5.cell? ⟨w.heap.size, 3, none⟩ = some (.slice FA es.length c1) := by rw [qa5]; rfl
  have ca4 : w5.cell? ⟨w.heap.size, 4, none⟩ = some (.slice KA ks.length c2) := by rw [qa5]; rfl
  have ca5 : w5.cell? ⟨w.heap.size, 5, none⟩ = some (.slice TA ts.length c3) := by rw [qa5]; rfl
  have cx0 : w5.cell? ⟨w4.heap.size, 0, none⟩ = some (.int .i64 r) := by rw [qx5]; rfl
  have cx1 : w5.cell? ⟨w4.heap.size, 1, none⟩ = some (.int .i64 f) := by rw [qx5]; rfl
  have cx2 : w5.cell? ⟨w4.heap.size, 2, none⟩ = some (.int .i64 n) := by rw [qx5]; rfl
  have cx3 : w5.cell? ⟨w4.heap.size, 3, none⟩ = some (.slice FA4 es.length e1) := by rw [qx5]; rfl
  have cx4 : w5.cell? ⟨w4.heap.size, 4, none⟩ = some (.slice KA4 ks.length e2) := by rw [qx5]; rfl
  have cx5 : w5.cell? ⟨w4.heap.size, 5, none⟩ = some (.slice TA4 ts.length e3) := by rw [qx5]; rfl
  first | (go_region_held3 (fun w' => Below w5.heap.size w5 w' ∧ w'.cell? ⟨w.heap.size, 0, none⟩ = some (.int .i64 r) ∧ w'.cell? ⟨w.heap.size, 1, none⟩ = some (.int .i64 f) ∧ w'.cell? ⟨w.heap.size, 2, none⟩ = some (.int .i64 n) ∧ w'.cell? ⟨w.heap.size, 3, none⟩ = some (.slice FA es.length c1) ∧ w'.cell? ⟨w.heap.size, 4, none⟩ = some (.slice KA ks.length c2) ∧ w'.cell? ⟨w.heap.size, 5, none⟩ = some (.slice TA ts.length c3) ∧ w'.cell? ⟨w4.heap.size, 0, none⟩ = some (.int .i64 r) ∧ w'.cell? ⟨w4.heap.size, 1, none⟩ = some (.int .i64 f) ∧ w'.cell? ⟨w4.heap.size, 2, none⟩ = some (.int .i64 n) ∧ w'.cell? ⟨w4.heap.size, 3, none⟩ = some (.slice FA4 es.length e1) ∧ w'.cell? ⟨w4.heap.size, 4, none⟩ = some (.slice KA4 ks.length e2) ∧ w'.cell? ⟨w4.heap.size, 5, none⟩ = some (.slice TA4 ts.length e3))
    (first | exact ⟨Below.drew (Below.refl _ _), by simpa using ca0, by simpa using ca1, by simpa using ca2, by simpa using ca3, by simpa using ca4, by simpa using ca5, by simpa using cx0, by simpa using cx1, by simpa using cx2, by simpa using cx3, by simpa using cx4, by simpa using cx5⟩ | assumption)
    ((first | (go_at_call 8; refine (toD_any r f n FA es c1 KA ks c2 TA ts c3 _ (hrw.below (Below.drew (Below.refl _ _))) hg).mono ?_; rintro e w6 ⟨FA6, g1, fs6, KA6, g2, TA6, g3, rfl, hd6, ho6, hb6⟩; have s6 : Below w5.heap.size w5 w6 := (Below.drew (Below.refl _ _)).trans hb6; have hkeep_s6 := (And.intro s6 (And.intro ((s6.cell (World.block_lt_of_cell? w5 _ ca0)).trans ca0) (And.intro ((s6.cell (World.block_lt_of_cell? w5 _ ca1)).trans ca1) (And.intro ((s6.cell (World.block_lt_of_cell? w5 _ ca2)).trans ca2) (And.intro ((s6.cell (World.block_lt_of_cell? w5 _ ca3)).trans ca3) (And.intro ((s6.cell (World.block_lt_of_cell? w5 _ ca4)).trans ca4) (And.intro ((s6.cell (World.block_lt_of_cell? w5 _ ca5)).trans ca5) (And.intro ((s6.cell (World.block_lt_of_cell? w5 _ cx0)).trans cx0) (And.intro ((s6.cell (World.block_lt_of_cell? w5 _ cx1)).trans cx1) (And.intro ((s6.cell (World.block_lt_of_cell? w5 _ cx2)).trans cx2) (And.intro ((s6.cell (World.block_lt_of_cell? w5 _ cx3)).trans cx3) (And.intro ((s6.cell (World.block_lt_of_cell? w5 _ cx4)).trans cx4) ((s6.cell (World.block_lt_of_cell? w5 _ cx5)).trans cx5)))))))))))))) | (go_at_call 10; refine (eqDisk_same r f n _ es.length _ _ _ _ _ _ _ _ _ _ _ fs4 fs6 ks ts _ (fc_len hd4.out) (hr5.1.below s6) ho6.rd.1 (Lib.hid (hd6.out.trans hd4.out.symm)) (by have := hg.el; omega) (fun e he => by have := (hg.copy hd4.out).ey e he; omega) (SlL.below hr5.2.1 s6) ho6.rd.2.1 (by have := hg.kl; omega) (SlL.below hr5.2.2 s6) ho6.rd.2.2 (by have := hg.tl; omega)).mono ?_; rintro e w7 ⟨rfl, hb7⟩; have s7 : Below w5.heap.size w5 w7 := s6.trans (hb7.mono s6.size); have hkeep_s7 := (And.intro s7 (And.intro ((s7.cell (World.block_lt_of_cell? w5 _ ca0)).trans ca0) (And.intro ((s7.cell (World.block_lt_of_cell? w5 _ ca1)).trans ca1) (And.intro ((s7.cell (World.block_lt_of_cell? w5 _ ca2)).trans ca2) (And.intro ((s7.cell (World.block_lt_of_cell? w5 _ ca3)).trans ca3) (And.intro ((s7.cell (World.block_lt_of_cell? w5 _ ca4)).trans ca4) (And.intro ((s7.cell (World.block_lt_of_cell? w5 _ ca5)).trans ca5) (And.intro ((s7.cell (World.block_lt_of_cell? w5 _ cx0)).trans cx0) (And.intro ((s7.cell (World.block_lt_of_cell? w5 _ cx1)).trans cx1) (And.intro ((s7.cell (World.block_lt_of_cell? w5 _ cx2)).trans cx2) (And.intro ((s7.cell (World.block_lt_of_cell? w5 _ cx3)).trans cx3) (And.intro ((s7.cell (World.block_lt_of_cell? w5 _ cx4)).trans cx4) ((s7.cell (World.block_lt_of_cell? w5 _ cx5)).trans cx5))))))))))))))))) | fail
  clear hkeep_s6 hkeep_s7
  go_wp2_with fail
  go_ret
  exact ⟨rfl, t5.trans (s7.mono t5.size)⟩
end Go.Proofs.Ytljpeiflnimblaa
