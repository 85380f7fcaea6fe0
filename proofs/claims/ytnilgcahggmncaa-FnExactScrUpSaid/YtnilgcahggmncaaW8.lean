/- Screens compared, marked, held. -/
import Derived.Test.YtnilgcahggmncaaW7
namespace Go.Proofs.Ytnilgcahggmncaa
open Go.RowKit
set_option linter.unusedVariables false
set_option maxRecDepth 100000

/-- A block that what changed leaves alone. -/
theorem keep_chg {F : List (Option Nat)} {W w1 : World} (hc : Chg F W w1) {g : Nat} {t : TypeId} {cs : Array Value} (hB : W.heap[g]? = some (.cells cs t (0, 0))) (hn : some g ∉ F) :
    w1.heap[g]? = some (.cells cs t (0, 0)) ∧ (∀ i, w1.cell? ⟨g, i, none⟩ = cs[i]?) ∧ (∀ i, w1.frozen? ⟨g, i, none⟩ = false) ∧ g < w1.heap.size := by
  have hg : g < W.heap.size := (Array.getElem?_eq_some_iff.1 hB).1
  have h1 : w1.heap[g]? = some (.cells cs t (0, 0)) := (hc.block g hg hn).trans hB
  exact ⟨h1, fun i => cell_of_row w1 g i cs t (0, 0) h1, fun i => by simp [World.frozen?, h1], Nat.lt_of_lt_of_le hg hc.size⟩
theorem sV_len {s : Sc} {m a : Rw} {t : Ti} {A : Option Addr} {c : Nat} {es fs : List Rw} (h : fs.length = es.length) : sV s m a t (A, c, fs) = sV s m a t (A, c, es) := by
  have : bv (A, c, fs) = bv (A, c, es) := by simp only [bv, h]
  show Value.agg #[_, _, _, _, _, _, _, _, _, _, _, _, _, _, _, _, _, _, _, _, _, _, _, _, _, _, _, _, _, _, bv (A, c, fs)] = _
  rw [this]
set_option maxHeartbeats 4000000 in
theorem eqScr_same (s : Sc) (M A : Rw) (T : Ti) (B : Tr) (M' A' : Rw) (T' : Ti) (B' : Tr) (c : Cont) (w : World) (hr : Sr w M A T B) (hr' : Sr w M' A' T' B') (hc : Hid (Holds M A T B c)) (hc' : Hid (Holds M' A' T' B' c)) (hN : cTot c ≤ 1048576) :
    Calls Try.prog 28 #[sV s M A T B, sV s M' A' T' B'] w fun e w' => e = .returned (.bool true) ∧ Below w.heap.size w w' := by
  have hz := Sz.of (by rw [cTot_holds hc.out]; exact hN)
  obtain ⟨l1, l2, l3, l4, l5⟩ := hz
  obtain ⟨mA, mc, ms⟩ := M
  obtain ⟨aA, ac, xs⟩ := A
  obtain ⟨tA, tc, ts⟩ := T
  obtain ⟨bA, bc, bs⟩ := B
  obtain ⟨mA', mc', ms'⟩ := M'
  obtain ⟨aA', ac', xs'⟩ := A'
  obtain ⟨tA', tc', ts'⟩ := T'
  obtain ⟨bA', bc', bs'⟩ := B'
  obtain ⟨g1, g2, g3, g4⟩ := hr
  obtain ⟨g1', g2', g3', g4'⟩ := hr'
  obtain ⟨cm, ca, ct, cb⟩ := c
  obtain ⟨h1, h2, h3, h4⟩ := hc.out
  obtain ⟨h1', h2', h3', h4'⟩ := hc'.out
  simp only at *
  subst h1' h2' h3' h1 h2 h3
  have hd : rcs bs' = rcs bs := h4'.trans h4.symm
  have hfl := rcs_len hd
  have HD := Lib.hid hd
  rw [sV_len hfl]
  clear h4 h4' hd hfl hc hc' hN
  go_enter Try.func28, Try.ntmps28
  go_wp2_with fail
  have t0 : Below w.heap.size w ((w.alloc (.cells (sC s (mA, mc, ms) (aA, ac, xs) (tA, tc, ts) (bA, bc, bs)) 49)).alloc (.cells (sC s (mA', mc', ms) (aA', ac', xs) (tA', tc', ts) (bA', bc', bs)) 49)) := by (repeat (first | exact Below.refl _ _ | (refine Below.alloc ?_ (by first | omega | (simp; done) | (simp; omega)) _) | (refine Below.drew ?_) | (refine below_drewN ?_ _) | (refine below_at1 ?_ (by first | omega | (simp; done) | (simp; omega))) | (refine Below.setCell ?_ (by first | omega | (simp; done) | (simp; omega)) _) | (refine Below.trans ?_ (Below.mono (by assumption) (by first | omega | (simp; done) | (simp; omega))))))
  refine (eqGrid_same s.mW s.mH mA mA' mc mc' ms _ (g1.below t0) (g1'.below t0) (by omega)).mono ?_
  rintro e w1 ⟨rfl, hb1⟩
  obtain ⟨B1, q1, r1, z1⟩ := keep_blk hb1 (g := w.heap.size) (by repeat (first | assumption | exact heap_alloc_at _ (by first | rfl | (simp; done) | omega) | refine heap_alloc_of _ ?_ | refine heap_setCell_of _ (by first | omega | (simp; done) | (simp; omega)) ?_ | refine heap_setCell_same _ ?_ | exact heap_at1_same (by first | omega | (simp; done) | (simp; omega)) | refine heap_at1_of (by first | omega | (simp; done) | (simp; omega)) ?_))
  obtain ⟨C1, p1, s1, y1⟩ := keep_blk hb1 (g := w.heap.size + 1) (by repeat (first | assumption | exact heap_alloc_at _ (by first | rfl | (simp; done) | omega) | refine heap_alloc_of _ ?_ | refine heap_setCell_of _ (by first | omega | (simp; done) | (simp; omega)) ?_ | refine heap_setCell_same _ ?_ | exact heap_at1_same (by first | omega | (simp; done) | (simp; omega)) | refine heap_at1_of (by first | omega | (simp; done) | (simp; omega)) ?_))
  have t1 := t0.trans (hb1.mono t0.size)
  go_wp2_with fail
  refine (eqGrid_same s.aW s.aH aA aA' ac ac' xs _ (g2.below t1) (g2'.below t1) (by omega)).mono ?_
  rintro e w2 ⟨rfl, hb2⟩
  obtain ⟨B2, q2, r2, z2⟩ := keep_blk hb2 B1
  obtain ⟨C2, p2, s2, y2⟩ := keep_blk hb2 C1
  clear B1 q1 r1 C1 p1 s1
  have t2 := t1.trans (hb2.mono t1.size)
  go_wp2_with fail
  refine (eqAttr_same s.A _).mono ?_
  rintro e w3 ⟨rfl, hb3⟩
  obtain ⟨B3, q3, r3, z3⟩ := keep_blk hb3 B2
  obtain ⟨C3, p3, s3, y3⟩ := keep_blk hb3 C2
  clear B2 q2 r2 C2 p2 s2
  have t3 := t2.trans (hb3.mono t2.size)
  go_wp2_with fail
  refine (eqAttr_same s.sA _).mono ?_
  rintro e w4 ⟨rfl, hb4⟩
  obtain ⟨B4, q4, r4, z4⟩ := keep_blk hb4 B3
  obtain ⟨C4, p4, s4, y4⟩ := keep_blk hb4 C3
  clear B3 q3 r3 C3 p3 s3
  have t4 := t3.trans (hb4.mono t3.size)
  go_wp2_with fail
  refine (eqIntS_same tA tA' tc tc' ts _ (g3.below t4) (g3'.below t4) (by omega)).mono ?_
  rintro e w' ⟨rfl, m5, hw5⟩
  have hb5 : Below w4.heap.size w4 w' := by rw [← hw5]; exact below_drewN (Below.refl _ _) _
  clear hw5
  obtain ⟨B5, q5, r5, z5⟩ := keep_blk hb5 B4
  obtain ⟨C5, p5, s5, y5⟩ := keep_blk hb5 C4
  clear B4 q4 r4 C4 p4 s4
  have t5 := t4.trans (hb5.mono t4.size)
  go_wp2_with fail
  refine (eqRowS_same bA bA' bc bc' bs.length bs bs' _ rfl (g4.below t5) (g4'.below t5) HD (by omega) l5).mono ?_
  rintro e w6 ⟨rfl, hb6⟩
  obtain ⟨B6, q6, r6, z6⟩ := keep_blk hb6 B5
  obtain ⟨C6, p6, s6, y6⟩ := keep_blk hb6 C5
  clear B5 q5 r5 C5 p5 s5
  have t6 := t5.trans (hb6.mono t5.size)
  go_wp2_with fail
  go_ret
  exact ⟨rfl, t6⟩
end Go.Proofs.Ytnilgcahggmncaa
