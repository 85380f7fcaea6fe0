/- The law of Sgr. -/
import Derived.Test.YtgodpbiojekicaaG9
namespace Go.Proofs.Ytgodpbiojekicaa
open Go.RowKit
set_option linter.unusedVariables false
set_option maxRecDepth 100000

theorem toAttrB (f b : Int) (x y z : Bool) (w : World) :
    Calls Try.prog 23 #[.agg #[.int .i64 f, .int .i64 b, .bool x, .bool y, .bool z]] w fun e w' => e = .returned (aV (f, b, x, y, z)) ∧ Below w.heap.size w w' := by
  refine (toAttr_any _ _ _ _ _ _).mono ?_
  rintro e w1 ⟨rfl, rfl⟩
  exact ⟨rfl, (by (repeat (first | exact Below.refl _ _ | (refine Below.alloc ?_ (by first | omega | (simp; done) | (simp; omega)) _) | (refine Below.drew ?_) | (refine below_drewN ?_ _) | (refine below_at1 ?_ (by first | omega | (simp; done) | (simp; omega))) | (refine Below.setCell ?_ (by first | omega | (simp; done) | (simp; omega)) _) | (refine Below.trans ?_ (Below.mono (by assumption) (by first | omega | (simp; done) | (simp; omega)))))))⟩
theorem eqAttr_same (a : At) (w : World) :
    Calls Try.prog 26 #[aV a, aV a] w fun e w' => e = .returned (.bool true) ∧ Below w.heap.size w w' := by
  obtain ⟨f, b, x, y, z⟩ := a
  go_enter Try.func26, Try.ntmps26
  go_wp2
  go_ret
  exact ⟨rfl, (by (repeat (first | exact Below.refl _ _ | (refine Below.alloc ?_ (by first | omega | (simp; done) | (simp; omega)) _) | (refine Below.drew ?_) | (refine below_drewN ?_ _) | (refine below_at1 ?_ (by first | omega | (simp; done) | (simp; omega))) | (refine Below.setCell ?_ (by first | omega | (simp; done) | (simp; omega)) _) | (refine Below.trans ?_ (Below.mono (by assumption) (by first | omega | (simp; done) | (simp; omega)))))))⟩
set_option maxHeartbeats 2000000 in
theorem walk_FnExactSgr (cs : List Value) (A : Option Addr) (n c : Nat) (w : World) (h : Rd Try.prog w 33 cs) (h2 : Rd Try.prog w 34 [.slice A n c]) :
    Calls Try.prog 6 #[.agg cs.toArray, .slice A n c] w fun e w' => e = .returned (.bool true) ∧ Below w.heap.size w w' := by
  obtain ⟨f, b, x, y, z, rfl⟩ := rd_AttrL h
  obtain ⟨ns, rfl, ha, hm, _⟩ := rd_ints h2
  unfold maxLen at hm
  clear h h2
  by_cases hbig : 1048576 < ns.length
  · have hbig' : (1048576 : Int) < ns.length := by omega
    go_enter Try.func6, Try.ntmps6
    go_wp2
    go_ret
    exact ⟨rfl, (by (repeat (first | exact Below.refl _ _ | (refine Below.alloc ?_ (by first | omega | (simp; done) | (simp; omega)) _) | (refine Below.drew ?_) | (refine below_drewN ?_ _) | (refine below_at1 ?_ (by first | omega | (simp; done) | (simp; omega))) | (refine Below.setCell ?_ (by first | omega | (simp; done) | (simp; omega)) _) | (refine Below.trans ?_ (Below.mono (by assumption) (by first | omega | (simp; done) | (simp; omega)))))))⟩
  · have hbig' : ¬ (1048576 : Int) < ns.length := by omega
    go_enter Try.func6, Try.ntmps6
    go_wp2_with fail
    have hb0 : Below w.heap.size w (w.alloc (.cells #[.int .i64 f, .int .i64 b, .bool x, .bool y, .bool z] 33)) := (Below.refl _ _).alloc (Nat.le_refl _) _
    refine (toAttrB _ _ _ _ _ _).mono ?_
    rintro e w1 ⟨rfl, hb1⟩
    obtain ⟨B1, q1, r1, z1⟩ := keep_blk hb1 (g := w.heap.size) (by repeat (first | assumption | exact heap_alloc_at _ (by first | rfl | (simp; done) | omega) | refine heap_alloc_of _ ?_ | refine heap_setCell_of _ (by first | omega | (simp; done) | (simp; omega)) ?_ | refine heap_setCell_same _ ?_ | exact heap_at1_same (by first | omega | (simp; done) | (simp; omega)) | refine heap_at1_of (by first | omega | (simp; done) | (simp; omega)) ?_))
    have t1 := hb0.trans (hb1.mono (by simp))
    clear hb1
    go_wp2_with fail
    refine (toIntS_any _ _ _ _ (ha.below t1) (by omega)).mono ?_
    rintro e w2 ⟨A2, c2, rfl, _, hs2, hi2, hb2⟩
    obtain ⟨B2, q2, r2, z2⟩ := keep_blk hb2 B1
    have t2 := t1.trans (hb2.mono t1.size)
    clear B1 q1 r1
    go_wp2_with fail
    refine (sgr_spec (f, b, x, y, z) _ _ ns _ hs2 (by omega)).mono ?_
    rintro e w3 ⟨rfl, hb3⟩
    obtain ⟨B3, q3, r3, z3⟩ := keep_blk hb3 B2
    have t3 := t2.trans (hb3.mono t2.size)
    clear B2 q2 r2
    generalize HR3 : sgR (f, b, x, y, z) ns = R3
    go_wp2_with fail
    have u3 : Below w.heap.size w (w3.alloc (.cells (aC R3) 35)) := t3.alloc t3.size _
    refine (toIntS_any _ _ _ _ (ha.below u3) (by omega)).mono ?_
    rintro e w4 ⟨A4, c4, rfl, _, hs4, hi4, hb4⟩
    obtain ⟨B4, q4, r4, z4⟩ := keep_blk hb4 (g := w.heap.size) (by repeat (first | assumption | exact heap_alloc_at _ (by first | rfl | (simp; done) | omega) | refine heap_alloc_of _ ?_ | refine heap_setCell_of _ (by first | omega | (simp; done) | (simp; omega)) ?_ | refine heap_setCell_same _ ?_ | exact heap_at1_same (by first | omega | (simp; done) | (simp; omega)) | refine heap_at1_of (by first | omega | (simp; done) | (simp; omega)) ?_))
    obtain ⟨C4, qq4, rr4, zz4⟩ := keep_blk hb4 (g := w3.heap.size) (by repeat (first | assumption | exact heap_alloc_at _ (by first | rfl | (simp; done) | omega) | refine heap_alloc_of _ ?_ | refine heap_setCell_of _ (by first | omega | (simp; done) | (simp; omega)) ?_ | refine heap_setCell_same _ ?_ | exact heap_at1_same (by first | omega | (simp; done) | (simp; omega)) | refine heap_at1_of (by first | omega | (simp; done) | (simp; omega)) ?_))
    have t4 := u3.trans (hb4.mono u3.size)
    clear B3 q3 r3
    go_wp2_with fail
    refine (toAttrB _ _ _ _ _ _).mono ?_
    rintro e w5 ⟨rfl, hb5⟩
    obtain ⟨C5, qq5, rr5, zz5⟩ := keep_blk hb5 C4
    have t5 := t4.trans (hb5.mono t4.size)
    clear B4 q4 r4 C4 qq4 rr4
    go_wp2_with fail
    refine (sgr_impl (f, b, x, y, z) _ _ ns _ (hs4.below hb5) (by omega)).mono ?_
    rintro e w6 ⟨rfl, hb6⟩
    obtain ⟨C6, qq6, rr6, zz6⟩ := keep_blk hb6 C5
    have t6 := t5.trans (hb6.mono t5.size)
    clear C5 qq5 rr5
    rw [HR3]
    go_wp2_with fail
    have u6 : Below w6.heap.size w6 (w6.alloc (.cells (aC R3) 35)) := (Below.refl _ _).alloc (Nat.le_refl _) _
    refine (eqAttr_same R3 _).mono ?_
    rintro e w7 ⟨rfl, hb7'⟩
    have hb7 := u6.trans (hb7'.mono u6.size)
    have t7 := t6.trans (hb7.mono t6.size)
    go_wp2_with fail
    refine (toIntS_any _ _ _ _ (ha.below t7) (by omega)).mono ?_
    rintro e w8 ⟨A8, c8, rfl, _, hs8, hi8, hb8⟩
    go_wp2_with fail
    refine (eqIntS_same _ _ _ _ ns _ ((((hs4.below hb5).below hb6).below hb7).below hb8) hs8 (by omega)).mono ?_
    rintro e w9 ⟨rfl, m, rfl⟩
    go_wp2_with fail
    go_ret
    exact ⟨rfl, below_drewN (t7.trans (hb8.mono t7.size)) _⟩
end Go.Proofs.Ytgodpbiojekicaa
