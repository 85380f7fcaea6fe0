/- A grid copied: both ways; small functions. -/
import Derived.Test.YtnilgcahggmncaaGu
import Derived.Test.YtnilgcahggmncaaG12
import Derived.Lib.SliceRun
import Derived.Deep.RegionWith
namespace Go.Proofs.Ytnilgcahggmncaa
open Go.RowKit
set_option linter.unusedVariables false
set_option maxRecDepth 100000

abbrev bk : Cl := (32, 0, 0, false, false, false)
theorem blank_any (w : World) : Calls Try.prog 62 #[] w fun e w' => e = .returned (cV bk) ∧ Below w.heap.size w w' := by
  go_enter Try.func62, Try.ntmps62
  go_wp2_with fail
  exact bodyPost_ret (v := cV bk) (by simp [results, Try.results62, go_sem, *]) rfl ⟨rfl, (by (repeat (first | exact Below.refl _ _ | (refine Below.alloc ?_ (by first | omega | (simp; done) | (simp; omega)) _) | (refine Below.drew ?_) | (refine below_drewN ?_ _) | (refine below_at1 ?_ (by first | omega | (simp; done) | (simp; omega))) | (refine Below.setCell ?_ (by first | omega | (simp; done) | (simp; omega)) _) | (refine Below.trans ?_ (Below.mono (by assumption) (by first | omega | (simp; done) | (simp; omega)))))))⟩
theorem l07Blank_any (w : World) : Calls Try.prog 125 #[] w fun e w' => e = .returned (cV bk) ∧ Below w.heap.size w w' := by
  go_enter Try.func125, Try.ntmps125
  go_wp2_with fail
  exact bodyPost_ret (v := cV bk) (by simp [results, Try.results125, go_sem, *]) rfl ⟨rfl, (by (repeat (first | exact Below.refl _ _ | (refine Below.alloc ?_ (by first | omega | (simp; done) | (simp; omega)) _) | (refine Below.drew ?_) | (refine below_drewN ?_ _) | (refine below_at1 ?_ (by first | omega | (simp; done) | (simp; omega))) | (refine Below.setCell ?_ (by first | omega | (simp; done) | (simp; omega)) _) | (refine Below.trans ?_ (Below.mono (by assumption) (by first | omega | (simp; done) | (simp; omega)))))))⟩
theorem isPlace_any (n : Int) (w : World) : Calls Try.prog 68 #[.int .i64 n] w fun e w' => e = .returned (.bool (withinB n (-100000) 100000)) ∧ w = w' := by
  go_enter Try.func68, Try.ntmps68
  go_wp2_with (go_at_call 63; refine (within_any _ _ _ _).mono ?_; rintro e w' ⟨rfl, rfl⟩)
  go_ret
  exact ⟨rfl, rfl⟩
theorem l07Small_any (n : Int) (w : World) : Calls Try.prog 135 #[.int .i64 n] w fun e w' => e = .returned (.bool (withinB n (-100000) 100000)) ∧ w = w' := by
  go_enter Try.func135, Try.ntmps135
  go_wp2
  all_goals (go_ret; exact ⟨ret_bool (by (try rw [Bool.eq_iff_iff]); simp [withinB]; omega), rfl⟩)
theorem clone_any (A : Option Addr) (c : Nat) (cs : List Cl) (w : World) (ha : Gs w A cs) (h0 : 0 < cs.length) (hl : cs.length ≤ 1048576) :
    Calls Try.prog 121 #[.slice A cs.length c] w (CellsPost w cs) := by
  obtain ⟨b, o, rfl, hbs, x0, x1, x2, x3, x4, x5⟩ := ha.get h0
  clear x0 x1 x2 x3 x4 x5
  have hb0 : Below w.heap.size w (w.alloc (.cells #[] 44)) := (Below.refl _ _).alloc (Nat.le_refl _) _
  have q31 : ∀ (w : World) (a : Option Addr) (n c n' c' : Nat), (binOp .eql 27 (.slice a n c) (.slice none n' c')).run Try.prog w = .ok (.bool a.isNone) w := fun w a n c n' c' => Lib.run_eql_slice_nil w _ _ a n c n' c' Try.underlying27
  go_enter Try.func121, Try.ntmps121
  go_wp2_with (at_builtin; refine wp_appG rfl _ _ rfl w.heap.size _ _ [] _ _ _ cs Og.empty (ha.below hb0) h0 _ _ rfl rfl rfl rfl (by simp) hl (by simp) ?_; intro A1 c1 w1 u1 hu1 ho1 hb1)
  have e := hu1.out
  simp at e
  subst e
  go_ret
  exact ⟨_, _, rfl, ho1, ho1.gs, ho1.inB, hb0.trans hb1⟩
theorem l07Copy_any (W H : Int) (A : Option Addr) (c : Nat) (cs : List Cl) (w : World) (ha : Gs w A cs) (h0 : 0 < cs.length) (hl : cs.length ≤ 1048576) :
    Calls Try.prog 71 #[gV W H A cs.length c] w (GridPost w W H cs) := by
  have hb0 : Below w.heap.size w (((w.alloc (.cells #[.int .i64 W, .int .i64 H, .slice A cs.length c] 29)).alloc (.cells #[.int .i64 0, .int .i64 0, .slice none 0 0] 29)).alloc (.cells #[] 44)) := by (repeat (first | exact Below.refl _ _ | (refine Below.alloc ?_ (by first | omega | (simp; done) | (simp; omega)) _) | (refine Below.drew ?_) | (refine below_drewN ?_ _) | (refine below_at1 ?_ (by first | omega | (simp; done) | (simp; omega))) | (refine Below.setCell ?_ (by first | omega | (simp; done) | (simp; omega)) _) | (refine Below.trans ?_ (Below.mono (by assumption) (by first | omega | (simp; done) | (simp; omega))))))
  have hO : Og (((w.alloc (.cells #[.int .i64 W, .int .i64 H, .slice A cs.length c] 29)).alloc (.cells #[.int .i64 0, .int .i64 0, .slice none 0 0] 29)).alloc (.cells #[] 44)) (w.heap.size + 1 + 1) (some ⟨w.heap.size + 1 + 1, 0, none⟩) 0 [] := by
    have := Og.empty (w := (w.alloc (.cells #[.int .i64 W, .int .i64 H, .slice A cs.length c] 29)).alloc (.cells #[.int .i64 0, .int .i64 0, .slice none 0 0] 29))
    simpa using this
  go_enter Try.func71, Try.ntmps71
  go_wp2_with (at_builtin; refine wp_appG rfl _ _ rfl (w.heap.size + 1 + 1) _ _ [] _ _ _ cs hO (ha.below hb0) h0 _ _ rfl rfl rfl rfl (by simp) hl (by simp) ?_; intro A1 c1 w1 u1 hu1 ho1 hb1; have B1 : w1.heap[w.heap.size]? = some (.cells #[.int .i64 W, .int .i64 H, .slice A cs.length c] 29 (0, 0)) := (hb1.block _ (by omega)).trans (by repeat (first | assumption | exact heap_alloc_at _ (by first | rfl | (simp; done) | omega) | refine heap_alloc_of _ ?_ | refine heap_setCell_of _ (by first | omega | (simp; done) | (simp; omega)) ?_ | refine heap_setCell_same _ ?_ | exact heap_at1_same (by first | omega | (simp; done) | (simp; omega)) | refine heap_at1_of (by first | omega | (simp; done) | (simp; omega)) ?_)); have q1 : ∀ i, w1.cell? ⟨w.heap.size, i, none⟩ = _ := fun i => cell_of_row w1 _ i _ _ (0, 0) B1; have r1 : ∀ i, w1.frozen? ⟨w.heap.size, i, none⟩ = false := (fun i => by simp [World.frozen?, B1]); have C1 : w1.heap[w.heap.size + 1]? = some (.cells #[.int .i64 0, .int .i64 0, .slice none 0 0] 29 (0, 0)) := (hb1.block _ (by omega)).trans (by repeat (first | assumption | exact heap_alloc_at _ (by first | rfl | (simp; done) | omega) | refine heap_alloc_of _ ?_ | refine heap_setCell_of _ (by first | omega | (simp; done) | (simp; omega)) ?_ | refine heap_setCell_same _ ?_ | exact heap_at1_same (by first | omega | (simp; done) | (simp; omega)) | refine heap_at1_of (by first | omega | (simp; done) | (simp; omega)) ?_)); have qq1 : ∀ i, w1.cell? ⟨w.heap.size + 1, i, none⟩ = _ := fun i => cell_of_row w1 _ i _ _ (0, 0) C1; have rr1 : ∀ i, w1.frozen? ⟨w.heap.size + 1, i, none⟩ = false := (fun i => by simp [World.frozen?, C1]); have zz1 := (Array.getElem?_eq_some_iff.1 C1).1)
  have e := hu1.out
  simp at e
  subst e
  refine bodyPost_ret (v := gV W H A1 u1.length c1) (by simp [results, Try.results71, go_sem, *]) rfl ?_
  have ho2 := ((((ho1.setCell (p := ⟨w.heap.size, 2, none⟩) (by first | omega | (simp; done) | (simp; omega)) (.slice A1 u1.length c1)).setCell (p := ⟨w.heap.size + 1, 0, none⟩) (by first | omega | (simp; done) | (simp; omega)) (.int .i64 W)).setCell (p := ⟨w.heap.size + 1, 1, none⟩) (by first | omega | (simp; done) | (simp; omega)) (.int .i64 H)).setCell (p := ⟨w.heap.size + 1, 2, none⟩) (by first | omega | (simp; done) | (simp; omega)) (.slice A1 u1.length c1))
  exact ⟨A1, c1, rfl, ho2.mono (by first | omega | (simp; done) | (simp; omega)), ho2.gs, (ho2.mono (by first | omega | (simp; done) | (simp; omega))).inB, ((((hb0.trans (hb1.mono (by first | omega | (simp; done) | (simp; omega)))).setCell (by first | omega | (simp; done) | (simp; omega)) _).setCell (by first | omega | (simp; done) | (simp; omega)) _).setCell (by first | omega | (simp; done) | (simp; omega)) _).setCell (by first | omega | (simp; done) | (simp; omega)) _⟩
set_option maxHeartbeats 8000000 in
theorem copyGrid_any (W H : Int) (A : Option Addr) (c : Nat) (cs : List Cl) (w : World) (ha : Gs w A cs) (h0 : 0 < cs.length) (hl : cs.length ≤ 1048576) :
    Calls Try.prog 61 #[gV W H A cs.length c] w (GridPost w W H cs) := by
  have hb0 : Below w.heap.size w ((w.alloc (.cells #[.int .i64 W, .int .i64 H, .slice A cs.length c] 29)).alloc (.cells #[.int .i64 0, .int .i64 0, .slice none 0 0] 29)).drew := by (repeat (first | exact Below.refl _ _ | (refine Below.alloc ?_ (by first | omega | (simp; done) | (simp; omega)) _) | (refine Below.drew ?_) | (refine below_drewN ?_ _) | (refine below_at1 ?_ (by first | omega | (simp; done) | (simp; omega))) | (refine Below.setCell ?_ (by first | omega | (simp; done) | (simp; omega)) _) | (refine Below.trans ?_ (Below.mono (by assumption) (by first | omega | (simp; done) | (simp; omega))))))
  go_enter Try.func61, Try.ntmps61
  go_wp2_with fail
  go_region_with (go_at_call 121; refine (clone_any _ _ cs _ (ha.below hb0) h0 hl).mono ?_; rintro e w1 ⟨A1, c1, rfl, ho1, hs1, hi1, hb1⟩; obtain ⟨B1, q1, r1, z1⟩ := keep_blk hb1 (g := w.heap.size) (heap_alloc_of _ (heap_alloc_at _ rfl)); obtain ⟨C1, qq1, rr1, zz1⟩ := keep_blk hb1 (g := w.heap.size + 1) (heap_alloc_at _ (by simp)))
  all_goals (
    go_wp2_with fail
    have ho2 := (((ho1.setCell (p := ⟨w.heap.size + 1, 0, none⟩) (by first | omega | (simp; done) | (simp; omega)) (.int .i64 W)).setCell (p := ⟨w.heap.size + 1, 1, none⟩) (by first | omega | (simp; done) | (simp; omega)) (.int .i64 H)).setCell (p := ⟨w.heap.size + 1, 2, none⟩) (by first | omega | (simp; done) | (simp; omega)) (.slice A1 cs.length c1))
    refine bodyPost_ret (v := gV W H A1 cs.length c1) (by simp [results, Try.results61, go_sem, *]) rfl ?_
    exact ⟨A1, c1, rfl, ho2.mono (by first | omega | (simp; done) | (simp; omega)), ho2.gs, (ho2.mono (by first | omega | (simp; done) | (simp; omega))).inB, (((hb0.trans (hb1.mono (by first | omega | (simp; done) | (simp; omega)))).setCell (by first | omega | (simp; done) | (simp; omega)) _).setCell (by first | omega | (simp; done) | (simp; omega)) _).setCell (by first | omega | (simp; done) | (simp; omega)) _⟩)
end Go.Proofs.Ytnilgcahggmncaa
