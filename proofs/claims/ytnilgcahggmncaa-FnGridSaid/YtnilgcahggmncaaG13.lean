/- Two grids compared: both ways, and the law. -/
import Derived.Test.YtnilgcahggmncaaG12b
namespace Go.Proofs.Ytnilgcahggmncaa
open Go.RowKit
set_option linter.unusedVariables false
set_option maxRecDepth 100000

theorem same_no {W H W' H' : Int} {cs ds : List Cl} (h : ¬ (W = W' ∧ H = H' ∧ cs = ds)) : sameB W H W' H' cs ds = false := decide_eq_false h
theorem same_eq {W H : Int} {cs ds : List Cl} : sameB W H W H cs ds = decide (cs = ds) := by simp [sameB]
set_option maxHeartbeats 1000000 in
theorem sameGrid_impl (W H W' H' : Int) (A A' : Option Addr) (c c' : Nat) (cs ds : List Cl) (w : World) (ha : Gs w A cs) (hb : Gs w A' ds) (h1 : cs.length ≤ 1048576) (h2 : ds.length ≤ 1048576) :
    Calls Try.prog 24 #[gV W H A cs.length c, gV W' H' A' ds.length c'] w fun e w' => e = .returned (.bool (sameB W H W' H' cs ds)) ∧ Below w.heap.size w w' := by
  by_cases e1 : W = W'
  · subst e1
    by_cases e2 : H = H'
    · subst e2
      have HR := Lib.hid (same_eq (W := W) (H := H) (cs := cs) (ds := ds))
      go_enter Try.func24, Try.ntmps24
      go_wp2_with fail
      have hb0 : Below w.heap.size w ((w.alloc (.cells #[.int .i64 W, .int .i64 H, .slice A cs.length c] 29)).alloc (.cells #[.int .i64 W, .int .i64 H, .slice A' ds.length c'] 29)) := by (repeat (first | exact Below.refl _ _ | (refine Below.alloc ?_ (by first | omega | (simp; done) | (simp; omega)) _) | (refine Below.drew ?_) | (refine below_drewN ?_ _) | (refine below_at1 ?_ (by first | omega | (simp; done) | (simp; omega))) | (refine Below.setCell ?_ (by first | omega | (simp; done) | (simp; omega)) _) | (refine Below.trans ?_ (Below.mono (by assumption) (by first | omega | (simp; done) | (simp; omega))))))
      refine (seqCells_any _ _ _ _ cs ds _ (ha.below hb0) (hb.below hb0) (by omega) (by omega)).mono ?_
      rintro e w1 ⟨rfl, m, rfl⟩
      go_wp2_with fail
      go_ret
      exact ⟨ret_bool HR.out.symm, below_drewN hb0 _⟩
    · have hq : (H == H') = false := by simpa using e2
      have HR := Lib.hid (same_no (cs := cs) (ds := ds) (W := W) (W' := W) (fun h => e2 h.2.1))
      clear e2
      go_enter Try.func24, Try.ntmps24
      go_wp2_with fail
      go_ret
      exact ⟨ret_bool HR.out.symm, (by (repeat (first | exact Below.refl _ _ | (refine Below.alloc ?_ (by first | omega | (simp; done) | (simp; omega)) _) | (refine Below.drew ?_) | (refine below_drewN ?_ _) | (refine below_at1 ?_ (by first | omega | (simp; done) | (simp; omega))) | (refine Below.setCell ?_ (by first | omega | (simp; done) | (simp; omega)) _) | (refine Below.trans ?_ (Below.mono (by assumption) (by first | omega | (simp; done) | (simp; omega)))))))⟩
  · have hq : (W == W') = false := by simpa using e1
    have HR := Lib.hid (same_no (H := H) (H' := H') (cs := cs) (ds := ds) (fun h => e1 h.1))
    clear e1
    go_enter Try.func24, Try.ntmps24
    go_wp2_with fail
    go_ret
    exact ⟨ret_bool HR.out.symm, (by (repeat (first | exact Below.refl _ _ | (refine Below.alloc ?_ (by first | omega | (simp; done) | (simp; omega)) _) | (refine Below.drew ?_) | (refine below_drewN ?_ _) | (refine below_at1 ?_ (by first | omega | (simp; done) | (simp; omega))) | (refine Below.setCell ?_ (by first | omega | (simp; done) | (simp; omega)) _) | (refine Below.trans ?_ (Below.mono (by assumption) (by first | omega | (simp; done) | (simp; omega)))))))⟩
end Go.Proofs.Ytnilgcahggmncaa
