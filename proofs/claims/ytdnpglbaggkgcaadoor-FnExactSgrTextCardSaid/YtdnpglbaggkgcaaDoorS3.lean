/- The law of SgrText. -/
import Derived.Test.YtdnpglbaggkgcaaDoorS2
namespace Go.Proofs.YtdnpglbaggkgcaaDoor
open Go.RowKit Go.Lib
set_option linter.unusedVariables false
set_option maxRecDepth 100000

theorem ld_FnExactSgrText {w : World} (h : laidMetH Tryd.prog Rows.fnExactSgrTextRow.laid w) : Tb w := by
  rw [MakeChecks.laidMetH_plain _ _ _ (by kernel_rfl)] at h
  exact tb_met h
set_option maxHeartbeats 2000000 in
theorem walk_FnExactSgrText (cs : List Value) (w : World) (h : Rd Tryd.prog w 32 cs) (ht : Tb w) :
    Calls Tryd.prog 9 #[.agg cs.toArray] w fun e w' => e = .returned (.bool true) ∧ Below w.heap.size w w' := by
  obtain ⟨f, b, x, y, z, rfl⟩ := rd_AttrL h
  clear h
  go_enter Tryd.func9, Tryd.ntmps9
  go_wp2_with (first
    | (go_at_call 26; refine (toAttr_any _ _ _ _ _ _).mono ?_; rintro e w1 ⟨rfl, rfl⟩)
    | (go_at_call 25; refine (sgrText_spec f b x y z _).mono ?_; rintro e w2 ⟨rfl, hb2⟩; obtain ⟨B2, q2, r2, y2⟩ := keep_blk hb2 (g := w.heap.size) (by repeat (first | assumption | exact heap_alloc_at _ (by first | rfl | (simp; done) | omega) | refine heap_alloc_of _ ?_ | refine heap_setCell_of _ (by first | omega | (simp; done) | (simp; omega)) ?_ | refine heap_setCell_same _ ?_ | exact heap_at1_same (by first | omega | (simp; done) | (simp; omega)) | refine heap_at1_of (by first | omega | (simp; done) | (simp; omega)) ?_)); have t2 : Below w.heap.size w w2 := Below.trans (by (repeat (first | exact Below.refl _ _ | (refine Below.alloc ?_ (by first | omega | (simp; done) | (simp; omega)) _) | (refine Below.drew ?_) | (refine below_drewN ?_ _) | (refine below_at1 ?_ (by first | omega | (simp; done) | (simp; omega))) | (refine Below.setCell ?_ (by first | omega | (simp; done) | (simp; omega)) _) | (refine Below.trans ?_ (Below.mono (by assumption) (by first | omega | (simp; done) | (simp; omega))))))) (hb2.mono (by simp; omega)))
    | (go_at_call 27; refine (sgrText_impl f b x y z _ (ht.below (show Below w.heap.size w _ by (repeat (first | exact Below.refl _ _ | (refine Below.alloc ?_ (by first | omega | (simp; done) | (simp; omega)) _) | (refine Below.drew ?_) | (refine below_drewN ?_ _) | (refine below_at1 ?_ (by first | omega | (simp; done) | (simp; omega))) | (refine Below.setCell ?_ (by first | omega | (simp; done) | (simp; omega)) _) | (refine Below.trans ?_ (Below.mono (by assumption) (by first | omega | (simp; done) | (simp; omega))))))) (Nat.le_refl _))).mono ?_; rintro e w3 ⟨rfl, hb3⟩; have t3 : Below w.heap.size w w3 := Below.trans (show Below w.heap.size w _ by (repeat (first | exact Below.refl _ _ | (refine Below.alloc ?_ (by first | omega | (simp; done) | (simp; omega)) _) | (refine Below.drew ?_) | (refine below_drewN ?_ _) | (refine below_at1 ?_ (by first | omega | (simp; done) | (simp; omega))) | (refine Below.setCell ?_ (by first | omega | (simp; done) | (simp; omega)) _) | (refine Below.trans ?_ (Below.mono (by assumption) (by first | omega | (simp; done) | (simp; omega))))))) (hb3.mono (by simp; omega))))
  go_ret
  exact ⟨rfl, t3⟩
end Go.Proofs.YtdnpglbaggkgcaaDoor
