/- Small functions of one number or one attribute. -/
import Derived.Test.YtdmhmelmoobekaaRows
import Derived.Test.YtdmhmelmoobekaaBase
import Derived.WalkKit
import Derived.Handy
import Derived.WalkSpells
import Derived.WalkLawsBesides
import Derived.BigQuiet
import Derived.Deep.QuietTactic
namespace Go.Proofs.Ytdmhmelmoobekaa
open Go.RowKit
set_option linter.unusedVariables false
set_option maxRecDepth 100000

def withinB (n lo hi : Int) : Bool := decide (lo ≤ n ∧ n ≤ hi)
def attrOkB (f b : Int) : Bool := decide (0 ≤ f ∧ f ≤ 8 ∧ 0 ≤ b ∧ b ≤ 8)
def showsB (n : Int) : Bool := decide (32 ≤ n ∧ n ≤ 126 ∨ 160 ≤ n ∧ n ≤ 65535 ∧ ¬ (55296 ≤ n ∧ n ≤ 57343))
theorem cellsInt : Try.prog.cellsOf 3 = 1 := by kernel_rfl
theorem cellsBool : Try.prog.cellsOf 4 = 1 := by kernel_rfl
theorem cellsAttrL : Try.prog.cellsOf 60 = 5 := by kernel_rfl
theorem cellsCellL : Try.prog.cellsOf 62 = 6 := by kernel_rfl

theorem rd_AttrL {w : World} {cs : List Value} (h : Rd Try.prog w 60 cs) : ∃ (f b : Int) (x y z : Bool), cs = [.int .i64 f, .int .i64 b, .bool x, .bool y, .bool z] := by
  obtain ⟨hl, hf⟩ := h.struct Try.underlying60
  match cs, hl.trans cellsAttrL with
  | [c0, c1, c2, c3, c4], _ =>
    obtain ⟨f, e0, _⟩ := (hf 0 _ rfl).int Try.underlying3
    obtain ⟨b, e1, _⟩ := (hf 1 _ rfl).int Try.underlying3
    obtain ⟨x, e2⟩ := (hf 2 _ rfl).bool Try.underlying4
    obtain ⟨y, e3⟩ := (hf 3 _ rfl).bool Try.underlying4
    obtain ⟨z, e4⟩ := (hf 4 _ rfl).bool Try.underlying4
    simp [cellsInt, cellsBool] at e0 e1 e2 e3 e4
    exact ⟨f, b, x, y, z, by rw [e0, e1, e2, e3, e4]⟩
theorem rd_CellL {w : World} {cs : List Value} (h : Rd Try.prog w 62 cs) : ∃ (r f b : Int) (x y z : Bool), cs = [.int .i64 r, .int .i64 f, .int .i64 b, .bool x, .bool y, .bool z] := by
  obtain ⟨hl, hf⟩ := h.struct Try.underlying62
  match cs, hl.trans cellsCellL with
  | [c0, c1, c2, c3, c4, c5], _ =>
    obtain ⟨r, e0, _⟩ := (hf 0 _ rfl).int Try.underlying3
    obtain ⟨f, b, x, y, z, e1⟩ := rd_AttrL (hf 1 _ rfl)
    simp [cellsInt, cellsAttrL] at e0 e1
    obtain ⟨e1, e2, e3, e4, e5⟩ := e1
    exact ⟨r, f, b, x, y, z, by rw [e0, e1, e2, e3, e4, e5]⟩

theorem within_any (n lo hi : Int) (w : World) :
    Calls Try.prog 86 #[.int .i64 n, .int .i64 lo, .int .i64 hi] w fun e w' => e = .returned (.bool (withinB n lo hi)) ∧ w = w' := by
  go_enter Try.func86, Try.ntmps86
  go_wp2
  all_goals (go_ret; exact ⟨ret_bool (by (try rw [Bool.eq_iff_iff]); simp [withinB]; omega), rfl⟩)

theorem shows_spec (n : Int) (w : World) :
    Calls Try.prog 113 #[.int .i64 n] w fun e w' => e = .returned (.bool (showsB n)) ∧ w = w' := by
  go_enter Try.func113, Try.ntmps113
  go_wp2
  all_goals (go_ret; exact ⟨ret_bool (by (try rw [Bool.eq_iff_iff]); simp [showsB]; omega), rfl⟩)

theorem shows_impl (n : Int) (w : World) :
    Calls Try.prog 117 #[.int .i64 n] w fun e w' => e = .returned (.bool (showsB n)) ∧ w = w' := by
  go_enter Try.func117, Try.ntmps117
  go_wp2_with (go_at_call 86; refine (within_any _ _ _ _).mono ?_; rintro e w' ⟨rfl, rfl⟩)
  all_goals (go_ret; exact ⟨ret_bool (by (try rw [Bool.eq_iff_iff]); simp_all [showsB, withinB]; try omega), rfl⟩)

theorem toAttr_any (f b : Int) (x y z : Bool) (w : World) :
    Calls Try.prog 94 #[.agg #[.int .i64 f, .int .i64 b, .bool x, .bool y, .bool z]] w fun e w' => e = .returned (.agg #[.int .i64 f, .int .i64 b, .bool x, .bool y, .bool z]) ∧
      ((w.alloc (.cells #[.int .i64 f, .int .i64 b, .bool x, .bool y, .bool z] 60)).alloc (.cells #[.int .i64 f, .int .i64 b, .bool x, .bool y, .bool z] 27)).alloc (.cells #[.int .i64 f, .int .i64 b, .bool x, .bool y, .bool z] 27) = w' := by
  go_enter Try.func94, Try.ntmps94
  go_wp2
  exact bodyPost_ret (v := .agg #[.int .i64 f, .int .i64 b, .bool x, .bool y, .bool z]) (by simp [results, Try.results94, go_sem]) rfl ⟨rfl, rfl⟩

theorem toCell_any (r f b : Int) (x y z : Bool) (w : World) :
    Calls Try.prog 40 #[.agg #[.int .i64 r, .int .i64 f, .int .i64 b, .bool x, .bool y, .bool z]] w fun e w' => e = .returned (.agg #[.int .i64 r, .int .i64 f, .int .i64 b, .bool x, .bool y, .bool z]) ∧
      Below w.heap.size w w' := by
  go_enter Try.func40, Try.ntmps40
  go_wp2_with (go_at_call 94; refine (toAttr_any _ _ _ _ _ _).mono ?_; rintro e w1 ⟨rfl, rfl⟩)
  exact bodyPost_ret (v := .agg #[.int .i64 r, .int .i64 f, .int .i64 b, .bool x, .bool y, .bool z]) (by simp [results, Try.results40, go_sem]) rfl ⟨rfl, (by (repeat (first | exact Below.refl _ _ | (refine Below.alloc ?_ (by first | omega | (simp; done) | (simp; omega)) _) | (refine Below.drew ?_) | (refine below_drewN ?_ _) | (refine below_at1 ?_ (by first | omega | (simp; done) | (simp; omega))) | (refine Below.setCell ?_ (by first | omega | (simp; done) | (simp; omega)) _) | (refine Below.trans ?_ (Below.mono (by assumption) (by first | omega | (simp; done) | (simp; omega)))))))⟩

theorem attrOk_spec (f b : Int) (x y z : Bool) (w : World) :
    Calls Try.prog 104 #[.agg #[.int .i64 f, .int .i64 b, .bool x, .bool y, .bool z]] w fun e w' => e = .returned (.bool (attrOkB f b)) ∧ ∃ o : Obj, w.alloc o = w' := by
  go_enter Try.func104, Try.ntmps104
  go_wp2
  all_goals (go_ret; exact ⟨ret_bool (by (try rw [Bool.eq_iff_iff]); simp_all [attrOkB]; try omega), _, rfl⟩)

theorem attrOk_impl (f b : Int) (x y z : Bool) (w : World) :
    Calls Try.prog 107 #[.agg #[.int .i64 f, .int .i64 b, .bool x, .bool y, .bool z]] w fun e w' => e = .returned (.bool (attrOkB f b)) ∧ ∃ o : Obj, w.alloc o = w' := by
  go_enter Try.func107, Try.ntmps107
  go_wp2_with (go_at_call 86; refine (within_any _ _ _ _).mono ?_; rintro e w' ⟨rfl, rfl⟩)
  all_goals (go_ret; exact ⟨ret_bool (by (try rw [Bool.eq_iff_iff]); simp_all [attrOkB, withinB]; try omega), _, rfl⟩)

theorem cellOk_spec (r f b : Int) (x y z : Bool) (w : World) :
    Calls Try.prog 91 #[.agg #[.int .i64 r, .int .i64 f, .int .i64 b, .bool x, .bool y, .bool z]] w fun e w' => e = .returned (.bool (showsB r && attrOkB f b)) ∧ Below w.heap.size w w' := by
  go_enter Try.func91, Try.ntmps91
  go_wp2_with (first | (go_at_call 113; refine (shows_spec _ _).mono ?_; rintro e w' ⟨rfl, rfl⟩) | (go_at_call 104; refine (attrOk_spec _ _ _ _ _ _).mono ?_; rintro e w' ⟨rfl, o, rfl⟩))
  all_goals (go_ret; exact ⟨ret_bool (by simp_all), (by (repeat (first | exact Below.refl _ _ | (refine Below.alloc ?_ (by first | omega | (simp; done) | (simp; omega)) _) | (refine Below.drew ?_) | (refine below_drewN ?_ _) | (refine below_at1 ?_ (by first | omega | (simp; done) | (simp; omega))) | (refine Below.setCell ?_ (by first | omega | (simp; done) | (simp; omega)) _) | (refine Below.trans ?_ (Below.mono (by assumption) (by first | omega | (simp; done) | (simp; omega)))))))⟩)

theorem cellOk_impl (r f b : Int) (x y z : Bool) (w : World) :
    Calls Try.prog 95 #[.agg #[.int .i64 r, .int .i64 f, .int .i64 b, .bool x, .bool y, .bool z]] w fun e w' => e = .returned (.bool (showsB r && attrOkB f b)) ∧ Below w.heap.size w w' := by
  go_enter Try.func95, Try.ntmps95
  go_wp2_with (first | (go_at_call 117; refine (shows_impl _ _).mono ?_; rintro e w' ⟨rfl, rfl⟩) | (go_at_call 107; refine (attrOk_impl _ _ _ _ _ _).mono ?_; rintro e w' ⟨rfl, o, rfl⟩))
  all_goals (go_ret; exact ⟨ret_bool (by simp_all), (by (repeat (first | exact Below.refl _ _ | (refine Below.alloc ?_ (by first | omega | (simp; done) | (simp; omega)) _) | (refine Below.drew ?_) | (refine below_drewN ?_ _) | (refine below_at1 ?_ (by first | omega | (simp; done) | (simp; omega))) | (refine Below.setCell ?_ (by first | omega | (simp; done) | (simp; omega)) _) | (refine Below.trans ?_ (Below.mono (by assumption) (by first | omega | (simp; done) | (simp; omega)))))))⟩)

end Go.Proofs.Ytdmhmelmoobekaa
