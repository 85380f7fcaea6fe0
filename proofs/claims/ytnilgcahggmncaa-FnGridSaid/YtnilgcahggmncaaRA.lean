/- Small functions of one number or one attribute. -/
import Derived.Test.YtnilgcahggmncaaRows
import Derived.Test.YtnilgcahggmncaaBase
import Derived.WalkKit
import Derived.Handy
import Derived.WalkSpells
import Derived.WalkLawsBesides
import Derived.BigQuiet
import Derived.Deep.QuietTactic
namespace Go.Proofs.Ytnilgcahggmncaa
open Go.RowKit
set_option linter.unusedVariables false
set_option maxRecDepth 100000

def withinB (n lo hi : Int) : Bool := decide (lo ≤ n ∧ n ≤ hi)
def attrOkB (f b : Int) : Bool := decide (0 ≤ f ∧ f ≤ 8 ∧ 0 ≤ b ∧ b ≤ 8)
def showsB (n : Int) : Bool := decide (32 ≤ n ∧ n ≤ 126 ∨ 160 ≤ n ∧ n ≤ 65535 ∧ ¬ (55296 ≤ n ∧ n ≤ 57343))
theorem cellsInt : Try.prog.cellsOf 3 = 1 := by kernel_rfl
theorem cellsBool : Try.prog.cellsOf 4 = 1 := by kernel_rfl
theorem cellsAttrL : Try.prog.cellsOf 55 = 5 := by kernel_rfl
theorem cellsCellL : Try.prog.cellsOf 121 = 6 := by kernel_rfl

theorem rd_AttrL {w : World} {cs : List Value} (h : Rd Try.prog w 55 cs) : ∃ (f b : Int) (x y z : Bool), cs = [.int .i64 f, .int .i64 b, .bool x, .bool y, .bool z] := by
  obtain ⟨hl, hf⟩ := h.struct Try.underlying55
  match cs, hl.trans cellsAttrL with
  | [c0, c1, c2, c3, c4], _ =>
    obtain ⟨f, e0, _⟩ := (hf 0 _ rfl).int Try.underlying3
    obtain ⟨b, e1, _⟩ := (hf 1 _ rfl).int Try.underlying3
    obtain ⟨x, e2⟩ := (hf 2 _ rfl).bool Try.underlying4
    obtain ⟨y, e3⟩ := (hf 3 _ rfl).bool Try.underlying4
    obtain ⟨z, e4⟩ := (hf 4 _ rfl).bool Try.underlying4
    simp [cellsInt, cellsBool] at e0 e1 e2 e3 e4
    exact ⟨f, b, x, y, z, by rw [e0, e1, e2, e3, e4]⟩
theorem rd_CellL {w : World} {cs : List Value} (h : Rd Try.prog w 121 cs) : ∃ (r f b : Int) (x y z : Bool), cs = [.int .i64 r, .int .i64 f, .int .i64 b, .bool x, .bool y, .bool z] := by
  obtain ⟨hl, hf⟩ := h.struct Try.underlying121
  match cs, hl.trans cellsCellL with
  | [c0, c1, c2, c3, c4, c5], _ =>
    obtain ⟨r, e0, _⟩ := (hf 0 _ rfl).int Try.underlying3
    obtain ⟨f, b, x, y, z, e1⟩ := rd_AttrL (hf 1 _ rfl)
    simp [cellsInt, cellsAttrL] at e0 e1
    obtain ⟨e1, e2, e3, e4, e5⟩ := e1
    exact ⟨r, f, b, x, y, z, by rw [e0, e1, e2, e3, e4, e5]⟩

theorem within_any (n lo hi : Int) (w : World) :
    Calls Try.prog 63 #[.int .i64 n, .int .i64 lo, .int .i64 hi] w fun e w' => e = .returned (.bool (withinB n lo hi)) ∧ w = w' := by
  go_enter Try.func63, Try.ntmps63
  go_wp2
  all_goals (go_ret; exact ⟨ret_bool (by (try rw [Bool.eq_iff_iff]); simp [withinB]; omega), rfl⟩)

theorem shows_spec (n : Int) (w : World) :
    Calls Try.prog 107 #[.int .i64 n] w fun e w' => e = .returned (.bool (showsB n)) ∧ w = w' := by
  go_enter Try.func107, Try.ntmps107
  go_wp2
  all_goals (go_ret; exact ⟨ret_bool (by (try rw [Bool.eq_iff_iff]); simp [showsB]; omega), rfl⟩)

theorem shows_impl (n : Int) (w : World) :
    Calls Try.prog 110 #[.int .i64 n] w fun e w' => e = .returned (.bool (showsB n)) ∧ w = w' := by
  go_enter Try.func110, Try.ntmps110
  go_wp2_with (go_at_call 63; refine (within_any _ _ _ _).mono ?_; rintro e w' ⟨rfl, rfl⟩)
  all_goals (go_ret; exact ⟨ret_bool (by (try rw [Bool.eq_iff_iff]); simp_all [showsB, withinB]; try omega), rfl⟩)

theorem toAttr_any (f b : Int) (x y z : Bool) (w : World) :
    Calls Try.prog 85 #[.agg #[.int .i64 f, .int .i64 b, .bool x, .bool y, .bool z]] w fun e w' => e = .returned (.agg #[.int .i64 f, .int .i64 b, .bool x, .bool y, .bool z]) ∧
      ((w.alloc (.cells #[.int .i64 f, .int .i64 b, .bool x, .bool y, .bool z] 55)).alloc (.cells #[.int .i64 f, .int .i64 b, .bool x, .bool y, .bool z] 42)).alloc (.cells #[.int .i64 f, .int .i64 b, .bool x, .bool y, .bool z] 42) = w' := by
  go_enter Try.func85, Try.ntmps85
  go_wp2
  exact bodyPost_ret (v := .agg #[.int .i64 f, .int .i64 b, .bool x, .bool y, .bool z]) (by simp [results, Try.results85, go_sem]) rfl ⟨rfl, rfl⟩

theorem toCell_any (r f b : Int) (x y z : Bool) (w : World) :
    Calls Try.prog 115 #[.agg #[.int .i64 r, .int .i64 f, .int .i64 b, .bool x, .bool y, .bool z]] w fun e w' => e = .returned (.agg #[.int .i64 r, .int .i64 f, .int .i64 b, .bool x, .bool y, .bool z]) ∧
      Below w.heap.size w w' := by
  go_enter Try.func115, Try.ntmps115
  go_wp2_with (go_at_call 85; refine (toAttr_any _ _ _ _ _ _).mono ?_; rintro e w1 ⟨rfl, rfl⟩)
  exact bodyPost_ret (v := .agg #[.int .i64 r, .int .i64 f, .int .i64 b, .bool x, .bool y, .bool z]) (by simp [results, Try.results115, go_sem]) rfl ⟨rfl, (by (repeat (first | exact Below.refl _ _ | (refine Below.alloc ?_ (by first | omega | (simp; done) | (simp; omega)) _) | (refine Below.drew ?_) | (refine below_drewN ?_ _) | (refine below_at1 ?_ (by first | omega | (simp; done) | (simp; omega))) | (refine Below.setCell ?_ (by first | omega | (simp; done) | (simp; omega)) _) | (refine Below.trans ?_ (Below.mono (by assumption) (by first | omega | (simp; done) | (simp; omega)))))))⟩

theorem attrOk_spec (f b : Int) (x y z : Bool) (w : World) :
    Calls Try.prog 83 #[.agg #[.int .i64 f, .int .i64 b, .bool x, .bool y, .bool z]] w fun e w' => e = .returned (.bool (attrOkB f b)) ∧ ∃ o : Obj, w.alloc o = w' := by
  go_enter Try.func83, Try.ntmps83
  go_wp2
  all_goals (go_ret; exact ⟨ret_bool (by (try rw [Bool.eq_iff_iff]); simp_all [attrOkB]; try omega), _, rfl⟩)

theorem attrOk_impl (f b : Int) (x y z : Bool) (w : World) :
    Calls Try.prog 88 #[.agg #[.int .i64 f, .int .i64 b, .bool x, .bool y, .bool z]] w fun e w' => e = .returned (.bool (attrOkB f b)) ∧ ∃ o : Obj, w.alloc o = w' := by
  go_enter Try.func88, Try.ntmps88
  go_wp2_with (go_at_call 63; refine (within_any _ _ _ _).mono ?_; rintro e w' ⟨rfl, rfl⟩)
  all_goals (go_ret; exact ⟨ret_bool (by (try rw [Bool.eq_iff_iff]); simp_all [attrOkB, withinB]; try omega), _, rfl⟩)

theorem cellOk_spec (r f b : Int) (x y z : Bool) (w : World) :
    Calls Try.prog 114 #[.agg #[.int .i64 r, .int .i64 f, .int .i64 b, .bool x, .bool y, .bool z]] w fun e w' => e = .returned (.bool (showsB r && attrOkB f b)) ∧ Below w.heap.size w w' := by
  go_enter Try.func114, Try.ntmps114
  go_wp2_with (first | (go_at_call 107; refine (shows_spec _ _).mono ?_; rintro e w' ⟨rfl, rfl⟩) | (go_at_call 83; refine (attrOk_spec _ _ _ _ _ _).mono ?_; rintro e w' ⟨rfl, o, rfl⟩))
  all_goals (go_ret; exact ⟨ret_bool (by simp_all), (by (repeat (first | exact Below.refl _ _ | (refine Below.alloc ?_ (by first | omega | (simp; done) | (simp; omega)) _) | (refine Below.drew ?_) | (refine below_drewN ?_ _) | (refine below_at1 ?_ (by first | omega | (simp; done) | (simp; omega))) | (refine Below.setCell ?_ (by first | omega | (simp; done) | (simp; omega)) _) | (refine Below.trans ?_ (Below.mono (by assumption) (by first | omega | (simp; done) | (simp; omega)))))))⟩)

theorem cellOk_impl (r f b : Int) (x y z : Bool) (w : World) :
    Calls Try.prog 124 #[.agg #[.int .i64 r, .int .i64 f, .int .i64 b, .bool x, .bool y, .bool z]] w fun e w' => e = .returned (.bool (showsB r && attrOkB f b)) ∧ Below w.heap.size w w' := by
  go_enter Try.func124, Try.ntmps124
  go_wp2_with (first | (go_at_call 110; refine (shows_impl _ _).mono ?_; rintro e w' ⟨rfl, rfl⟩) | (go_at_call 88; refine (attrOk_impl _ _ _ _ _ _).mono ?_; rintro e w' ⟨rfl, o, rfl⟩))
  all_goals (go_ret; exact ⟨ret_bool (by simp_all), (by (repeat (first | exact Below.refl _ _ | (refine Below.alloc ?_ (by first | omega | (simp; done) | (simp; omega)) _) | (refine Below.drew ?_) | (refine below_drewN ?_ _) | (refine below_at1 ?_ (by first | omega | (simp; done) | (simp; omega))) | (refine Below.setCell ?_ (by first | omega | (simp; done) | (simp; omega)) _) | (refine Below.trans ?_ (Below.mono (by assumption) (by first | omega | (simp; done) | (simp; omega)))))))⟩)

end Go.Proofs.Ytnilgcahggmncaa
