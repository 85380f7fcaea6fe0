/- An attribute: read, made over, asked. -/
import Derived.Test.YtdnpglbaggkgcaaDoorT3
import Derived.WalkSpells
import Derived.BigQuiet
namespace Go.Proofs.YtdnpglbaggkgcaaDoor
open Go.RowKit
set_option linter.unusedVariables false
set_option maxRecDepth 100000

def attrOkB (f b : Int) : Bool := decide (0 ≤ f ∧ f ≤ 8 ∧ 0 ≤ b ∧ b ≤ 8)
theorem cellsInt : Tryd.prog.cellsOf 3 = 1 := by kernel_rfl
theorem cellsBool : Tryd.prog.cellsOf 4 = 1 := by kernel_rfl
theorem cellsAttrL : Tryd.prog.cellsOf 32 = 5 := by kernel_rfl
theorem rd_AttrL {w : World} {cs : List Value} (h : Rd Tryd.prog w 32 cs) : ∃ (f b : Int) (x y z : Bool), cs = [.int .i64 f, .int .i64 b, .bool x, .bool y, .bool z] := by
  obtain ⟨hl, hf⟩ := h.struct Tryd.underlying32
  match cs, hl.trans cellsAttrL with
  | [c0, c1, c2, c3, c4], _ =>
    obtain ⟨f, e0, _⟩ := (hf 0 _ rfl).int Tryd.underlying3
    obtain ⟨b, e1, _⟩ := (hf 1 _ rfl).int Tryd.underlying3
    obtain ⟨x, e2⟩ := (hf 2 _ rfl).bool Tryd.underlying4
    obtain ⟨y, e3⟩ := (hf 3 _ rfl).bool Tryd.underlying4
    obtain ⟨z, e4⟩ := (hf 4 _ rfl).bool Tryd.underlying4
    simp [cellsInt, cellsBool] at e0 e1 e2 e3 e4
    exact ⟨f, b, x, y, z, by rw [e0, e1, e2, e3, e4]⟩

theorem toAttr_any (f b : Int) (x y z : Bool) (w : World) :
    Calls Tryd.prog 26 #[.agg #[.int .i64 f, .int .i64 b, .bool x, .bool y, .bool z]] w fun e w' => e = .returned (.agg #[.int .i64 f, .int .i64 b, .bool x, .bool y, .bool z]) ∧
      ((w.alloc (.cells #[.int .i64 f, .int .i64 b, .bool x, .bool y, .bool z] 32)).alloc (.cells #[.int .i64 f, .int .i64 b, .bool x, .bool y, .bool z] 34)).alloc (.cells #[.int .i64 f, .int .i64 b, .bool x, .bool y, .bool z] 34) = w' := by
  go_enter Tryd.func26, Tryd.ntmps26
  go_wp2
  exact bodyPost_ret (v := .agg #[.int .i64 f, .int .i64 b, .bool x, .bool y, .bool z]) (by simp [results, Tryd.results26, go_sem]) rfl ⟨rfl, rfl⟩

theorem attrOk_spec (f b : Int) (x y z : Bool) (w : World) :
    Calls Tryd.prog 37 #[.agg #[.int .i64 f, .int .i64 b, .bool x, .bool y, .bool z]] w fun e w' => e = .returned (.bool (attrOkB f b)) ∧ ∃ o : Obj, w.alloc o = w' := by
  go_enter Tryd.func37, Tryd.ntmps37
  go_wp2
  all_goals (go_ret; exact ⟨ret_bool (by (try rw [Bool.eq_iff_iff]); simp_all [attrOkB]; try omega), _, rfl⟩)

theorem attrOk_impl (f b : Int) (x y z : Bool) (w : World) :
    Calls Tryd.prog 38 #[.agg #[.int .i64 f, .int .i64 b, .bool x, .bool y, .bool z]] w fun e w' => e = .returned (.bool (attrOkB f b)) ∧ ∃ o : Obj, w.alloc o = w' := by
  go_enter Tryd.func38, Tryd.ntmps38
  go_wp2_with (go_at_call 39; refine (within_any _ _ _ _).mono ?_; rintro e w' ⟨rfl, rfl⟩)
  all_goals (go_ret; exact ⟨ret_bool (by (try rw [Bool.eq_iff_iff]); simp_all [attrOkB]; try omega), _, rfl⟩)

end Go.Proofs.YtdnpglbaggkgcaaDoor
