/- The law of TextNum. -/
import Derived.Test.YtbaojeiinjjlcaaDoorT5
namespace Go.Proofs.YtbaojeiinjjlcaaDoor
open Go.RowKit Go.Lib
set_option linter.unusedVariables false
set_option maxRecDepth 100000

theorem star_es : "*" ++ "errors.errorString" = "*errors.errorString" := by decide
theorem row_es (u : TypeId) (h : (Tryd.prog).typeName? 3 u = some "*errors.errorString") : u = 91 :=
  typeName_ptr_named (nm := "errors.errorString") (by rw [star_es]; kernel_rfl) (by kernel_rfl) (by decide) u (by rw [star_es]; exact h)
theorem ev_met {n : String} {text : List UInt8} {r : List (String × DataW Unit)} {g : Nat} {w : World} (h : laidMet Tryd.prog ((n, .iface "*errors.errorString" (.ptr (.agg [.lit (.string text)]))) :: r) w) (hg : (Tryd.prog).globalNamed n = some g) (ht : ((Tryd.prog).globals[g]?).map (·.type) = some 49) : Ev g w := by
  obtain ⟨a0, s0, hv0, _⟩ := laid_sentinel h hg ht Tryd.underlying49 row_es Tryd.underlying91 Tryd.underlying93 rfl rfl Tryd.underlying9 (by kernel_rfl) (by kernel_rfl)
  refine ⟨_, by simpa using World.var?_cell hg hv0 0, .inr ⟨_, _, rfl⟩⟩
theorem lv_met {w : World} (h : laidMet Tryd.prog (("math/bits.deBruijn32tab", Rows.laid_math_bits_deBruijn32tab) :: ("math/bits.deBruijn64tab", Rows.laid_math_bits_deBruijn64tab) :: ("internal/strconv.uint64pow10", Rows.laid_internal_strconv_uint64pow10) :: ("strconv.ErrRange", Rows.laid_strconv_ErrRange) :: ("strconv.ErrSyntax", Rows.laid_strconv_ErrSyntax) :: []) w) : Lv w :=
  ⟨tb_met h, ev_met (g := 0) h.tail.tail.tail.tail (by kernel_rfl) (by kernel_rfl), ev_met (g := 1) h.tail.tail.tail (by kernel_rfl) (by kernel_rfl)⟩
end Go.Proofs.YtbaojeiinjjlcaaDoor
