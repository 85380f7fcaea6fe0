/- Decimal numerals: the program's way, and the names of files. -/
import Derived.Test.YtbaojeiinjjlcaaDoorT1
import Derived.Test.YtbaojeiinjjlcaaDoorSh1
import Derived.Lib.AppendIntMem
import Derived.Lib.LaidTab
import Derived.MakeChecks
import Derived.Stop.LaidErr
import Derived.Test.YtbaojeiinjjlcaaDoorRows
namespace Go.Proofs.YtbaojeiinjjlcaaDoor
open Go.RowKit Go.Lib
set_option linter.unusedVariables false
set_option maxRecDepth 100000

/-- The library's table of powers of ten. -/
def Tb (w : World) : Prop := TabIs Tryd.prog w "internal/strconv.uint64pow10" .u64 pow10Tab
theorem Tb.below {w w' : World} (ht : Tb w) {B : Nat} (h : Below B w w') (hB : w.heap.size ≤ B) : Tb w' := by
  unfold Tb TabIs World.var? at *
  cases hg : (Tryd.prog).globalNamed "internal/strconv.uint64pow10" with
  | none => simp [hg] at ht
  | some g =>
    simp only [hg, Option.bind_some] at ht ⊢
    have hlt : g < w.heap.size := by
      rcases Nat.lt_or_ge g w.heap.size with h' | h'
      · exact h'
      · rw [Array.getElem?_eq_none h'] at ht; simp at ht
    rw [h.block g (by omega)]
    exact ht
theorem tb_met {r : List (String × DataW Unit)} {w : World} (h : laidMet Tryd.prog (("math/bits.deBruijn32tab", Rows.laid_math_bits_deBruijn32tab) :: ("math/bits.deBruijn64tab", Rows.laid_math_bits_deBruijn64tab) :: ("internal/strconv.uint64pow10", Rows.laid_internal_strconv_uint64pow10) :: r) w) : Tb w :=
  tabIs_of_head (zs := pow10Tab) (k := .u64) (g := 3) (t := 95) (e := 74) (n := 20) (by kernel_rfl) (by kernel_rfl) Tryd.underlying95 Tryd.underlying74 (by kernel_rfl) (by kernel_rfl) h.tail.tail
theorem itoa_nat {k : Nat} : itoa (k : Int) = decDigits k := by rw [itoa_nonneg]
theorem numText_impl (n : Int) (w : World) (hn : -9223372036854775808 ≤ n ∧ n ≤ 9223372036854775807) (ht : Tb w) :
    Calls Tryd.prog 12 #[.int .i64 n] w fun e w' => e = .returned (.string (bstr (ntL n))) ∧ Below w.heap.size w w' := by
  by_cases hr : 0 ≤ n ∧ n ≤ 4294967295
  case neg =>
    rw [nt_no hr]
    have HR := Lib.hid (decide_eq_false (p := 0 ≤ n ∧ n ≤ 4294967295) hr)
    clear hr
    go_enter Tryd.func12, Tryd.ntmps12
    go_wp2_with (go_at_call 20; refine (isNum_any _ _).mono ?_; rintro e w' ⟨he, rfl⟩; rw [HR.out] at he; subst he)
    go_ret
    exact ⟨rfl, (by (repeat (first | exact Below.refl _ _ | (refine Below.alloc ?_ (by first | omega | (simp; done) | (simp; omega)) _) | (refine Below.drew ?_) | (refine below_drewN ?_ _) | (refine below_at1 ?_ (by first | omega | (simp; done) | (simp; omega))) | (refine Below.setCell ?_ (by first | omega | (simp; done) | (simp; omega)) _) | (refine Below.trans ?_ (Below.mono (by assumption) (by first | omega | (simp; done) | (simp; omega)))))))⟩
  obtain ⟨k, rfl⟩ := Int.eq_ofNat_of_zero_le hr.1
  have HR := Lib.hid (decide_eq_true (p := 0 ≤ (k : Int) ∧ (k : Int) ≤ 4294967295) hr)
  have HN := Lib.hid (nt_yes hr.2)
  clear hr
  rw [HN.out]
  go_enter Tryd.func12, Tryd.ntmps12
  go_wp2_with (first | (go_at_call 20; refine (isNum_any _ _).mono ?_; rintro e w' ⟨he, rfl⟩; rw [HR.out] at he; subst he) | (go_at_call 25; refine (Tryd.strconv_Itoa _ hn.1 hn.2 _ ht).mono ?_; rintro e w' ⟨he, m, os, hw⟩; rw [itoa_nat] at he; subst he; replace hw : Below w.heap.size w w' := by rw [hw]; exact below_grow _ _ (Nat.le_refl _) _ _))
  go_ret
  exact ⟨rfl, hw⟩
end Go.Proofs.YtbaojeiinjjlcaaDoor
