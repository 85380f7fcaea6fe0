/- The law of TextNum. -/
import Derived.Test.YtdnpglbaggkgcaaDoorT5
namespace Go.Proofs.YtdnpglbaggkgcaaDoor
open Go.RowKit Go.Lib
set_option linter.unusedVariables false
set_option maxRecDepth 100000

theorem star_es : "*" ++ "errors.errorString" = "*errors.errorString" := by decide
theorem row_es (u : TypeId) (h : (Tryd.prog).typeName? 3 u = some "*errors.errorString") : u = 86 :=
  typeName_ptr_named (nm := "errors.errorString") (by rw [star_es]; kernel_rfl) (by kernel_rfl) (by decide) u (by rw [star_es]; exact h)
theorem ev_met {n : String} {text : List UInt8} {r : List (String × DataW Unit)} {g : Nat} {w : World} (h : laidMet Tryd.prog ((n, .iface "*errors.errorString" (.ptr (.agg [.lit (.string text)]))) :: r) w) (hg : (Tryd.prog).globalNamed n = some g) (ht : ((Tryd.prog).globals[g]?).map (·.type) = some 40) : Ev g w := by
  obtain ⟨a0, s0, hv0, _⟩ := laid_sentinel h hg ht Tryd.underlying40 row_es Tryd.underlying86 Tryd.underlying88 rfl rfl Tryd.underlying9 (by kernel_rfl) (by kernel_rfl)
  refine ⟨_, by simpa using World.var?_cell hg hv0 0, .inr ⟨_, _, rfl⟩⟩
theorem lv_met {w : World} (h : laidMet Tryd.prog (("math/bits.deBruijn32tab", Rows.laid_math_bits_deBruijn32tab) :: ("math/bits.deBruijn64tab", Rows.laid_math_bits_deBruijn64tab) :: ("internal/strconv.uint64pow10", Rows.laid_internal_strconv_uint64pow10) :: ("strconv.ErrRange", Rows.laid_strconv_ErrRange) :: ("strconv.ErrSyntax", Rows.laid_strconv_ErrSyntax) :: []) w) : Lv w :=
  ⟨tb_met h, ev_met (g := 0) h.tail.tail.tail.tail (by kernel_rfl) (by kernel_rfl), ev_met (g := 1) h.tail.tail.tail (by kernel_rfl) (by kernel_rfl)⟩
theorem ld_FnExactTextNum {w : World} (h : laidMetH Tryd.prog Rows.fnExactTextNumRow.laid w) : Lv w := by
  rw [MakeChecks.laidMetH_plain _ _ _ (by kernel_rfl)] at h
  exact lv_met h
theorem walk_FnExactTextNum (s : ByteArray) (w : World) (h : s.size ≤ maxLen) (hl : Lv w) :
    Calls Tryd.prog 6 #[.string s] w fun e w' => e = .returned (.bool true) ∧ Below w.heap.size w w' := by
  unfold maxLen at h
  by_cases hbig : 1048576 < s.size
  · have hbig' : (1048576 : Int) < s.size := by omega
    go_enter Tryd.func6, Tryd.ntmps6
    go_wp2
    go_ret
    exact ⟨rfl, (by (repeat (first | exact Below.refl _ _ | (refine Below.alloc ?_ (by first | omega | (simp; done) | (simp; omega)) _) | (refine Below.drew ?_) | (refine below_drewN ?_ _) | (refine below_at1 ?_ (by first | omega | (simp; done) | (simp; omega))) | (refine Below.setCell ?_ (by first | omega | (simp; done) | (simp; omega)) _) | (refine Below.trans ?_ (Below.mono (by assumption) (by first | omega | (simp; done) | (simp; omega)))))))⟩
  have hbig' : ¬ (1048576 : Int) < s.size := by omega
  obtain ⟨xs, hxs⟩ : ∃ xs, s = bstr xs := ⟨_, bstr_of s⟩
  subst hxs
  rw [bstr_size] at h hbig
  have ht1 := fun w => textNum_spec xs w (by omega)
  have ht2 := fun w (hl : Lv w) => textNum_impl xs w (by omega) hl
  have HT1 := Lib.hid ht1
  have HT2 := Lib.hid ht2
  clear ht1 ht2
  go_enter Tryd.func6, Tryd.ntmps6
  cases htn : tnB xs with
  | true =>
    rw [tnV_yes htn] at HT1 HT2
    clear htn
    go_wp2_with fail
    refine (HT1.out _).mono ?_
    rintro e w1 ⟨rfl, hb1⟩
    go_wp2_with fail
    refine (HT2.out _ (hl.below hb1 (Nat.le_refl _))).mono ?_
    rintro e w2 ⟨rfl, hb2⟩
    go_wp2_with fail
    go_ret
    exact ⟨rfl, hb1.trans (hb2.mono hb1.size)⟩
  | false =>
    rw [tnV_no htn] at HT1 HT2
    clear htn
    go_wp2_with fail
    refine (HT1.out _).mono ?_
    rintro e w1 ⟨rfl, hb1⟩
    go_wp2_with fail
    refine (HT2.out _ (hl.below hb1 (Nat.le_refl _))).mono ?_
    rintro e w2 ⟨rfl, hb2⟩
    go_wp2_with fail
    go_ret
    exact ⟨rfl, hb1.trans (hb2.mono hb1.size)⟩
end Go.Proofs.YtdnpglbaggkgcaaDoor
