/- The names of files: both ways, and their laws. -/
import Derived.Test.YtdnpglbaggkgcaaDoorT2
namespace Go.Proofs.YtdnpglbaggkgcaaDoor
open Go.RowKit Go.Lib
set_option linter.unusedVariables false
set_option maxRecDepth 100000

def genB (n : Int) : Bool := decide (1 ≤ n ∧ n ≤ 1000000000)
/-- A file's name. -/
def nmL (p : List UInt8) (n : Int) : List UInt8 := if 1 ≤ n ∧ n ≤ 1000000000 then p ++ ntL n else []
def snapS : List UInt8 := [115, 110, 97, 112, 46]
def logS : List UInt8 := [108, 111, 103, 46]
theorem l04Name_any (p : List UInt8) (hp : p.length ≤ 1000) (n : Int) (w : World) (hn : -9223372036854775808 ≤ n ∧ n ≤ 9223372036854775807) :
    Calls Tryd.prog 31 #[.string (bstr p), .int .i64 n] w fun e w' => e = .returned (.string (bstr (nmL p n))) ∧ Below w.heap.size w w' := by
  by_cases h1 : 1 ≤ n
  case neg =>
    have HR : Hid (nmL p n = []) := by show _ = _; exact if_neg (fun h => h1 h.1)
    rw [HR.out]
    have h1' : n < 1 := by omega
    go_enter Tryd.func31, Tryd.ntmps31
    go_wp2_with fail
    go_ret
    exact ⟨rfl, (by (repeat (first | exact Below.refl _ _ | (refine Below.alloc ?_ (by first | omega | (simp; done) | (simp; omega)) _) | (refine Below.drew ?_) | (refine below_drewN ?_ _) | (refine below_at1 ?_ (by first | omega | (simp; done) | (simp; omega))) | (refine Below.setCell ?_ (by first | omega | (simp; done) | (simp; omega)) _) | (refine Below.trans ?_ (Below.mono (by assumption) (by first | omega | (simp; done) | (simp; omega)))))))⟩
  by_cases h2 : n ≤ 1000000000
  case neg =>
    have HR : Hid (nmL p n = []) := by show _ = _; exact if_neg (fun h => h2 h.2)
    rw [HR.out]
    have h2' : 1000000000 < n := by omega
    go_enter Tryd.func31, Tryd.ntmps31
    go_wp2_with fail
    go_ret
    exact ⟨rfl, (by (repeat (first | exact Below.refl _ _ | (refine Below.alloc ?_ (by first | omega | (simp; done) | (simp; omega)) _) | (refine Below.drew ?_) | (refine below_drewN ?_ _) | (refine below_at1 ?_ (by first | omega | (simp; done) | (simp; omega))) | (refine Below.setCell ?_ (by first | omega | (simp; done) | (simp; omega)) _) | (refine Below.trans ?_ (Below.mono (by assumption) (by first | omega | (simp; done) | (simp; omega)))))))⟩
  have HR : Hid (nmL p n = p ++ ntL n) := by show _ = _; exact if_pos ⟨h1, h2⟩
  rw [HR.out]
  have hrm := (room_add n hp).2
  go_enter Tryd.func31, Tryd.ntmps31
  go_wp2_with fail
  refine (numText_spec n w hn).mono ?_
  rintro e w1 ⟨rfl, hb1⟩
  go_wp2_with fail
  exact bodyPost_ret (v := .string (bstr (p ++ ntL n))) (by simp [results, Tryd.results31, go_sem, *, bstr_app]) rfl ⟨rfl, hb1⟩
theorem snapName_spec (n : Int) (w : World) (hn : -9223372036854775808 ≤ n ∧ n ≤ 9223372036854775807) :
    Calls Tryd.prog 14 #[.int .i64 n] w fun e w' => e = .returned (.string (bstr (nmL snapS n))) ∧ Below w.heap.size w w' := by
  go_enter Tryd.func14, Tryd.ntmps14
  go_wp2_with fail
  refine (l04Name_any snapS (by decide) n w hn).mono ?_
  rintro e w1 ⟨rfl, hb1⟩
  go_wp2_with fail
  go_ret
  exact ⟨rfl, hb1⟩
theorem logName_spec (n : Int) (w : World) (hn : -9223372036854775808 ≤ n ∧ n ≤ 9223372036854775807) :
    Calls Tryd.prog 12 #[.int .i64 n] w fun e w' => e = .returned (.string (bstr (nmL logS n))) ∧ Below w.heap.size w w' := by
  go_enter Tryd.func12, Tryd.ntmps12
  go_wp2_with fail
  refine (l04Name_any logS (by decide) n w hn).mono ?_
  rintro e w1 ⟨rfl, hb1⟩
  go_wp2_with fail
  go_ret
  exact ⟨rfl, hb1⟩
theorem isGen_any (n : Int) (w : World) : Calls Tryd.prog 32 #[.int .i64 n] w fun e w' => e = .returned (.bool (genB n)) ∧ w = w' := by
  go_enter Tryd.func32, Tryd.ntmps32
  go_wp2_with (go_at_call 39; refine (within_any _ _ _ _).mono ?_; rintro e w' ⟨rfl, rfl⟩)
  go_ret
  exact ⟨ret_bool (by simp [genB]), rfl⟩
theorem snapName_impl (n : Int) (w : World) (hn : -9223372036854775808 ≤ n ∧ n ≤ 9223372036854775807) (ht : Tb w) :
    Calls Tryd.prog 15 #[.int .i64 n] w fun e w' => e = .returned (.string (bstr (nmL snapS n))) ∧ Below w.heap.size w w' := by
  by_cases h1 : 1 ≤ n ∧ n ≤ 1000000000
  case neg =>
    have HR : Hid (nmL snapS n = []) := by show _ = _; exact if_neg h1
    have HB : Hid (genB n = false) := decide_eq_false h1
    rw [HR.out]
    clear h1
    go_enter Tryd.func15, Tryd.ntmps15
    go_wp2_with (go_at_call 32; refine (isGen_any _ _).mono ?_; rintro e w' ⟨he, rfl⟩; rw [HB.out] at he; subst he)
    go_ret
    exact ⟨rfl, (by (repeat (first | exact Below.refl _ _ | (refine Below.alloc ?_ (by first | omega | (simp; done) | (simp; omega)) _) | (refine Below.drew ?_) | (refine below_drewN ?_ _) | (refine below_at1 ?_ (by first | omega | (simp; done) | (simp; omega))) | (refine Below.setCell ?_ (by first | omega | (simp; done) | (simp; omega)) _) | (refine Below.trans ?_ (Below.mono (by assumption) (by first | omega | (simp; done) | (simp; omega)))))))⟩
  have HR : Hid (nmL snapS n = snapS ++ ntL n) := by show _ = _; exact if_pos h1
  have HB : Hid (genB n = true) := decide_eq_true h1
  rw [HR.out]
  clear h1
  have hrm : ¬ 9223372036854775807 < 5 + (bstr (ntL n)).size := by
    have := nt_len (n := n)
    rw [bstr_size]
    omega
  have hap : (ByteArray.mk (snapS.toArray)) ++ bstr (ntL n) = bstr (snapS ++ ntL n) := bstr_app snapS _
  simp only [snapS] at hap
  go_enter Tryd.func15, Tryd.ntmps15
  go_wp2_with (first | (go_at_call 32; refine (isGen_any _ _).mono ?_; rintro e w' ⟨he, rfl⟩; rw [HB.out] at he; subst he) | (go_at_call 11; refine (numText_impl n _ hn ht).mono ?_; rintro e w1 ⟨rfl, hb1⟩))
  exact bodyPost_ret (v := .string (bstr (snapS ++ ntL n))) (by simp [results, Tryd.results15, go_sem, *, snapS]) rfl ⟨rfl, hb1⟩
theorem ld_FnExactSnapName {w : World} (h : laidMetH Tryd.prog Rows.fnExactSnapNameRow.laid w) : Tb w := by
  rw [MakeChecks.laidMetH_plain _ _ _ (by kernel_rfl)] at h
  exact tb_met h
theorem walk_FnExactSnapName (n : Int) (w : World) (hn : (Lit.int .i64 n).wf = true) (ht : Tb w) :
    Calls Tryd.prog 5 #[.int .i64 n] w fun e w' => e = .returned (.bool true) ∧ Below w.heap.size w w' := by
  have hn' : -9223372036854775808 ≤ n ∧ n ≤ 9223372036854775807 := by
    have h2 := hn
    simp only [Lit.wf, Bool.and_eq_true, decide_eq_true_eq] at h2
    exact h2
  clear hn
  go_enter Tryd.func5, Tryd.ntmps5
  go_wp2_with fail
  refine (snapName_spec n w hn').mono ?_
  rintro e w1 ⟨rfl, hb1⟩
  go_wp2_with fail
  refine (snapName_impl n _ hn' (ht.below hb1 (Nat.le_refl _))).mono ?_
  rintro e w2 ⟨rfl, hb2⟩
  go_wp2_with fail
  go_ret
  exact ⟨rfl, hb1.trans (hb2.mono hb1.size)⟩
theorem logName_impl (n : Int) (w : World) (hn : -9223372036854775808 ≤ n ∧ n ≤ 9223372036854775807) (ht : Tb w) :
    Calls Tryd.prog 13 #[.int .i64 n] w fun e w' => e = .returned (.string (bstr (nmL logS n))) ∧ Below w.heap.size w w' := by
  by_cases h1 : 1 ≤ n ∧ n ≤ 1000000000
  case neg =>
    have HR : Hid (nmL logS n = []) := by show _ = _; exact if_neg h1
    have HB : Hid (genB n = false) := decide_eq_false h1
    rw [HR.out]
    clear h1
    go_enter Tryd.func13, Tryd.ntmps13
    go_wp2_with (go_at_call 32; refine (isGen_any _ _).mono ?_; rintro e w' ⟨he, rfl⟩; rw [HB.out] at he; subst he)
    go_ret
    exact ⟨rfl, (by (repeat (first | exact Below.refl _ _ | (refine Below.alloc ?_ (by first | omega | (simp; done) | (simp; omega)) _) | (refine Below.drew ?_) | (refine below_drewN ?_ _) | (refine below_at1 ?_ (by first | omega | (simp; done) | (simp; omega))) | (refine Below.setCell ?_ (by first | omega | (simp; done) | (simp; omega)) _) | (refine Below.trans ?_ (Below.mono (by assumption) (by first | omega | (simp; done) | (simp; omega)))))))⟩
  have HR : Hid (nmL logS n = logS ++ ntL n) := by show _ = _; exact if_pos h1
  have HB : Hid (genB n = true) := decide_eq_true h1
  rw [HR.out]
  clear h1
  have hrm : ¬ 9223372036854775807 < 4 + (bstr (ntL n)).size := by
    have := nt_len (n := n)
    rw [bstr_size]
    omega
  have hap : (ByteArray.mk (logS.toArray)) ++ bstr (ntL n) = bstr (logS ++ ntL n) := bstr_app logS _
  simp only [logS] at hap
  go_enter Tryd.func13, Tryd.ntmps13
  go_wp2_with (first | (go_at_call 32; refine (isGen_any _ _).mono ?_; rintro e w' ⟨he, rfl⟩; rw [HB.out] at he; subst he) | (go_at_call 11; refine (numText_impl n _ hn ht).mono ?_; rintro e w1 ⟨rfl, hb1⟩))
  exact bodyPost_ret (v := .string (bstr (logS ++ ntL n))) (by simp [results, Tryd.results13, go_sem, *, logS]) rfl ⟨rfl, hb1⟩
theorem ld_FnExactLogName {w : World} (h : laidMetH Tryd.prog Rows.fnExactLogNameRow.laid w) : Tb w := by
  rw [MakeChecks.laidMetH_plain _ _ _ (by kernel_rfl)] at h
  exact tb_met h
theorem walk_FnExactLogName (n : Int) (w : World) (hn : (Lit.int .i64 n).wf = true) (ht : Tb w) :
    Calls Tryd.prog 4 #[.int .i64 n] w fun e w' => e = .returned (.bool true) ∧ Below w.heap.size w w' := by
  have hn' : -9223372036854775808 ≤ n ∧ n ≤ 9223372036854775807 := by
    have h2 := hn
    simp only [Lit.wf, Bool.and_eq_true, decide_eq_true_eq] at h2
    exact h2
  clear hn
  go_enter Tryd.func4, Tryd.ntmps4
  go_wp2_with fail
  refine (logName_spec n w hn').mono ?_
  rintro e w1 ⟨rfl, hb1⟩
  go_wp2_with fail
  refine (logName_impl n _ hn' (ht.below hb1 (Nat.le_refl _))).mono ?_
  rintro e w2 ⟨rfl, hb2⟩
  go_wp2_with fail
  go_ret
  exact ⟨rfl, hb1.trans (hb2.mono hb1.size)⟩
end Go.Proofs.YtdnpglbaggkgcaaDoor
