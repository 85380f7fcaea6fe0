/- The names of files: both ways, and their laws. -/
import Derived.Test.YtbaojeiinjjlcaaDoorT2
namespace Go.Proofs.YtbaojeiinjjlcaaDoor
open Go.RowKit Go.Lib
set_option linter.unusedVariables false
set_option maxRecDepth 100000

def genB (n : Int) : Bool := decide (1 ≤ n ∧ n ≤ 1000000000)
/-- A file's name. -/
def nmL (p : List UInt8) (n : Int) : List UInt8 := if 1 ≤ n ∧ n ≤ 1000000000 then p ++ ntL n else []
def snapS : List UInt8 := [115, 110, 97, 112, 46]
def logS : List UInt8 := [108, 111, 103, 46]
theorem isGen_any (n : Int) (w : World) : Calls Tryd.prog 26 #[.int .i64 n] w fun e w' => e = .returned (.bool (genB n)) ∧ w = w' := by
  go_enter Tryd.func26, Tryd.ntmps26
  go_wp2_with (go_at_call 23; refine (within_any _ _ _ _).mono ?_; rintro e w' ⟨rfl, rfl⟩)
  go_ret
  exact ⟨ret_bool (by simp [genB]), rfl⟩
theorem snapName_impl (n : Int) (w : World) (hn : -9223372036854775808 ≤ n ∧ n ≤ 9223372036854775807) (ht : Tb w) :
    Calls Tryd.prog 17 #[.int .i64 n] w fun e w' => e = .returned (.string (bstr (nmL snapS n))) ∧ Below w.heap.size w w' := by
  by_cases h1 : 1 ≤ n ∧ n ≤ 1000000000
  case neg =>
    have HR : Hid (nmL snapS n = []) := by show _ = _; exact if_neg h1
    have HB : Hid (genB n = false) := decide_eq_false h1
    rw [HR.out]
    clear h1
    go_enter Tryd.func17, Tryd.ntmps17
    go_wp2_with (go_at_call 26; refine (isGen_any _ _).mono ?_; rintro e w' ⟨he, rfl⟩; rw [HB.out] at he; subst he)
    go_ret
    exact ⟨rfl, (by (repeat (first | exact Below.refl _ _ | (refine Below.alloc ?_ (by first | omega | (simp; done) | (simp; omega)) _) | (refine Below.drew ?_) | (refine below_drewN ?_ _) | (refine below_at1 ?_ (by first | omega | (simp; done) | (simp; omega))) | (refine Below.setCell ?_ (by first | omega | (simp; done) | (simp; omega)) _) | (refine Below.trans ?_ (Below.mono (by assumption) (by first | omega | (simp; done) | (simp; omega)))))))⟩
  have HR : Hid (nmL snapS n = snapS ++ ntL n) := by show _ = _; exact if_pos h1
  have HB : Hid (genB n = true) := decide_eq_true h1
  rw [HR.out]
  clear h1
  have hrm : ¬ 9223372036854775807 < 5 + (bstr (ntL n)).size := by
    have := nt_len (n := n)
    rw [bstr_size]
    omega
  have hap : (ByteArray.mk (snapS.toArray)) ++ bstr (ntL n) = bstr (snapS ++ ntL n) := bstr_app snapS _
  simp only [snapS] at hap
  go_enter Tryd.func17, Tryd.ntmps17
  go_wp2_with (first | (go_at_call 26; refine (isGen_any _ _).mono ?_; rintro e w' ⟨he, rfl⟩; rw [HB.out] at he; subst he) | (go_at_call 12; refine (numText_impl n _ hn ht).mono ?_; rintro e w1 ⟨rfl, hb1⟩))
  exact bodyPost_ret (v := .string (bstr (snapS ++ ntL n))) (by simp [results, Tryd.results17, go_sem, *, snapS]) rfl ⟨rfl, hb1⟩
theorem logName_impl (n : Int) (w : World) (hn : -9223372036854775808 ≤ n ∧ n ≤ 9223372036854775807) (ht : Tb w) :
    Calls Tryd.prog 33 #[.int .i64 n] w fun e w' => e = .returned (.string (bstr (nmL logS n))) ∧ Below w.heap.size w w' := by
  by_cases h1 : 1 ≤ n ∧ n ≤ 1000000000
  case neg =>
    have HR : Hid (nmL logS n = []) := by show _ = _; exact if_neg h1
    have HB : Hid (genB n = false) := decide_eq_false h1
    rw [HR.out]
    clear h1
    go_enter Tryd.func33, Tryd.ntmps33
    go_wp2_with (go_at_call 26; refine (isGen_any _ _).mono ?_; rintro e w' ⟨he, rfl⟩; rw [HB.out] at he; subst he)
    go_ret
    exact ⟨rfl, (by (repeat (first | exact Below.refl _ _ | (refine Below.alloc ?_ (by first | omega | (simp; done) | (simp; omega)) _) | (refine Below.drew ?_) | (refine below_drewN ?_ _) | (refine below_at1 ?_ (by first | omega | (simp; done) | (simp; omega))) | (refine Below.setCell ?_ (by first | omega | (simp; done) | (simp; omega)) _) | (refine Below.trans ?_ (Below.mono (by assumption) (by first | omega | (simp; done) | (simp; omega)))))))⟩
  have HR : Hid (nmL logS n = logS ++ ntL n) := by show _ = _; exact if_pos h1
  have HB : Hid (genB n = true) := decide_eq_true h1
  rw [HR.out]
  clear h1
  have hrm : ¬ 9223372036854775807 < 4 + (bstr (ntL n)).size := by
    have := nt_len (n := n)
    rw [bstr_size]
    omega
  have hap : (ByteArray.mk (logS.toArray)) ++ bstr (ntL n) = bstr (logS ++ ntL n) := bstr_app logS _
  simp only [logS] at hap
  go_enter Tryd.func33, Tryd.ntmps33
  go_wp2_with (first | (go_at_call 26; refine (isGen_any _ _).mono ?_; rintro e w' ⟨he, rfl⟩; rw [HB.out] at he; subst he) | (go_at_call 12; refine (numText_impl n _ hn ht).mono ?_; rintro e w1 ⟨rfl, hb1⟩))
  exact bodyPost_ret (v := .string (bstr (logS ++ ntL n))) (by simp [results, Tryd.results33, go_sem, *, logS]) rfl ⟨rfl, hb1⟩
end Go.Proofs.YtbaojeiinjjlcaaDoor
