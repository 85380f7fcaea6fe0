/- An operation of a disk is valid: the reference. -/
import Derived.Test.YtndmdhmghjfckaaUb
namespace Go.Proofs.Ytndmdhmghjfckaa
open Go.RowKit
set_option linter.unusedVariables false
set_option maxRecDepth 100000

abbrev opV (k : Int) (s t : ByteArray) (A : Option Addr) (n c : Nat) : Value := .agg #[.int .i64 k, .string s, .string t, .slice A n c]
abbrev opC (k : Int) (s t : ByteArray) (A : Option Addr) (n c : Nat) : Array Value := #[.int .i64 k, .string s, .string t, .slice A n c]
def opB (k : Int) (s t : ByteArray) (n : Nat) : Bool :=
  decide (1 ≤ k ∧ k ≤ 6) && (if k = 6 then noB s else nmB s) && (if k = 4 then nmB t else noB t) && decide (n ≤ 400000) && (decide (k = 2) || decide (n = 0))
set_option maxHeartbeats 2000000 in
theorem diskOpOk_spec (k : Int) (s t : ByteArray) (A : Option Addr) (n c : Nat) (w : World) (hs : s.data.toList.length ≤ 549755813888) (ht : t.data.toList.length ≤ 549755813888) (hn : n ≤ 1048576) :
    Calls Try.prog 41 #[opV k s t A n c] w fun e w' => e = .returned (.bool (opB k s t n)) ∧ Below w.heap.size w w' := by
  go_enter Try.func41, Try.ntmps41
  go_wp2_with (first | (go_at_call_of 58 s; refine (nameOk_spec s _ hs).mono ?_; rintro e w' ⟨rfl, rfl⟩) | (go_at_call_of 58 t; refine (nameOk_spec t _ ht).mono ?_; rintro e w' ⟨rfl, rfl⟩))
  all_goals (go_ret; exact ⟨ret_bool (by simp_all [opB, nmB, noB]; try first | omega | (rw [Bool.eq_iff_iff]; simp; omega)), (by (repeat (first | exact Below.refl _ _ | (refine Below.alloc ?_ (by first | omega | (simp; done) | (simp; omega)) _) | (refine Below.drew ?_) | (refine below_drewN ?_ _) | (refine below_at1 ?_ (by first | omega | (simp; done) | (simp; omega))) | (refine Below.setCell ?_ (by first | omega | (simp; done) | (simp; omega)) _) | (refine Below.trans ?_ (Below.mono (by assumption) (by first | omega | (simp; done) | (simp; omega)))))))⟩)
end Go.Proofs.Ytndmdhmghjfckaa
