/- A snapshot read: the program's way. -/
import Derived.Test.YtbaojeiinjjlcaaDoorP21
import Derived.Lib.Walk
import Derived.Lib.Strings
import Derived.Lib.Slices
import Derived.Laws.Strings3
namespace Go.Proofs.YtbaojeiinjjlcaaDoor
open Go.RowKit
set_option linter.unusedVariables false
set_option maxRecDepth 100000

theorem strHP (s p : ByteArray) (w : World) :
    Calls Tryd.prog 39 #[.string s, .string p] w fun e w' => e = .returned (.bool (Lib.hasPrefix s.data.toList p.data.toList)) ∧ w = w' := by
  rw [← Lib.hasPrefix_of_take, ← Lib.size_eq, ← Lib.size_eq]
  go_enter Tryd.func39, Tryd.ntmps39
  go_wp2
  · rename_i h
    go_ret
    refine ⟨?_, rfl⟩
    show Ending.returned (Value.bool ((s.extract 0 p.size).toList == p.toList)) = _
    rw [Lib.extract_toList, Lib.toList_data]
    simp [h]
  · rename_i h
    go_ret
    refine ⟨?_, rfl⟩
    show Ending.returned (Value.bool false) = _
    simp [h]
theorem stringsHP (s p : ByteArray) (w : World) :
    Calls Tryd.prog 29 #[.string s, .string p] w fun e w' => e = .returned (.bool (Lib.hasPrefix s.data.toList p.data.toList)) ∧ w = w' := by
  go_enter Tryd.func29, Tryd.ntmps29
  go_wp2_with (go_at_call 39; refine (strHP _ _ _).mono ?_; rintro e w' ⟨rfl, rfl⟩)
  go_ret
  exact ⟨rfl, rfl⟩
theorem snapHP (xs : List UInt8) (p : ByteArray) (hp : p = ⟨#[83, 78, 65, 80]⟩) (w : World) :
    Calls Tryd.prog 29 #[.string (bstr xs), .string p] w fun e w' => e = .returned (.bool (decide (xs.take 4 = [83, 78, 65, 80]))) ∧ w = w' := by
  refine (stringsHP _ _ _).mono ?_
  rintro e w' ⟨rfl, rfl⟩
  refine ⟨ret_bool ?_, rfl⟩
  subst hp
  rw [← Lib.hasPrefix_of_take]
  have e : (bstr xs).data.toList = xs := by simp [bstr]
  rw [e, Bool.eq_iff_iff]
  simp
  intro h
  have := congrArg List.length h
  simp at this
  omega
theorem slice_l_run (A : Option Addr) (c l : Nat) (xs : List UInt8) (k : IntKind) (h1 : l ≤ xs.length) (hc : xs.length ≤ c) :
    ∃ A2 c2 us, Hid (us = xs.drop l) ∧ us.length ≤ c2 ∧ (∀ w, By w A xs → By w A2 us) ∧
      ∀ w : World, (Instr.sliceAt 22 (.slice A xs.length c) (some (.int k (l : Int))) none none).run Tryd.prog w = .ok (.slice A2 us.length c2) w := by
  have hL : (xs.drop l).length = xs.length - l := by simp
  refine ⟨if c = l then A else A.map (·.add (l * 1)), c - l, _, Lib.hid rfl, by rw [hL]; omega, fun w hA => ?_, fun w => ?_⟩
  · have hcut := hA.cut h1 (Nat.le_refl _) hc
    rw [List.take_of_length_le (by simp)] at hcut
    exact hcut
  · have hr := run_slice_l (P := Tryd.prog) (w := w) (t := 22) (ht := elemBytes ▸ Tryd.underlying22) (a := A) (len := xs.length) (cap := c) k l (by omega) (by omega)
    rw [← run_sliceAt_slice (P := Tryd.prog) (w := w) 22 _ _ _ _ (elemBytes ▸ Tryd.underlying22), elemBytes, size_u8] at hr
    simp only [Result.andThen, sliced, Int.toNat_natCast] at hr
    rw [hL]
    exact hr
theorem slice_h_run (A : Option Addr) (c h : Nat) (xs : List UInt8) (k : IntKind) (h2 : h ≤ xs.length) (hc : xs.length ≤ c) :
    ∃ A2 c2 us, Hid (us = xs.take h) ∧ us.length ≤ c2 ∧ (∀ w, By w A xs → By w A2 us) ∧
      ∀ w : World, (Instr.sliceAt 22 (.slice A xs.length c) none (some (.int k (h : Int))) none).run Tryd.prog w = .ok (.slice A2 us.length c2) w := by
  have hL : (xs.take h).length = h := by simp; omega
  refine ⟨if c = 0 then A else A.map (·.add 0), c, _, Lib.hid rfl, by rw [hL]; omega, fun w hA => ?_, fun w => ?_⟩
  · have hcut := hA.cut (Nat.zero_le h) h2 hc
    simpa using hcut
  · have hr := run_slice_h (P := Tryd.prog) (w := w) (t := 22) (ht := elemBytes ▸ Tryd.underlying22) (a := A) (len := xs.length) (cap := c) k h (by omega) (by omega)
    rw [← run_sliceAt_slice (P := Tryd.prog) (w := w) 22 _ _ _ _ (elemBytes ▸ Tryd.underlying22), elemBytes, size_u8] at hr
    simp [Result.andThen, sliced, Int.toNat_natCast] at hr
    rw [hL]
    exact hr
end Go.Proofs.YtbaojeiinjjlcaaDoor
