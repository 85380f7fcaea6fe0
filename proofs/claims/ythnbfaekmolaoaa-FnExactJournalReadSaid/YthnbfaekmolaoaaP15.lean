/- The laws of names and words. -/
import Derived.Test.YthnbfaekmolaoaaP14
namespace Go.Proofs.Ythnbfaekmolaoaa
open Go.RowKit
set_option linter.unusedVariables false

theorem walk_FnExactNameOk (s : ByteArray) (w : World) (h : s.size ≤ maxLen) :
    Calls Try.prog 3 #[.string s] w fun e w' => e = .returned (.bool true) ∧ Below w.heap.size w w' := by
  unfold maxLen at h
  by_cases hbig : 1048576 < s.size
  · have hbig' : (1048576 : Int) < s.size := by omega
    go_enter Try.func3, Try.ntmps3
    go_wp2
    go_ret
    exact ⟨rfl, Below.refl _ _⟩
  · have hbig' : ¬ (1048576 : Int) < s.size := by omega
    have hl : s.data.toList.length ≤ 549755813888 := by
      have : s.data.toList.length = s.size := rfl
      omega
    go_enter Try.func3, Try.ntmps3
    go_wp2_with (first
      | (go_at_call 17; refine (nameOk_spec _ _ hl).mono ?_; rintro e w' ⟨rfl, rfl⟩)
      | (go_at_call 18; refine (nameOk_impl _ _ hl).mono ?_; rintro e w' ⟨rfl, rfl⟩))
    go_ret
    exact ⟨rfl, Below.refl _ _⟩
theorem walk_FnExactWordOk (s : ByteArray) (w : World) (h : s.size ≤ maxLen) :
    Calls Try.prog 4 #[.string s] w fun e w' => e = .returned (.bool true) ∧ Below w.heap.size w w' := by
  unfold maxLen at h
  by_cases hbig : 1048576 < s.size
  · have hbig' : (1048576 : Int) < s.size := by omega
    go_enter Try.func4, Try.ntmps4
    go_wp2
    go_ret
    exact ⟨rfl, Below.refl _ _⟩
  · have hbig' : ¬ (1048576 : Int) < s.size := by omega
    have hl : s.data.toList.length ≤ 549755813888 := by
      have : s.data.toList.length = s.size := rfl
      omega
    go_enter Try.func4, Try.ntmps4
    go_wp2_with (first
      | (go_at_call 19; refine (wordOk_spec _ _ hl).mono ?_; rintro e w' ⟨rfl, rfl⟩)
      | (go_at_call 20; refine (wordOk_impl _ _ hl).mono ?_; rintro e w' ⟨rfl, rfl⟩))
    go_ret
    exact ⟨rfl, Below.refl _ _⟩
end Go.Proofs.Ythnbfaekmolaoaa
