/- The laws of PutText and GetText. -/
import Derived.Test.YtbaojeiinjjlcaaP7
namespace Go.Proofs.Ytbaojeiinjjlcaa
open Go.RowKit
set_option linter.unusedVariables false

theorem gtV_form (xs : List UInt8) (z : Int) : ∃ p q r, Hid (gtV xs z = .tuple #[.string p, .int .i64 q, .bool r]) := ⟨_, _, _, rfl⟩
end Go.Proofs.Ytbaojeiinjjlcaa
