/- The law of SnapBytes. -/
import Derived.Test.YtbaojeiinjjlcaaP12
namespace Go.Proofs.Ytbaojeiinjjlcaa
open Go.RowKit
set_option linter.unusedVariables false

end Go.Proofs.Ytbaojeiinjjlcaa
