/- The law of FrameBytes. -/
import Derived.Test.YtbaojeiinjjlcaaP10
namespace Go.Proofs.Ytbaojeiinjjlcaa
open Go.RowKit
set_option linter.unusedVariables false

end Go.Proofs.Ytbaojeiinjjlcaa
