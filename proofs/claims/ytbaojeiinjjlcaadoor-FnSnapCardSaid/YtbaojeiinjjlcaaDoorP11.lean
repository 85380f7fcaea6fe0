/- The law of FrameBytes. -/
import Derived.Test.YtbaojeiinjjlcaaDoorP10
namespace Go.Proofs.YtbaojeiinjjlcaaDoor
open Go.RowKit
set_option linter.unusedVariables false

end Go.Proofs.YtbaojeiinjjlcaaDoor
