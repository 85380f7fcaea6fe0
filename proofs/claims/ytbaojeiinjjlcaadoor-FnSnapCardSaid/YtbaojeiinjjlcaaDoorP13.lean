/- The law of SnapBytes. -/
import Derived.Test.YtbaojeiinjjlcaaDoorP12
namespace Go.Proofs.YtbaojeiinjjlcaaDoor
open Go.RowKit
set_option linter.unusedVariables false

end Go.Proofs.YtbaojeiinjjlcaaDoor
