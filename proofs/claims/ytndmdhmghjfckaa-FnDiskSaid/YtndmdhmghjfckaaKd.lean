/- DiskRead: the reference. -/
import Derived.Test.YtndmdhmghjfckaaKf
import Derived.Test.YtndmdhmghjfckaaHc
namespace Go.Proofs.Ytndmdhmghjfckaa
open Go.RowKit
set_option linter.unusedVariables false
set_option maxRecDepth 100000

end Go.Proofs.Ytndmdhmghjfckaa
