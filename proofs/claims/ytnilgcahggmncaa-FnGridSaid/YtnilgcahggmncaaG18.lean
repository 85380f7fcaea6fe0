/- A cell of a grid: the program's way. -/
import Derived.Test.YtnilgcahggmncaaG17
namespace Go.Proofs.Ytnilgcahggmncaa
open Go.RowKit
set_option linter.unusedVariables false
set_option maxRecDepth 100000

end Go.Proofs.Ytnilgcahggmncaa
