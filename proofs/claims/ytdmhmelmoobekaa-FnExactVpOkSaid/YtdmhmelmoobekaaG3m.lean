/- A rune read: the program's way. -/
import Derived.Test.YtdmhmelmoobekaaG3
import Derived.Test.YtdmhmelmoobekaaG3a
import Derived.Test.YtdmhmelmoobekaaG3b
import Derived.Test.YtdmhmelmoobekaaG3c
namespace Go.Proofs.Ytdmhmelmoobekaa
open Go.RowKit
set_option linter.unusedVariables false
set_option maxRecDepth 100000

end Go.Proofs.Ytdmhmelmoobekaa
