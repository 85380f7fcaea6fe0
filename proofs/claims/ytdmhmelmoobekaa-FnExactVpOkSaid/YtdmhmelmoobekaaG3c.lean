/- A rune read: the program's way, three bytes. -/
import Derived.Test.YtdmhmelmoobekaaG3
namespace Go.Proofs.Ytdmhmelmoobekaa
open Go.RowKit
set_option linter.unusedVariables false
set_option maxRecDepth 100000

end Go.Proofs.Ytdmhmelmoobekaa
