/-
  No cell of these rows narrows 'for every input' (looked for: loops, veiled, ifaces, maps, wideKeys, modest, calm, conditions, laid).
  DERIVED. THE GIVEN ROWS OF THIS SEAT. 12 by the template 'for every input the law returns true; each argument reads behind the call as it read before'; 0 by the template 'total and deterministic' (their statements: YtdmhmelmoobekaaTotals.lean).
  GIVEN WITH THE SEED: the statements are not yours to turn. If you find one false, say at which input.
  Laid BY PROGRAM, IN A SANDBOX (cutbox-rows.mjs): the forced cells as the released guide's own fill.sh prints them over the translation 8cd905335f5c72ee… (all of the seat's roots in one cut). By AI agents, Wed Nov 11 2026. No macro, syntax, notation, axiom, sorry.
-/
import Derived.Test.YtdmhmelmoobekaaChecked
import GoSem.Claim
import GoSem.ClaimJoined
import GoSem.ClaimMapViews
import Derived.JoinedTies
import Derived.KernelRfl
namespace Go.Proofs.Ytdmhmelmoobekaa
/- THE CELL 'sum', in the pinned program and in every row, IS THE sha256 OF THE DUMP (.gsa) THAT YtdmhmelmoobekaaProg.lean LOADS. Nothing in Lean hashes anything: it is a label: what it is worth is what the hold of that sum in a sandbox is worth. -/
noncomputable def Try.pinned : Pinned := { name := "ytdmhmelmoobekaa", sum := "8cd905335f5c72eee6a3eba51d2de37b303a4f96b6774eaa8f570a3230bc486e", checked := Try.checked }
namespace Rows
def none {H : Type} : Left H := { results := [], args := [] }

/-- 'laws.FnExactGridAt': WHATEVER THE INPUT: true; the input reads as it did. -/
def fnExactGridAtSpec : ChangeSpec := { name := "fnExactGridAt", fn := fun _ => fun
  | [d1, d2, d3] => { results := [.lit (.bool true)], args := [d1, d2, d3] }
  | _ => none }
def fnExactGridAtRow : OpenClaim := { program := "ytdmhmelmoobekaa", sum := "8cd905335f5c72eee6a3eba51d2de37b303a4f96b6774eaa8f570a3230bc486e", func := "loop.example/g00661/laws.FnExactGridAt", spec := "fnExactGridAt", unfollowed := true, recurses := true, apart := false }
def FnExactGridAtSaid : Prop := fnExactGridAtRow.holds Try.pinned (OpenSpec.ofChange fnExactGridAtSpec)

/-- ITS FALSE NEIGHBOUR: 'it returns false'. Refute it at one input. -/
def fnExactGridAtWrong : ChangeSpec := { name := "fnExactGridAt", fn := fun _ => fun
  | [d1, d2, d3] => { results := [.lit (.bool false)], args := [d1, d2, d3] }
  | _ => none }
def FnExactGridAtWrongFalsely : Prop := fnExactGridAtRow.holds Try.pinned (OpenSpec.ofChange fnExactGridAtWrong)

/-- 'laws.FnExactGridNew': WHATEVER THE INPUT: true; the input reads as it did. -/
def fnExactGridNewSpec : ChangeSpec := { name := "fnExactGridNew", fn := fun _ => fun
  | [d1, d2] => { results := [.lit (.bool true)], args := [d1, d2] }
  | _ => none }
def fnExactGridNewRow : OpenClaim := { program := "ytdmhmelmoobekaa", sum := "8cd905335f5c72eee6a3eba51d2de37b303a4f96b6774eaa8f570a3230bc486e", func := "loop.example/g00661/laws.FnExactGridNew", spec := "fnExactGridNew", apart := false }
def FnExactGridNewSaid : Prop := fnExactGridNewRow.holds Try.pinned (OpenSpec.ofChange fnExactGridNewSpec)

/-- ITS FALSE NEIGHBOUR: 'it returns false'. Refute it at one input. -/
def fnExactGridNewWrong : ChangeSpec := { name := "fnExactGridNew", fn := fun _ => fun
  | [d1, d2] => { results := [.lit (.bool false)], args := [d1, d2] }
  | _ => none }
def FnExactGridNewWrongFalsely : Prop := fnExactGridNewRow.holds Try.pinned (OpenSpec.ofChange fnExactGridNewWrong)

/-- 'laws.FnExactGridText': WHATEVER THE INPUT: true; the input reads as it did. -/
def fnExactGridTextSpec : ChangeSpec := { name := "fnExactGridText", fn := fun _ => fun
  | [d] => { results := [.lit (.bool true)], args := [d] }
  | _ => none }
def fnExactGridTextRow : OpenClaim := { program := "ytdmhmelmoobekaa", sum := "8cd905335f5c72eee6a3eba51d2de37b303a4f96b6774eaa8f570a3230bc486e", func := "loop.example/g00661/laws.FnExactGridText", spec := "fnExactGridText", unfollowed := true, recurses := true, apart := false }
def FnExactGridTextSaid : Prop := fnExactGridTextRow.holds Try.pinned (OpenSpec.ofChange fnExactGridTextSpec)

/-- ITS FALSE NEIGHBOUR: 'it returns false'. Refute it at one input. -/
def fnExactGridTextWrong : ChangeSpec := { name := "fnExactGridText", fn := fun _ => fun
  | [d] => { results := [.lit (.bool false)], args := [d] }
  | _ => none }
def FnExactGridTextWrongFalsely : Prop := fnExactGridTextRow.holds Try.pinned (OpenSpec.ofChange fnExactGridTextWrong)

/-- 'laws.FnExactVpOk': WHATEVER THE INPUT: true; the input reads as it did. -/
def fnExactVpOkSpec : ChangeSpec := { name := "fnExactVpOk", fn := fun _ => fun
  | [d] => { results := [.lit (.bool true)], args := [d] }
  | _ => none }
def fnExactVpOkRow : OpenClaim := { program := "ytdmhmelmoobekaa", sum := "8cd905335f5c72eee6a3eba51d2de37b303a4f96b6774eaa8f570a3230bc486e", func := "loop.example/g00661/laws.FnExactVpOk", spec := "fnExactVpOk", unfollowed := true, recurses := true, apart := false }
def FnExactVpOkSaid : Prop := fnExactVpOkRow.holds Try.pinned (OpenSpec.ofChange fnExactVpOkSpec)

/-- ITS FALSE NEIGHBOUR: 'it returns false'. Refute it at one input. -/
def fnExactVpOkWrong : ChangeSpec := { name := "fnExactVpOk", fn := fun _ => fun
  | [d] => { results := [.lit (.bool false)], args := [d] }
  | _ => none }
def FnExactVpOkWrongFalsely : Prop := fnExactVpOkRow.holds Try.pinned (OpenSpec.ofChange fnExactVpOkWrong)

/-- 'laws.FnGrid': WHATEVER THE INPUT: true; the input reads as it did. -/
def fnGridSpec : ChangeSpec := { name := "fnGrid", fn := fun _ => fun
  | [d] => { results := [.lit (.bool true)], args := [d] }
  | _ => none }
def fnGridRow : OpenClaim := { program := "ytdmhmelmoobekaa", sum := "8cd905335f5c72eee6a3eba51d2de37b303a4f96b6774eaa8f570a3230bc486e", func := "loop.example/g00661/laws.FnGrid", spec := "fnGrid", unfollowed := true, recurses := true, apart := false }
def FnGridSaid : Prop := fnGridRow.holds Try.pinned (OpenSpec.ofChange fnGridSpec)

/-- ITS FALSE NEIGHBOUR: 'it returns false'. Refute it at one input. -/
def fnGridWrong : ChangeSpec := { name := "fnGrid", fn := fun _ => fun
  | [d] => { results := [.lit (.bool false)], args := [d] }
  | _ => none }
def FnGridWrongFalsely : Prop := fnGridRow.holds Try.pinned (OpenSpec.ofChange fnGridWrong)

/-- 'laws.FnExactGridFill': WHATEVER THE INPUT: true; the input reads as it did. -/
def fnExactGridFillSpec : ChangeSpec := { name := "fnExactGridFill", fn := fun _ => fun
  | [d1, d2, d3, d4, d5, d6] => { results := [.lit (.bool true)], args := [d1, d2, d3, d4, d5, d6] }
  | _ => none }
def fnExactGridFillRow : OpenClaim := { program := "ytdmhmelmoobekaa", sum := "8cd905335f5c72eee6a3eba51d2de37b303a4f96b6774eaa8f570a3230bc486e", func := "loop.example/g00661/laws.FnExactGridFill", spec := "fnExactGridFill", unfollowed := true, recurses := true, apart := false }
def FnExactGridFillSaid : Prop := fnExactGridFillRow.holds Try.pinned (OpenSpec.ofChange fnExactGridFillSpec)

/-- ITS FALSE NEIGHBOUR: 'it returns false'. Refute it at one input. -/
def fnExactGridFillWrong : ChangeSpec := { name := "fnExactGridFill", fn := fun _ => fun
  | [d1, d2, d3, d4, d5, d6] => { results := [.lit (.bool false)], args := [d1, d2, d3, d4, d5, d6] }
  | _ => none }
def FnExactGridFillWrongFalsely : Prop := fnExactGridFillRow.holds Try.pinned (OpenSpec.ofChange fnExactGridFillWrong)

/-- 'laws.FnExactGridPaste': WHATEVER THE INPUT: true; the input reads as it did. -/
def fnExactGridPasteSpec : ChangeSpec := { name := "fnExactGridPaste", fn := fun _ => fun
  | [d1, d2, d3, d4] => { results := [.lit (.bool true)], args := [d1, d2, d3, d4] }
  | _ => none }
def fnExactGridPasteRow : OpenClaim := { program := "ytdmhmelmoobekaa", sum := "8cd905335f5c72eee6a3eba51d2de37b303a4f96b6774eaa8f570a3230bc486e", func := "loop.example/g00661/laws.FnExactGridPaste", spec := "fnExactGridPaste", unfollowed := true, recurses := true, apart := false }
def FnExactGridPasteSaid : Prop := fnExactGridPasteRow.holds Try.pinned (OpenSpec.ofChange fnExactGridPasteSpec)

/-- ITS FALSE NEIGHBOUR: 'it returns false'. Refute it at one input. -/
def fnExactGridPasteWrong : ChangeSpec := { name := "fnExactGridPaste", fn := fun _ => fun
  | [d1, d2, d3, d4] => { results := [.lit (.bool false)], args := [d1, d2, d3, d4] }
  | _ => none }
def FnExactGridPasteWrongFalsely : Prop := fnExactGridPasteRow.holds Try.pinned (OpenSpec.ofChange fnExactGridPasteWrong)

/-- 'laws.FnExactGridShift': WHATEVER THE INPUT: true; the input reads as it did. -/
def fnExactGridShiftSpec : ChangeSpec := { name := "fnExactGridShift", fn := fun _ => fun
  | [d1, d2, d3, d4] => { results := [.lit (.bool true)], args := [d1, d2, d3, d4] }
  | _ => none }
def fnExactGridShiftRow : OpenClaim := { program := "ytdmhmelmoobekaa", sum := "8cd905335f5c72eee6a3eba51d2de37b303a4f96b6774eaa8f570a3230bc486e", func := "loop.example/g00661/laws.FnExactGridShift", spec := "fnExactGridShift", unfollowed := true, recurses := true, apart := false }
def FnExactGridShiftSaid : Prop := fnExactGridShiftRow.holds Try.pinned (OpenSpec.ofChange fnExactGridShiftSpec)

/-- ITS FALSE NEIGHBOUR: 'it returns false'. Refute it at one input. -/
def fnExactGridShiftWrong : ChangeSpec := { name := "fnExactGridShift", fn := fun _ => fun
  | [d1, d2, d3, d4] => { results := [.lit (.bool false)], args := [d1, d2, d3, d4] }
  | _ => none }
def FnExactGridShiftWrongFalsely : Prop := fnExactGridShiftRow.holds Try.pinned (OpenSpec.ofChange fnExactGridShiftWrong)

/-- 'laws.FnExactGridRoll': WHATEVER THE INPUT: true; the input reads as it did. -/
def fnExactGridRollSpec : ChangeSpec := { name := "fnExactGridRoll", fn := fun _ => fun
  | [d1, d2, d3, d4] => { results := [.lit (.bool true)], args := [d1, d2, d3, d4] }
  | _ => none }
def fnExactGridRollRow : OpenClaim := { program := "ytdmhmelmoobekaa", sum := "8cd905335f5c72eee6a3eba51d2de37b303a4f96b6774eaa8f570a3230bc486e", func := "loop.example/g00661/laws.FnExactGridRoll", spec := "fnExactGridRoll", unfollowed := true, recurses := true, apart := false }
def FnExactGridRollSaid : Prop := fnExactGridRollRow.holds Try.pinned (OpenSpec.ofChange fnExactGridRollSpec)

/-- ITS FALSE NEIGHBOUR: 'it returns false'. Refute it at one input. -/
def fnExactGridRollWrong : ChangeSpec := { name := "fnExactGridRoll", fn := fun _ => fun
  | [d1, d2, d3, d4] => { results := [.lit (.bool false)], args := [d1, d2, d3, d4] }
  | _ => none }
def FnExactGridRollWrongFalsely : Prop := fnExactGridRollRow.holds Try.pinned (OpenSpec.ofChange fnExactGridRollWrong)

/-- 'laws.FnExactScrNew': WHATEVER THE INPUT: true; the input reads as it did. -/
def fnExactScrNewSpec : ChangeSpec := { name := "fnExactScrNew", fn := fun _ => fun
  | [d1, d2, d3] => { results := [.lit (.bool true)], args := [d1, d2, d3] }
  | _ => none }
def fnExactScrNewRow : OpenClaim := { program := "ytdmhmelmoobekaa", sum := "8cd905335f5c72eee6a3eba51d2de37b303a4f96b6774eaa8f570a3230bc486e", func := "loop.example/g00661/laws.FnExactScrNew", spec := "fnExactScrNew", apart := false }
def FnExactScrNewSaid : Prop := fnExactScrNewRow.holds Try.pinned (OpenSpec.ofChange fnExactScrNewSpec)

/-- ITS FALSE NEIGHBOUR: 'it returns false'. Refute it at one input. -/
def fnExactScrNewWrong : ChangeSpec := { name := "fnExactScrNew", fn := fun _ => fun
  | [d1, d2, d3] => { results := [.lit (.bool false)], args := [d1, d2, d3] }
  | _ => none }
def FnExactScrNewWrongFalsely : Prop := fnExactScrNewRow.holds Try.pinned (OpenSpec.ofChange fnExactScrNewWrong)

/-- 'laws.FnExactScrOk': WHATEVER THE INPUT: true; the input reads as it did. -/
def fnExactScrOkSpec : ChangeSpec := { name := "fnExactScrOk", fn := fun _ => fun
  | [d] => { results := [.lit (.bool true)], args := [d] }
  | _ => none }
def fnExactScrOkRow : OpenClaim := { program := "ytdmhmelmoobekaa", sum := "8cd905335f5c72eee6a3eba51d2de37b303a4f96b6774eaa8f570a3230bc486e", func := "loop.example/g00661/laws.FnExactScrOk", spec := "fnExactScrOk", unfollowed := true, recurses := true, apart := false }
def FnExactScrOkSaid : Prop := fnExactScrOkRow.holds Try.pinned (OpenSpec.ofChange fnExactScrOkSpec)

/-- ITS FALSE NEIGHBOUR: 'it returns false'. Refute it at one input. -/
def fnExactScrOkWrong : ChangeSpec := { name := "fnExactScrOk", fn := fun _ => fun
  | [d] => { results := [.lit (.bool false)], args := [d] }
  | _ => none }
def FnExactScrOkWrongFalsely : Prop := fnExactScrOkRow.holds Try.pinned (OpenSpec.ofChange fnExactScrOkWrong)

/-- 'laws.FnExactShown': WHATEVER THE INPUT: true; the input reads as it did. -/
def fnExactShownSpec : ChangeSpec := { name := "fnExactShown", fn := fun _ => fun
  | [d] => { results := [.lit (.bool true)], args := [d] }
  | _ => none }
def fnExactShownRow : OpenClaim := { program := "ytdmhmelmoobekaa", sum := "8cd905335f5c72eee6a3eba51d2de37b303a4f96b6774eaa8f570a3230bc486e", func := "loop.example/g00661/laws.FnExactShown", spec := "fnExactShown", unfollowed := true, recurses := true, apart := false }
def FnExactShownSaid : Prop := fnExactShownRow.holds Try.pinned (OpenSpec.ofChange fnExactShownSpec)

/-- ITS FALSE NEIGHBOUR: 'it returns false'. Refute it at one input. -/
def fnExactShownWrong : ChangeSpec := { name := "fnExactShown", fn := fun _ => fun
  | [d] => { results := [.lit (.bool false)], args := [d] }
  | _ => none }
def FnExactShownWrongFalsely : Prop := fnExactShownRow.holds Try.pinned (OpenSpec.ofChange fnExactShownWrong)

/- THE SECOND FORM. 'bulk': how many values and letters a reading holds, each counted each time it is reached (what is shared counts as often as it is met; a slice's spare places count too). A statement '..UptoSaid' is the law's where the arguments, and the package variables that the reading takes, are together of bulk at most 1048576: NARROWER than '..Said'. Prove '..Said' where nothing that the law and all that it calls make is longer than what came in: it says more and counts as full. Else prove '..UptoSaid'. A law counts once. -/
mutual
def uptoBulk {H : Type} : DataW H → Nat
  | .lit (.string bytes) => bytes.length + 1
  | .lit _ => 1
  | .nil => 1
  | .ptr d => uptoBulk d + 1
  | .slice elems spare => uptoBulkAll elems + uptoBulkAll spare + 1
  | .agg parts => uptoBulkAll parts + 1
  | .iface _ d => uptoBulk d + 1
  | .map entries => uptoBulkEntries entries + 1
  | .held _ => 1
def uptoBulkAll {H : Type} : List (DataW H) → Nat
  | [] => 0
  | d :: r => uptoBulk d + uptoBulkAll r
def uptoBulkEntries {H : Type} : List (Lit × DataW H) → Nat
  | [] => 0
  | x :: r => uptoBulkEntry x + uptoBulkEntries r
def uptoBulkEntry {H : Type} : Lit × DataW H → Nat
  | (.string bytes, d) => bytes.length + uptoBulk d + 1
  | (_, d) => uptoBulk d + 1
 end
def uptoSmall : (H : Type) → List (DataW H) → Bool := fun _ ds => decide (uptoBulkAll ds ≤ 1048576)
def OpenSpec.upto (s : _root_.Go.ChangeSpec) : _root_.Go.OpenSpec := { _root_.Go.OpenSpec.ofChange s with cond := some uptoSmall }

/-- 'laws.FnExactGridAt', WHERE WHAT IT READS IS OF BULK AT MOST 1048576: true; the input reads as it did. -/
def fnExactGridAtUptoRow : OpenClaim := { program := "ytdmhmelmoobekaa", sum := "8cd905335f5c72eee6a3eba51d2de37b303a4f96b6774eaa8f570a3230bc486e", func := "loop.example/g00661/laws.FnExactGridAt", spec := "fnExactGridAt", unfollowed := true, recurses := true, apart := false, narrowed := true }
def FnExactGridAtUptoSaid : Prop := fnExactGridAtUptoRow.holds Try.pinned (OpenSpec.upto fnExactGridAtSpec)

/-- 'laws.FnExactGridNew', WHERE WHAT IT READS IS OF BULK AT MOST 1048576: true; the input reads as it did. -/
def fnExactGridNewUptoRow : OpenClaim := { program := "ytdmhmelmoobekaa", sum := "8cd905335f5c72eee6a3eba51d2de37b303a4f96b6774eaa8f570a3230bc486e", func := "loop.example/g00661/laws.FnExactGridNew", spec := "fnExactGridNew", apart := false, narrowed := true }
def FnExactGridNewUptoSaid : Prop := fnExactGridNewUptoRow.holds Try.pinned (OpenSpec.upto fnExactGridNewSpec)

/-- 'laws.FnExactGridText', WHERE WHAT IT READS IS OF BULK AT MOST 1048576: true; the input reads as it did. -/
def fnExactGridTextUptoRow : OpenClaim := { program := "ytdmhmelmoobekaa", sum := "8cd905335f5c72eee6a3eba51d2de37b303a4f96b6774eaa8f570a3230bc486e", func := "loop.example/g00661/laws.FnExactGridText", spec := "fnExactGridText", unfollowed := true, recurses := true, apart := false, narrowed := true }
def FnExactGridTextUptoSaid : Prop := fnExactGridTextUptoRow.holds Try.pinned (OpenSpec.upto fnExactGridTextSpec)

/-- 'laws.FnExactVpOk', WHERE WHAT IT READS IS OF BULK AT MOST 1048576: true; the input reads as it did. -/
def fnExactVpOkUptoRow : OpenClaim := { program := "ytdmhmelmoobekaa", sum := "8cd905335f5c72eee6a3eba51d2de37b303a4f96b6774eaa8f570a3230bc486e", func := "loop.example/g00661/laws.FnExactVpOk", spec := "fnExactVpOk", unfollowed := true, recurses := true, apart := false, narrowed := true }
def FnExactVpOkUptoSaid : Prop := fnExactVpOkUptoRow.holds Try.pinned (OpenSpec.upto fnExactVpOkSpec)

/-- 'laws.FnGrid', WHERE WHAT IT READS IS OF BULK AT MOST 1048576: true; the input reads as it did. -/
def fnGridUptoRow : OpenClaim := { program := "ytdmhmelmoobekaa", sum := "8cd905335f5c72eee6a3eba51d2de37b303a4f96b6774eaa8f570a3230bc486e", func := "loop.example/g00661/laws.FnGrid", spec := "fnGrid", unfollowed := true, recurses := true, apart := false, narrowed := true }
def FnGridUptoSaid : Prop := fnGridUptoRow.holds Try.pinned (OpenSpec.upto fnGridSpec)

/-- 'laws.FnExactGridFill', WHERE WHAT IT READS IS OF BULK AT MOST 1048576: true; the input reads as it did. -/
def fnExactGridFillUptoRow : OpenClaim := { program := "ytdmhmelmoobekaa", sum := "8cd905335f5c72eee6a3eba51d2de37b303a4f96b6774eaa8f570a3230bc486e", func := "loop.example/g00661/laws.FnExactGridFill", spec := "fnExactGridFill", unfollowed := true, recurses := true, apart := false, narrowed := true }
def FnExactGridFillUptoSaid : Prop := fnExactGridFillUptoRow.holds Try.pinned (OpenSpec.upto fnExactGridFillSpec)

/-- 'laws.FnExactGridPaste', WHERE WHAT IT READS IS OF BULK AT MOST 1048576: true; the input reads as it did. -/
def fnExactGridPasteUptoRow : OpenClaim := { program := "ytdmhmelmoobekaa", sum := "8cd905335f5c72eee6a3eba51d2de37b303a4f96b6774eaa8f570a3230bc486e", func := "loop.example/g00661/laws.FnExactGridPaste", spec := "fnExactGridPaste", unfollowed := true, recurses := true, apart := false, narrowed := true }
def FnExactGridPasteUptoSaid : Prop := fnExactGridPasteUptoRow.holds Try.pinned (OpenSpec.upto fnExactGridPasteSpec)

/-- 'laws.FnExactGridShift', WHERE WHAT IT READS IS OF BULK AT MOST 1048576: true; the input reads as it did. -/
def fnExactGridShiftUptoRow : OpenClaim := { program := "ytdmhmelmoobekaa", sum := "8cd905335f5c72eee6a3eba51d2de37b303a4f96b6774eaa8f570a3230bc486e", func := "loop.example/g00661/laws.FnExactGridShift", spec := "fnExactGridShift", unfollowed := true, recurses := true, apart := false, narrowed := true }
def FnExactGridShiftUptoSaid : Prop := fnExactGridShiftUptoRow.holds Try.pinned (OpenSpec.upto fnExactGridShiftSpec)

/-- 'laws.FnExactGridRoll', WHERE WHAT IT READS IS OF BULK AT MOST 1048576: true; the input reads as it did. -/
def fnExactGridRollUptoRow : OpenClaim := { program := "ytdmhmelmoobekaa", sum := "8cd905335f5c72eee6a3eba51d2de37b303a4f96b6774eaa8f570a3230bc486e", func := "loop.example/g00661/laws.FnExactGridRoll", spec := "fnExactGridRoll", unfollowed := true, recurses := true, apart := false, narrowed := true }
def FnExactGridRollUptoSaid : Prop := fnExactGridRollUptoRow.holds Try.pinned (OpenSpec.upto fnExactGridRollSpec)

/-- 'laws.FnExactScrNew', WHERE WHAT IT READS IS OF BULK AT MOST 1048576: true; the input reads as it did. -/
def fnExactScrNewUptoRow : OpenClaim := { program := "ytdmhmelmoobekaa", sum := "8cd905335f5c72eee6a3eba51d2de37b303a4f96b6774eaa8f570a3230bc486e", func := "loop.example/g00661/laws.FnExactScrNew", spec := "fnExactScrNew", apart := false, narrowed := true }
def FnExactScrNewUptoSaid : Prop := fnExactScrNewUptoRow.holds Try.pinned (OpenSpec.upto fnExactScrNewSpec)

/-- 'laws.FnExactScrOk', WHERE WHAT IT READS IS OF BULK AT MOST 1048576: true; the input reads as it did. -/
def fnExactScrOkUptoRow : OpenClaim := { program := "ytdmhmelmoobekaa", sum := "8cd905335f5c72eee6a3eba51d2de37b303a4f96b6774eaa8f570a3230bc486e", func := "loop.example/g00661/laws.FnExactScrOk", spec := "fnExactScrOk", unfollowed := true, recurses := true, apart := false, narrowed := true }
def FnExactScrOkUptoSaid : Prop := fnExactScrOkUptoRow.holds Try.pinned (OpenSpec.upto fnExactScrOkSpec)

/-- 'laws.FnExactShown', WHERE WHAT IT READS IS OF BULK AT MOST 1048576: true; the input reads as it did. -/
def fnExactShownUptoRow : OpenClaim := { program := "ytdmhmelmoobekaa", sum := "8cd905335f5c72eee6a3eba51d2de37b303a4f96b6774eaa8f570a3230bc486e", func := "loop.example/g00661/laws.FnExactShown", spec := "fnExactShown", unfollowed := true, recurses := true, apart := false, narrowed := true }
def FnExactShownUptoSaid : Prop := fnExactShownUptoRow.holds Try.pinned (OpenSpec.upto fnExactShownSpec)

end Rows
end Go.Proofs.Ytdmhmelmoobekaa
