/-
  No cell of these rows narrows 'for every input' (looked for: loops, veiled, ifaces, maps, wideKeys, modest, calm, conditions, laid).
  DERIVED. THE GIVEN ROWS OF THIS SEAT. 9 by the template 'for every input the law returns true; each argument reads behind the call as it read before'; 0 by the template 'total and deterministic' (their statements: YtgodpbiojekicaaTotals.lean).
  GIVEN WITH THE SEED: the statements are not yours to turn. If you find one false, say at which input.
  Laid BY PROGRAM, IN A SANDBOX (cutbox-rows.mjs): the forced cells as the released guide's own fill.sh prints them over the translation 498829434f5e9d69… (all of the seat's roots in one cut). By AI agents, Wed Nov 11 2026. No macro, syntax, notation, axiom, sorry.
-/
import Derived.Test.YtgodpbiojekicaaChecked
import GoSem.Claim
import GoSem.ClaimJoined
import GoSem.ClaimMapViews
import Derived.JoinedTies
import Derived.KernelRfl
namespace Go.Proofs.Ytgodpbiojekicaa
/- THE CELL 'sum', in the pinned program and in every row, IS THE sha256 OF THE DUMP (.gsa) THAT YtgodpbiojekicaaProg.lean LOADS. Nothing in Lean hashes anything: it is a label: what it is worth is what the hold of that sum in a sandbox is worth. -/
noncomputable def Try.pinned : Pinned := { name := "ytgodpbiojekicaa", sum := "498829434f5e9d691b96dc8738924e69de0ab97f468b48e13f4890f43a52ed94", checked := Try.checked }
namespace Rows
def none {H : Type} : Left H := { results := [], args := [] }

/-- 'laws.FnExactRuneBytes': WHATEVER THE INPUT: true; the input reads as it did. -/
def fnExactRuneBytesSpec : ChangeSpec := { name := "fnExactRuneBytes", fn := fun _ => fun
  | [d] => { results := [.lit (.bool true)], args := [d] }
  | _ => none }
def fnExactRuneBytesRow : OpenClaim := { program := "ytgodpbiojekicaa", sum := "498829434f5e9d691b96dc8738924e69de0ab97f468b48e13f4890f43a52ed94", func := "loop.example/g00661/laws.FnExactRuneBytes", spec := "fnExactRuneBytes", apart := false }
def FnExactRuneBytesSaid : Prop := fnExactRuneBytesRow.holds Try.pinned (OpenSpec.ofChange fnExactRuneBytesSpec)

/-- ITS FALSE NEIGHBOUR: 'it returns false'. Refute it at one input. -/
def fnExactRuneBytesWrong : ChangeSpec := { name := "fnExactRuneBytes", fn := fun _ => fun
  | [d] => { results := [.lit (.bool false)], args := [d] }
  | _ => none }
def FnExactRuneBytesWrongFalsely : Prop := fnExactRuneBytesRow.holds Try.pinned (OpenSpec.ofChange fnExactRuneBytesWrong)

/-- 'laws.FnExactRuneBegin': WHATEVER THE INPUT: true; the input reads as it did. -/
def fnExactRuneBeginSpec : ChangeSpec := { name := "fnExactRuneBegin", fn := fun _ => fun
  | [d] => { results := [.lit (.bool true)], args := [d] }
  | _ => none }
def fnExactRuneBeginRow : OpenClaim := { program := "ytgodpbiojekicaa", sum := "498829434f5e9d691b96dc8738924e69de0ab97f468b48e13f4890f43a52ed94", func := "loop.example/g00661/laws.FnExactRuneBegin", spec := "fnExactRuneBegin", apart := false }
def FnExactRuneBeginSaid : Prop := fnExactRuneBeginRow.holds Try.pinned (OpenSpec.ofChange fnExactRuneBeginSpec)

/-- ITS FALSE NEIGHBOUR: 'it returns false'. Refute it at one input. -/
def fnExactRuneBeginWrong : ChangeSpec := { name := "fnExactRuneBegin", fn := fun _ => fun
  | [d] => { results := [.lit (.bool false)], args := [d] }
  | _ => none }
def FnExactRuneBeginWrongFalsely : Prop := fnExactRuneBeginRow.holds Try.pinned (OpenSpec.ofChange fnExactRuneBeginWrong)

/-- 'laws.FnExactRuneRead': WHATEVER THE INPUT: true; the input reads as it did. -/
def fnExactRuneReadSpec : ChangeSpec := { name := "fnExactRuneRead", fn := fun _ => fun
  | [d1, d2] => { results := [.lit (.bool true)], args := [d1, d2] }
  | _ => none }
def fnExactRuneReadRow : OpenClaim := { program := "ytgodpbiojekicaa", sum := "498829434f5e9d691b96dc8738924e69de0ab97f468b48e13f4890f43a52ed94", func := "loop.example/g00661/laws.FnExactRuneRead", spec := "fnExactRuneRead", apart := false }
def FnExactRuneReadSaid : Prop := fnExactRuneReadRow.holds Try.pinned (OpenSpec.ofChange fnExactRuneReadSpec)

/-- ITS FALSE NEIGHBOUR: 'it returns false'. Refute it at one input. -/
def fnExactRuneReadWrong : ChangeSpec := { name := "fnExactRuneRead", fn := fun _ => fun
  | [d1, d2] => { results := [.lit (.bool false)], args := [d1, d2] }
  | _ => none }
def FnExactRuneReadWrongFalsely : Prop := fnExactRuneReadRow.holds Try.pinned (OpenSpec.ofChange fnExactRuneReadWrong)

/-- 'laws.FnExactSgr': WHATEVER THE INPUT: true; the input reads as it did. -/
def fnExactSgrSpec : ChangeSpec := { name := "fnExactSgr", fn := fun _ => fun
  | [d1, d2] => { results := [.lit (.bool true)], args := [d1, d2] }
  | _ => none }
def fnExactSgrRow : OpenClaim := { program := "ytgodpbiojekicaa", sum := "498829434f5e9d691b96dc8738924e69de0ab97f468b48e13f4890f43a52ed94", func := "loop.example/g00661/laws.FnExactSgr", spec := "fnExactSgr", apart := false }
def FnExactSgrSaid : Prop := fnExactSgrRow.holds Try.pinned (OpenSpec.ofChange fnExactSgrSpec)

/-- ITS FALSE NEIGHBOUR: 'it returns false'. Refute it at one input. -/
def fnExactSgrWrong : ChangeSpec := { name := "fnExactSgr", fn := fun _ => fun
  | [d1, d2] => { results := [.lit (.bool false)], args := [d1, d2] }
  | _ => none }
def FnExactSgrWrongFalsely : Prop := fnExactSgrRow.holds Try.pinned (OpenSpec.ofChange fnExactSgrWrong)

/-- 'laws.FnExactSameGrid': WHATEVER THE INPUT: true; the input reads as it did. -/
def fnExactSameGridSpec : ChangeSpec := { name := "fnExactSameGrid", fn := fun _ => fun
  | [d1, d2] => { results := [.lit (.bool true)], args := [d1, d2] }
  | _ => none }
def fnExactSameGridRow : OpenClaim := { program := "ytgodpbiojekicaa", sum := "498829434f5e9d691b96dc8738924e69de0ab97f468b48e13f4890f43a52ed94", func := "loop.example/g00661/laws.FnExactSameGrid", spec := "fnExactSameGrid", apart := false }
def FnExactSameGridSaid : Prop := fnExactSameGridRow.holds Try.pinned (OpenSpec.ofChange fnExactSameGridSpec)

/-- ITS FALSE NEIGHBOUR: 'it returns false'. Refute it at one input. -/
def fnExactSameGridWrong : ChangeSpec := { name := "fnExactSameGrid", fn := fun _ => fun
  | [d1, d2] => { results := [.lit (.bool false)], args := [d1, d2] }
  | _ => none }
def FnExactSameGridWrongFalsely : Prop := fnExactSameGridRow.holds Try.pinned (OpenSpec.ofChange fnExactSameGridWrong)

/-- 'laws.FnExactGridOk': WHATEVER THE INPUT: true; the input reads as it did. -/
def fnExactGridOkSpec : ChangeSpec := { name := "fnExactGridOk", fn := fun _ => fun
  | [d] => { results := [.lit (.bool true)], args := [d] }
  | _ => none }
def fnExactGridOkRow : OpenClaim := { program := "ytgodpbiojekicaa", sum := "498829434f5e9d691b96dc8738924e69de0ab97f468b48e13f4890f43a52ed94", func := "loop.example/g00661/laws.FnExactGridOk", spec := "fnExactGridOk", unfollowed := true, recurses := true, apart := false }
def FnExactGridOkSaid : Prop := fnExactGridOkRow.holds Try.pinned (OpenSpec.ofChange fnExactGridOkSpec)

/-- ITS FALSE NEIGHBOUR: 'it returns false'. Refute it at one input. -/
def fnExactGridOkWrong : ChangeSpec := { name := "fnExactGridOk", fn := fun _ => fun
  | [d] => { results := [.lit (.bool false)], args := [d] }
  | _ => none }
def FnExactGridOkWrongFalsely : Prop := fnExactGridOkRow.holds Try.pinned (OpenSpec.ofChange fnExactGridOkWrong)

/-- 'laws.FnExactGridAt': WHATEVER THE INPUT: true; the input reads as it did. -/
def fnExactGridAtSpec : ChangeSpec := { name := "fnExactGridAt", fn := fun _ => fun
  | [d1, d2, d3] => { results := [.lit (.bool true)], args := [d1, d2, d3] }
  | _ => none }
def fnExactGridAtRow : OpenClaim := { program := "ytgodpbiojekicaa", sum := "498829434f5e9d691b96dc8738924e69de0ab97f468b48e13f4890f43a52ed94", func := "loop.example/g00661/laws.FnExactGridAt", spec := "fnExactGridAt", unfollowed := true, recurses := true, apart := false }
def FnExactGridAtSaid : Prop := fnExactGridAtRow.holds Try.pinned (OpenSpec.ofChange fnExactGridAtSpec)

/-- ITS FALSE NEIGHBOUR: 'it returns false'. Refute it at one input. -/
def fnExactGridAtWrong : ChangeSpec := { name := "fnExactGridAt", fn := fun _ => fun
  | [d1, d2, d3] => { results := [.lit (.bool false)], args := [d1, d2, d3] }
  | _ => none }
def FnExactGridAtWrongFalsely : Prop := fnExactGridAtRow.holds Try.pinned (OpenSpec.ofChange fnExactGridAtWrong)

/-- 'laws.FnExactGridNew': WHATEVER THE INPUT: true; the input reads as it did. -/
def fnExactGridNewSpec : ChangeSpec := { name := "fnExactGridNew", fn := fun _ => fun
  | [d1, d2] => { results := [.lit (.bool true)], args := [d1, d2] }
  | _ => none }
def fnExactGridNewRow : OpenClaim := { program := "ytgodpbiojekicaa", sum := "498829434f5e9d691b96dc8738924e69de0ab97f468b48e13f4890f43a52ed94", func := "loop.example/g00661/laws.FnExactGridNew", spec := "fnExactGridNew", apart := false }
def FnExactGridNewSaid : Prop := fnExactGridNewRow.holds Try.pinned (OpenSpec.ofChange fnExactGridNewSpec)

/-- ITS FALSE NEIGHBOUR: 'it returns false'. Refute it at one input. -/
def fnExactGridNewWrong : ChangeSpec := { name := "fnExactGridNew", fn := fun _ => fun
  | [d1, d2] => { results := [.lit (.bool false)], args := [d1, d2] }
  | _ => none }
def FnExactGridNewWrongFalsely : Prop := fnExactGridNewRow.holds Try.pinned (OpenSpec.ofChange fnExactGridNewWrong)

/-- 'laws.FnExactGridText': WHATEVER THE INPUT: true; the input reads as it did. -/
def fnExactGridTextSpec : ChangeSpec := { name := "fnExactGridText", fn := fun _ => fun
  | [d] => { results := [.lit (.bool true)], args := [d] }
  | _ => none }
def fnExactGridTextRow : OpenClaim := { program := "ytgodpbiojekicaa", sum := "498829434f5e9d691b96dc8738924e69de0ab97f468b48e13f4890f43a52ed94", func := "loop.example/g00661/laws.FnExactGridText", spec := "fnExactGridText", unfollowed := true, recurses := true, apart := false }
def FnExactGridTextSaid : Prop := fnExactGridTextRow.holds Try.pinned (OpenSpec.ofChange fnExactGridTextSpec)

/-- ITS FALSE NEIGHBOUR: 'it returns false'. Refute it at one input. -/
def fnExactGridTextWrong : ChangeSpec := { name := "fnExactGridText", fn := fun _ => fun
  | [d] => { results := [.lit (.bool false)], args := [d] }
  | _ => none }
def FnExactGridTextWrongFalsely : Prop := fnExactGridTextRow.holds Try.pinned (OpenSpec.ofChange fnExactGridTextWrong)

/- THE SECOND FORM. 'bulk': how many values and letters a reading holds, each counted each time it is reached (what is shared counts as often as it is met; a slice's spare places count too). A statement '..UptoSaid' is the law's where the arguments, and the package variables that the reading takes, are together of bulk at most 1048576: NARROWER than '..Said'. Prove '..Said' where nothing that the law and all that it calls make is longer than what came in: it says more and counts as full. Else prove '..UptoSaid'. A law counts once. -/
mutual
def uptoBulk {H : Type} : DataW H → Nat
  | .lit (.string bytes) => bytes.length + 1
  | .lit _ => 1
  | .nil => 1
  | .ptr d => uptoBulk d + 1
  | .slice elems spare => uptoBulkAll elems + uptoBulkAll spare + 1
  | .agg parts => uptoBulkAll parts + 1
  | .iface _ d => uptoBulk d + 1
  | .map entries => uptoBulkEntries entries + 1
  | .held _ => 1
def uptoBulkAll {H : Type} : List (DataW H) → Nat
  | [] => 0
  | d :: r => uptoBulk d + uptoBulkAll r
def uptoBulkEntries {H : Type} : List (Lit × DataW H) → Nat
  | [] => 0
  | x :: r => uptoBulkEntry x + uptoBulkEntries r
def uptoBulkEntry {H : Type} : Lit × DataW H → Nat
  | (.string bytes, d) => bytes.length + uptoBulk d + 1
  | (_, d) => uptoBulk d + 1
 end
def uptoSmall : (H : Type) → List (DataW H) → Bool := fun _ ds => decide (uptoBulkAll ds ≤ 1048576)
def OpenSpec.upto (s : _root_.Go.ChangeSpec) : _root_.Go.OpenSpec := { _root_.Go.OpenSpec.ofChange s with cond := some uptoSmall }

/-- 'laws.FnExactRuneBytes', WHERE WHAT IT READS IS OF BULK AT MOST 1048576: true; the input reads as it did. -/
def fnExactRuneBytesUptoRow : OpenClaim := { program := "ytgodpbiojekicaa", sum := "498829434f5e9d691b96dc8738924e69de0ab97f468b48e13f4890f43a52ed94", func := "loop.example/g00661/laws.FnExactRuneBytes", spec := "fnExactRuneBytes", apart := false, narrowed := true }
def FnExactRuneBytesUptoSaid : Prop := fnExactRuneBytesUptoRow.holds Try.pinned (OpenSpec.upto fnExactRuneBytesSpec)

/-- 'laws.FnExactRuneBegin', WHERE WHAT IT READS IS OF BULK AT MOST 1048576: true; the input reads as it did. -/
def fnExactRuneBeginUptoRow : OpenClaim := { program := "ytgodpbiojekicaa", sum := "498829434f5e9d691b96dc8738924e69de0ab97f468b48e13f4890f43a52ed94", func := "loop.example/g00661/laws.FnExactRuneBegin", spec := "fnExactRuneBegin", apart := false, narrowed := true }
def FnExactRuneBeginUptoSaid : Prop := fnExactRuneBeginUptoRow.holds Try.pinned (OpenSpec.upto fnExactRuneBeginSpec)

/-- 'laws.FnExactRuneRead', WHERE WHAT IT READS IS OF BULK AT MOST 1048576: true; the input reads as it did. -/
def fnExactRuneReadUptoRow : OpenClaim := { program := "ytgodpbiojekicaa", sum := "498829434f5e9d691b96dc8738924e69de0ab97f468b48e13f4890f43a52ed94", func := "loop.example/g00661/laws.FnExactRuneRead", spec := "fnExactRuneRead", apart := false, narrowed := true }
def FnExactRuneReadUptoSaid : Prop := fnExactRuneReadUptoRow.holds Try.pinned (OpenSpec.upto fnExactRuneReadSpec)

/-- 'laws.FnExactSgr', WHERE WHAT IT READS IS OF BULK AT MOST 1048576: true; the input reads as it did. -/
def fnExactSgrUptoRow : OpenClaim := { program := "ytgodpbiojekicaa", sum := "498829434f5e9d691b96dc8738924e69de0ab97f468b48e13f4890f43a52ed94", func := "loop.example/g00661/laws.FnExactSgr", spec := "fnExactSgr", apart := false, narrowed := true }
def FnExactSgrUptoSaid : Prop := fnExactSgrUptoRow.holds Try.pinned (OpenSpec.upto fnExactSgrSpec)

/-- 'laws.FnExactSameGrid', WHERE WHAT IT READS IS OF BULK AT MOST 1048576: true; the input reads as it did. -/
def fnExactSameGridUptoRow : OpenClaim := { program := "ytgodpbiojekicaa", sum := "498829434f5e9d691b96dc8738924e69de0ab97f468b48e13f4890f43a52ed94", func := "loop.example/g00661/laws.FnExactSameGrid", spec := "fnExactSameGrid", apart := false, narrowed := true }
def FnExactSameGridUptoSaid : Prop := fnExactSameGridUptoRow.holds Try.pinned (OpenSpec.upto fnExactSameGridSpec)

/-- 'laws.FnExactGridOk', WHERE WHAT IT READS IS OF BULK AT MOST 1048576: true; the input reads as it did. -/
def fnExactGridOkUptoRow : OpenClaim := { program := "ytgodpbiojekicaa", sum := "498829434f5e9d691b96dc8738924e69de0ab97f468b48e13f4890f43a52ed94", func := "loop.example/g00661/laws.FnExactGridOk", spec := "fnExactGridOk", unfollowed := true, recurses := true, apart := false, narrowed := true }
def FnExactGridOkUptoSaid : Prop := fnExactGridOkUptoRow.holds Try.pinned (OpenSpec.upto fnExactGridOkSpec)

/-- 'laws.FnExactGridAt', WHERE WHAT IT READS IS OF BULK AT MOST 1048576: true; the input reads as it did. -/
def fnExactGridAtUptoRow : OpenClaim := { program := "ytgodpbiojekicaa", sum := "498829434f5e9d691b96dc8738924e69de0ab97f468b48e13f4890f43a52ed94", func := "loop.example/g00661/laws.FnExactGridAt", spec := "fnExactGridAt", unfollowed := true, recurses := true, apart := false, narrowed := true }
def FnExactGridAtUptoSaid : Prop := fnExactGridAtUptoRow.holds Try.pinned (OpenSpec.upto fnExactGridAtSpec)

/-- 'laws.FnExactGridNew', WHERE WHAT IT READS IS OF BULK AT MOST 1048576: true; the input reads as it did. -/
def fnExactGridNewUptoRow : OpenClaim := { program := "ytgodpbiojekicaa", sum := "498829434f5e9d691b96dc8738924e69de0ab97f468b48e13f4890f43a52ed94", func := "loop.example/g00661/laws.FnExactGridNew", spec := "fnExactGridNew", apart := false, narrowed := true }
def FnExactGridNewUptoSaid : Prop := fnExactGridNewUptoRow.holds Try.pinned (OpenSpec.upto fnExactGridNewSpec)

/-- 'laws.FnExactGridText', WHERE WHAT IT READS IS OF BULK AT MOST 1048576: true; the input reads as it did. -/
def fnExactGridTextUptoRow : OpenClaim := { program := "ytgodpbiojekicaa", sum := "498829434f5e9d691b96dc8738924e69de0ab97f468b48e13f4890f43a52ed94", func := "loop.example/g00661/laws.FnExactGridText", spec := "fnExactGridText", unfollowed := true, recurses := true, apart := false, narrowed := true }
def FnExactGridTextUptoSaid : Prop := fnExactGridTextUptoRow.holds Try.pinned (OpenSpec.upto fnExactGridTextSpec)

end Rows
end Go.Proofs.Ytgodpbiojekicaa
