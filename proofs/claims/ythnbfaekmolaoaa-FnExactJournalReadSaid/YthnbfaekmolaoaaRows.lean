/-
  No cell of these rows narrows 'for every input' (looked for: loops, veiled, ifaces, maps, wideKeys, modest, calm, conditions, laid).
  DERIVED. THE GIVEN ROWS OF THIS SEAT. 14 by the template 'for every input the law returns true; each argument reads behind the call as it read before'; 0 by the template 'total and deterministic' (their statements: YthnbfaekmolaoaaTotals.lean).
  GIVEN WITH THE SEED: the statements are not yours to turn. If you find one false, say at which input.
  Laid BY PROGRAM, IN A SANDBOX (cutbox-rows.mjs): the forced cells as the released guide's own fill.sh prints them over the translation 0d9397a166f0a349… (all of the seat's roots in one cut). By AI agents, Wed Nov 11 2026. No macro, syntax, notation, axiom, sorry.
-/
import Derived.Test.YthnbfaekmolaoaaChecked
import GoSem.Claim
import GoSem.ClaimJoined
import GoSem.ClaimMapViews
import Derived.JoinedTies
import Derived.KernelRfl
namespace Go.Proofs.Ythnbfaekmolaoaa
/- THE CELL 'sum', in the pinned program and in every row, IS THE sha256 OF THE DUMP (.gsa) THAT YthnbfaekmolaoaaProg.lean LOADS. Nothing in Lean hashes anything: it is a label: what it is worth is what the hold of that sum in a sandbox is worth. -/
noncomputable def Try.pinned : Pinned := { name := "ythnbfaekmolaoaa", sum := "0d9397a166f0a349c634e59c3999535d03cde01d523aae9756d1c67221c7e189", checked := Try.checked }
namespace Rows
def none {H : Type} : Left H := { results := [], args := [] }

/-- 'laws.FnExactNameOk': WHATEVER THE INPUT: true; the input reads as it did. -/
def fnExactNameOkSpec : ChangeSpec := { name := "fnExactNameOk", fn := fun _ => fun
  | [d] => { results := [.lit (.bool true)], args := [d] }
  | _ => none }
def fnExactNameOkRow : OpenClaim := { program := "ythnbfaekmolaoaa", sum := "0d9397a166f0a349c634e59c3999535d03cde01d523aae9756d1c67221c7e189", func := "loop.example/g00661/laws.FnExactNameOk", spec := "fnExactNameOk", inPlace := ["internal/bytealg.IndexByteString"], apart := false }
def FnExactNameOkSaid : Prop := fnExactNameOkRow.holds Try.pinned (OpenSpec.ofChange fnExactNameOkSpec)

/-- ITS FALSE NEIGHBOUR: 'it returns false'. Refute it at one input. -/
def fnExactNameOkWrong : ChangeSpec := { name := "fnExactNameOk", fn := fun _ => fun
  | [d] => { results := [.lit (.bool false)], args := [d] }
  | _ => none }
def FnExactNameOkWrongFalsely : Prop := fnExactNameOkRow.holds Try.pinned (OpenSpec.ofChange fnExactNameOkWrong)

/-- 'laws.FnExactWordOk': WHATEVER THE INPUT: true; the input reads as it did. -/
def fnExactWordOkSpec : ChangeSpec := { name := "fnExactWordOk", fn := fun _ => fun
  | [d] => { results := [.lit (.bool true)], args := [d] }
  | _ => none }
def fnExactWordOkRow : OpenClaim := { program := "ythnbfaekmolaoaa", sum := "0d9397a166f0a349c634e59c3999535d03cde01d523aae9756d1c67221c7e189", func := "loop.example/g00661/laws.FnExactWordOk", spec := "fnExactWordOk", inPlace := ["internal/bytealg.IndexByteString"], apart := false }
def FnExactWordOkSaid : Prop := fnExactWordOkRow.holds Try.pinned (OpenSpec.ofChange fnExactWordOkSpec)

/-- ITS FALSE NEIGHBOUR: 'it returns false'. Refute it at one input. -/
def fnExactWordOkWrong : ChangeSpec := { name := "fnExactWordOk", fn := fun _ => fun
  | [d] => { results := [.lit (.bool false)], args := [d] }
  | _ => none }
def FnExactWordOkWrongFalsely : Prop := fnExactWordOkRow.holds Try.pinned (OpenSpec.ofChange fnExactWordOkWrong)

/-- 'laws.FnExactCrc': WHATEVER THE INPUT: true; the input reads as it did. -/
def fnExactCrcSpec : ChangeSpec := { name := "fnExactCrc", fn := fun _ => fun
  | [d] => { results := [.lit (.bool true)], args := [d] }
  | _ => none }
def fnExactCrcRow : OpenClaim := { program := "ythnbfaekmolaoaa", sum := "0d9397a166f0a349c634e59c3999535d03cde01d523aae9756d1c67221c7e189", func := "loop.example/g00661/laws.FnExactCrc", spec := "fnExactCrc", apart := false }
def FnExactCrcSaid : Prop := fnExactCrcRow.holds Try.pinned (OpenSpec.ofChange fnExactCrcSpec)

/-- ITS FALSE NEIGHBOUR: 'it returns false'. Refute it at one input. -/
def fnExactCrcWrong : ChangeSpec := { name := "fnExactCrc", fn := fun _ => fun
  | [d] => { results := [.lit (.bool false)], args := [d] }
  | _ => none }
def FnExactCrcWrongFalsely : Prop := fnExactCrcRow.holds Try.pinned (OpenSpec.ofChange fnExactCrcWrong)

/-- 'laws.FnExactGetVar': WHATEVER THE INPUT: true; the input reads as it did. -/
def fnExactGetVarSpec : ChangeSpec := { name := "fnExactGetVar", fn := fun _ => fun
  | [d1, d2] => { results := [.lit (.bool true)], args := [d1, d2] }
  | _ => none }
def fnExactGetVarRow : OpenClaim := { program := "ythnbfaekmolaoaa", sum := "0d9397a166f0a349c634e59c3999535d03cde01d523aae9756d1c67221c7e189", func := "loop.example/g00661/laws.FnExactGetVar", spec := "fnExactGetVar", apart := false }
def FnExactGetVarSaid : Prop := fnExactGetVarRow.holds Try.pinned (OpenSpec.ofChange fnExactGetVarSpec)

/-- ITS FALSE NEIGHBOUR: 'it returns false'. Refute it at one input. -/
def fnExactGetVarWrong : ChangeSpec := { name := "fnExactGetVar", fn := fun _ => fun
  | [d1, d2] => { results := [.lit (.bool false)], args := [d1, d2] }
  | _ => none }
def FnExactGetVarWrongFalsely : Prop := fnExactGetVarRow.holds Try.pinned (OpenSpec.ofChange fnExactGetVarWrong)

/-- 'laws.FnExactPutVar': WHATEVER THE INPUT: true; the input reads as it did. -/
def fnExactPutVarSpec : ChangeSpec := { name := "fnExactPutVar", fn := fun _ => fun
  | [d1, d2] => { results := [.lit (.bool true)], args := [d1, d2] }
  | _ => none }
def fnExactPutVarRow : OpenClaim := { program := "ythnbfaekmolaoaa", sum := "0d9397a166f0a349c634e59c3999535d03cde01d523aae9756d1c67221c7e189", func := "loop.example/g00661/laws.FnExactPutVar", spec := "fnExactPutVar", apart := false }
def FnExactPutVarSaid : Prop := fnExactPutVarRow.holds Try.pinned (OpenSpec.ofChange fnExactPutVarSpec)

/-- ITS FALSE NEIGHBOUR: 'it returns false'. Refute it at one input. -/
def fnExactPutVarWrong : ChangeSpec := { name := "fnExactPutVar", fn := fun _ => fun
  | [d1, d2] => { results := [.lit (.bool false)], args := [d1, d2] }
  | _ => none }
def FnExactPutVarWrongFalsely : Prop := fnExactPutVarRow.holds Try.pinned (OpenSpec.ofChange fnExactPutVarWrong)

/-- 'laws.FnExactPutText': WHATEVER THE INPUT: true; the input reads as it did. -/
def fnExactPutTextSpec : ChangeSpec := { name := "fnExactPutText", fn := fun _ => fun
  | [d1, d2] => { results := [.lit (.bool true)], args := [d1, d2] }
  | _ => none }
def fnExactPutTextRow : OpenClaim := { program := "ythnbfaekmolaoaa", sum := "0d9397a166f0a349c634e59c3999535d03cde01d523aae9756d1c67221c7e189", func := "loop.example/g00661/laws.FnExactPutText", spec := "fnExactPutText", apart := false }
def FnExactPutTextSaid : Prop := fnExactPutTextRow.holds Try.pinned (OpenSpec.ofChange fnExactPutTextSpec)

/-- ITS FALSE NEIGHBOUR: 'it returns false'. Refute it at one input. -/
def fnExactPutTextWrong : ChangeSpec := { name := "fnExactPutText", fn := fun _ => fun
  | [d1, d2] => { results := [.lit (.bool false)], args := [d1, d2] }
  | _ => none }
def FnExactPutTextWrongFalsely : Prop := fnExactPutTextRow.holds Try.pinned (OpenSpec.ofChange fnExactPutTextWrong)

/-- 'laws.FnExactGetText': WHATEVER THE INPUT: true; the input reads as it did. -/
def fnExactGetTextSpec : ChangeSpec := { name := "fnExactGetText", fn := fun _ => fun
  | [d1, d2] => { results := [.lit (.bool true)], args := [d1, d2] }
  | _ => none }
def fnExactGetTextRow : OpenClaim := { program := "ythnbfaekmolaoaa", sum := "0d9397a166f0a349c634e59c3999535d03cde01d523aae9756d1c67221c7e189", func := "loop.example/g00661/laws.FnExactGetText", spec := "fnExactGetText", apart := false }
def FnExactGetTextSaid : Prop := fnExactGetTextRow.holds Try.pinned (OpenSpec.ofChange fnExactGetTextSpec)

/-- ITS FALSE NEIGHBOUR: 'it returns false'. Refute it at one input. -/
def fnExactGetTextWrong : ChangeSpec := { name := "fnExactGetText", fn := fun _ => fun
  | [d1, d2] => { results := [.lit (.bool false)], args := [d1, d2] }
  | _ => none }
def FnExactGetTextWrongFalsely : Prop := fnExactGetTextRow.holds Try.pinned (OpenSpec.ofChange fnExactGetTextWrong)

/-- 'laws.FnExactFrameBytes': WHATEVER THE INPUT: true; the input reads as it did. -/
def fnExactFrameBytesSpec : ChangeSpec := { name := "fnExactFrameBytes", fn := fun _ => fun
  | [d1, d2] => { results := [.lit (.bool true)], args := [d1, d2] }
  | _ => none }
def fnExactFrameBytesRow : OpenClaim := { program := "ythnbfaekmolaoaa", sum := "0d9397a166f0a349c634e59c3999535d03cde01d523aae9756d1c67221c7e189", func := "loop.example/g00661/laws.FnExactFrameBytes", spec := "fnExactFrameBytes", apart := false }
def FnExactFrameBytesSaid : Prop := fnExactFrameBytesRow.holds Try.pinned (OpenSpec.ofChange fnExactFrameBytesSpec)

/-- ITS FALSE NEIGHBOUR: 'it returns false'. Refute it at one input. -/
def fnExactFrameBytesWrong : ChangeSpec := { name := "fnExactFrameBytes", fn := fun _ => fun
  | [d1, d2] => { results := [.lit (.bool false)], args := [d1, d2] }
  | _ => none }
def FnExactFrameBytesWrongFalsely : Prop := fnExactFrameBytesRow.holds Try.pinned (OpenSpec.ofChange fnExactFrameBytesWrong)

/-- 'laws.FnExactSnapBytes': WHATEVER THE INPUT: true; the input reads as it did. -/
def fnExactSnapBytesSpec : ChangeSpec := { name := "fnExactSnapBytes", fn := fun _ => fun
  | [d1, d2, d3] => { results := [.lit (.bool true)], args := [d1, d2, d3] }
  | _ => none }
def fnExactSnapBytesRow : OpenClaim := { program := "ythnbfaekmolaoaa", sum := "0d9397a166f0a349c634e59c3999535d03cde01d523aae9756d1c67221c7e189", func := "loop.example/g00661/laws.FnExactSnapBytes", spec := "fnExactSnapBytes", apart := false }
def FnExactSnapBytesSaid : Prop := fnExactSnapBytesRow.holds Try.pinned (OpenSpec.ofChange fnExactSnapBytesSpec)

/-- ITS FALSE NEIGHBOUR: 'it returns false'. Refute it at one input. -/
def fnExactSnapBytesWrong : ChangeSpec := { name := "fnExactSnapBytes", fn := fun _ => fun
  | [d1, d2, d3] => { results := [.lit (.bool false)], args := [d1, d2, d3] }
  | _ => none }
def FnExactSnapBytesWrongFalsely : Prop := fnExactSnapBytesRow.holds Try.pinned (OpenSpec.ofChange fnExactSnapBytesWrong)

/-- 'laws.FnJournal': WHATEVER THE INPUT: true; the input reads as it did. -/
def fnJournalSpec : ChangeSpec := { name := "fnJournal", fn := fun _ => fun
  | [d] => { results := [.lit (.bool true)], args := [d] }
  | _ => none }
def fnJournalRow : OpenClaim := { program := "ythnbfaekmolaoaa", sum := "0d9397a166f0a349c634e59c3999535d03cde01d523aae9756d1c67221c7e189", func := "loop.example/g00661/laws.FnJournal", spec := "fnJournal", apart := false }
def FnJournalSaid : Prop := fnJournalRow.holds Try.pinned (OpenSpec.ofChange fnJournalSpec)

/-- ITS FALSE NEIGHBOUR: 'it returns false'. Refute it at one input. -/
def fnJournalWrong : ChangeSpec := { name := "fnJournal", fn := fun _ => fun
  | [d] => { results := [.lit (.bool false)], args := [d] }
  | _ => none }
def FnJournalWrongFalsely : Prop := fnJournalRow.holds Try.pinned (OpenSpec.ofChange fnJournalWrong)

/-- 'laws.FnExactJournalBytes': WHATEVER THE INPUT: true; the input reads as it did. -/
def fnExactJournalBytesSpec : ChangeSpec := { name := "fnExactJournalBytes", fn := fun _ => fun
  | [d1, d2] => { results := [.lit (.bool true)], args := [d1, d2] }
  | _ => none }
def fnExactJournalBytesRow : OpenClaim := { program := "ythnbfaekmolaoaa", sum := "0d9397a166f0a349c634e59c3999535d03cde01d523aae9756d1c67221c7e189", func := "loop.example/g00661/laws.FnExactJournalBytes", spec := "fnExactJournalBytes", apart := false }
def FnExactJournalBytesSaid : Prop := fnExactJournalBytesRow.holds Try.pinned (OpenSpec.ofChange fnExactJournalBytesSpec)

/-- ITS FALSE NEIGHBOUR: 'it returns false'. Refute it at one input. -/
def fnExactJournalBytesWrong : ChangeSpec := { name := "fnExactJournalBytes", fn := fun _ => fun
  | [d1, d2] => { results := [.lit (.bool false)], args := [d1, d2] }
  | _ => none }
def FnExactJournalBytesWrongFalsely : Prop := fnExactJournalBytesRow.holds Try.pinned (OpenSpec.ofChange fnExactJournalBytesWrong)

/-- 'laws.FnExactSnapRead': WHATEVER THE INPUT: true; the input reads as it did. -/
def fnExactSnapReadSpec : ChangeSpec := { name := "fnExactSnapRead", fn := fun _ => fun
  | [d] => { results := [.lit (.bool true)], args := [d] }
  | _ => none }
def fnExactSnapReadRow : OpenClaim := { program := "ythnbfaekmolaoaa", sum := "0d9397a166f0a349c634e59c3999535d03cde01d523aae9756d1c67221c7e189", func := "loop.example/g00661/laws.FnExactSnapRead", spec := "fnExactSnapRead", apart := false }
def FnExactSnapReadSaid : Prop := fnExactSnapReadRow.holds Try.pinned (OpenSpec.ofChange fnExactSnapReadSpec)

/-- ITS FALSE NEIGHBOUR: 'it returns false'. Refute it at one input. -/
def fnExactSnapReadWrong : ChangeSpec := { name := "fnExactSnapRead", fn := fun _ => fun
  | [d] => { results := [.lit (.bool false)], args := [d] }
  | _ => none }
def FnExactSnapReadWrongFalsely : Prop := fnExactSnapReadRow.holds Try.pinned (OpenSpec.ofChange fnExactSnapReadWrong)

/-- 'laws.FnExactFrameRead': WHATEVER THE INPUT: true; the input reads as it did. -/
def fnExactFrameReadSpec : ChangeSpec := { name := "fnExactFrameRead", fn := fun _ => fun
  | [d1, d2] => { results := [.lit (.bool true)], args := [d1, d2] }
  | _ => none }
def fnExactFrameReadRow : OpenClaim := { program := "ythnbfaekmolaoaa", sum := "0d9397a166f0a349c634e59c3999535d03cde01d523aae9756d1c67221c7e189", func := "loop.example/g00661/laws.FnExactFrameRead", spec := "fnExactFrameRead", apart := false }
def FnExactFrameReadSaid : Prop := fnExactFrameReadRow.holds Try.pinned (OpenSpec.ofChange fnExactFrameReadSpec)

/-- ITS FALSE NEIGHBOUR: 'it returns false'. Refute it at one input. -/
def fnExactFrameReadWrong : ChangeSpec := { name := "fnExactFrameRead", fn := fun _ => fun
  | [d1, d2] => { results := [.lit (.bool false)], args := [d1, d2] }
  | _ => none }
def FnExactFrameReadWrongFalsely : Prop := fnExactFrameReadRow.holds Try.pinned (OpenSpec.ofChange fnExactFrameReadWrong)

/-- 'laws.FnExactJournalRead': WHATEVER THE INPUT: true; the input reads as it did. -/
def fnExactJournalReadSpec : ChangeSpec := { name := "fnExactJournalRead", fn := fun _ => fun
  | [d1, d2] => { results := [.lit (.bool true)], args := [d1, d2] }
  | _ => none }
def fnExactJournalReadRow : OpenClaim := { program := "ythnbfaekmolaoaa", sum := "0d9397a166f0a349c634e59c3999535d03cde01d523aae9756d1c67221c7e189", func := "loop.example/g00661/laws.FnExactJournalRead", spec := "fnExactJournalRead", apart := false }
def FnExactJournalReadSaid : Prop := fnExactJournalReadRow.holds Try.pinned (OpenSpec.ofChange fnExactJournalReadSpec)

/-- ITS FALSE NEIGHBOUR: 'it returns false'. Refute it at one input. -/
def fnExactJournalReadWrong : ChangeSpec := { name := "fnExactJournalRead", fn := fun _ => fun
  | [d1, d2] => { results := [.lit (.bool false)], args := [d1, d2] }
  | _ => none }
def FnExactJournalReadWrongFalsely : Prop := fnExactJournalReadRow.holds Try.pinned (OpenSpec.ofChange fnExactJournalReadWrong)

/- THE SECOND FORM. 'bulk': how many values and letters a reading holds, each counted each time it is reached (what is shared counts as often as it is met; a slice's spare places count too). A statement '..UptoSaid' is the law's where the arguments, and the package variables that the reading takes, are together of bulk at most 1048576: NARROWER than '..Said'. Prove '..Said' where nothing that the law and all that it calls make is longer than what came in: it says more and counts as full. Else prove '..UptoSaid'. A law counts once. -/
mutual
def uptoBulk {H : Type} : DataW H → Nat
  | .lit (.string bytes) => bytes.length + 1
  | .lit _ => 1
  | .nil => 1
  | .ptr d => uptoBulk d + 1
  | .slice elems spare => uptoBulkAll elems + uptoBulkAll spare + 1
  | .agg parts => uptoBulkAll parts + 1
  | .iface _ d => uptoBulk d + 1
  | .map entries => uptoBulkEntries entries + 1
  | .held _ => 1
def uptoBulkAll {H : Type} : List (DataW H) → Nat
  | [] => 0
  | d :: r => uptoBulk d + uptoBulkAll r
def uptoBulkEntries {H : Type} : List (Lit × DataW H) → Nat
  | [] => 0
  | x :: r => uptoBulkEntry x + uptoBulkEntries r
def uptoBulkEntry {H : Type} : Lit × DataW H → Nat
  | (.string bytes, d) => bytes.length + uptoBulk d + 1
  | (_, d) => uptoBulk d + 1
 end
def uptoSmall : (H : Type) → List (DataW H) → Bool := fun _ ds => decide (uptoBulkAll ds ≤ 1048576)
def OpenSpec.upto (s : _root_.Go.ChangeSpec) : _root_.Go.OpenSpec := { _root_.Go.OpenSpec.ofChange s with cond := some uptoSmall }

/-- 'laws.FnExactNameOk', WHERE WHAT IT READS IS OF BULK AT MOST 1048576: true; the input reads as it did. -/
def fnExactNameOkUptoRow : OpenClaim := { program := "ythnbfaekmolaoaa", sum := "0d9397a166f0a349c634e59c3999535d03cde01d523aae9756d1c67221c7e189", func := "loop.example/g00661/laws.FnExactNameOk", spec := "fnExactNameOk", inPlace := ["internal/bytealg.IndexByteString"], apart := false, narrowed := true }
def FnExactNameOkUptoSaid : Prop := fnExactNameOkUptoRow.holds Try.pinned (OpenSpec.upto fnExactNameOkSpec)

/-- 'laws.FnExactWordOk', WHERE WHAT IT READS IS OF BULK AT MOST 1048576: true; the input reads as it did. -/
def fnExactWordOkUptoRow : OpenClaim := { program := "ythnbfaekmolaoaa", sum := "0d9397a166f0a349c634e59c3999535d03cde01d523aae9756d1c67221c7e189", func := "loop.example/g00661/laws.FnExactWordOk", spec := "fnExactWordOk", inPlace := ["internal/bytealg.IndexByteString"], apart := false, narrowed := true }
def FnExactWordOkUptoSaid : Prop := fnExactWordOkUptoRow.holds Try.pinned (OpenSpec.upto fnExactWordOkSpec)

/-- 'laws.FnExactCrc', WHERE WHAT IT READS IS OF BULK AT MOST 1048576: true; the input reads as it did. -/
def fnExactCrcUptoRow : OpenClaim := { program := "ythnbfaekmolaoaa", sum := "0d9397a166f0a349c634e59c3999535d03cde01d523aae9756d1c67221c7e189", func := "loop.example/g00661/laws.FnExactCrc", spec := "fnExactCrc", apart := false, narrowed := true }
def FnExactCrcUptoSaid : Prop := fnExactCrcUptoRow.holds Try.pinned (OpenSpec.upto fnExactCrcSpec)

/-- 'laws.FnExactGetVar', WHERE WHAT IT READS IS OF BULK AT MOST 1048576: true; the input reads as it did. -/
def fnExactGetVarUptoRow : OpenClaim := { program := "ythnbfaekmolaoaa", sum := "0d9397a166f0a349c634e59c3999535d03cde01d523aae9756d1c67221c7e189", func := "loop.example/g00661/laws.FnExactGetVar", spec := "fnExactGetVar", apart := false, narrowed := true }
def FnExactGetVarUptoSaid : Prop := fnExactGetVarUptoRow.holds Try.pinned (OpenSpec.upto fnExactGetVarSpec)

/-- 'laws.FnExactPutVar', WHERE WHAT IT READS IS OF BULK AT MOST 1048576: true; the input reads as it did. -/
def fnExactPutVarUptoRow : OpenClaim := { program := "ythnbfaekmolaoaa", sum := "0d9397a166f0a349c634e59c3999535d03cde01d523aae9756d1c67221c7e189", func := "loop.example/g00661/laws.FnExactPutVar", spec := "fnExactPutVar", apart := false, narrowed := true }
def FnExactPutVarUptoSaid : Prop := fnExactPutVarUptoRow.holds Try.pinned (OpenSpec.upto fnExactPutVarSpec)

/-- 'laws.FnExactPutText', WHERE WHAT IT READS IS OF BULK AT MOST 1048576: true; the input reads as it did. -/
def fnExactPutTextUptoRow : OpenClaim := { program := "ythnbfaekmolaoaa", sum := "0d9397a166f0a349c634e59c3999535d03cde01d523aae9756d1c67221c7e189", func := "loop.example/g00661/laws.FnExactPutText", spec := "fnExactPutText", apart := false, narrowed := true }
def FnExactPutTextUptoSaid : Prop := fnExactPutTextUptoRow.holds Try.pinned (OpenSpec.upto fnExactPutTextSpec)

/-- 'laws.FnExactGetText', WHERE WHAT IT READS IS OF BULK AT MOST 1048576: true; the input reads as it did. -/
def fnExactGetTextUptoRow : OpenClaim := { program := "ythnbfaekmolaoaa", sum := "0d9397a166f0a349c634e59c3999535d03cde01d523aae9756d1c67221c7e189", func := "loop.example/g00661/laws.FnExactGetText", spec := "fnExactGetText", apart := false, narrowed := true }
def FnExactGetTextUptoSaid : Prop := fnExactGetTextUptoRow.holds Try.pinned (OpenSpec.upto fnExactGetTextSpec)

/-- 'laws.FnExactFrameBytes', WHERE WHAT IT READS IS OF BULK AT MOST 1048576: true; the input reads as it did. -/
def fnExactFrameBytesUptoRow : OpenClaim := { program := "ythnbfaekmolaoaa", sum := "0d9397a166f0a349c634e59c3999535d03cde01d523aae9756d1c67221c7e189", func := "loop.example/g00661/laws.FnExactFrameBytes", spec := "fnExactFrameBytes", apart := false, narrowed := true }
def FnExactFrameBytesUptoSaid : Prop := fnExactFrameBytesUptoRow.holds Try.pinned (OpenSpec.upto fnExactFrameBytesSpec)

/-- 'laws.FnExactSnapBytes', WHERE WHAT IT READS IS OF BULK AT MOST 1048576: true; the input reads as it did. -/
def fnExactSnapBytesUptoRow : OpenClaim := { program := "ythnbfaekmolaoaa", sum := "0d9397a166f0a349c634e59c3999535d03cde01d523aae9756d1c67221c7e189", func := "loop.example/g00661/laws.FnExactSnapBytes", spec := "fnExactSnapBytes", apart := false, narrowed := true }
def FnExactSnapBytesUptoSaid : Prop := fnExactSnapBytesUptoRow.holds Try.pinned (OpenSpec.upto fnExactSnapBytesSpec)

/-- 'laws.FnJournal', WHERE WHAT IT READS IS OF BULK AT MOST 1048576: true; the input reads as it did. -/
def fnJournalUptoRow : OpenClaim := { program := "ythnbfaekmolaoaa", sum := "0d9397a166f0a349c634e59c3999535d03cde01d523aae9756d1c67221c7e189", func := "loop.example/g00661/laws.FnJournal", spec := "fnJournal", apart := false, narrowed := true }
def FnJournalUptoSaid : Prop := fnJournalUptoRow.holds Try.pinned (OpenSpec.upto fnJournalSpec)

/-- 'laws.FnExactJournalBytes', WHERE WHAT IT READS IS OF BULK AT MOST 1048576: true; the input reads as it did. -/
def fnExactJournalBytesUptoRow : OpenClaim := { program := "ythnbfaekmolaoaa", sum := "0d9397a166f0a349c634e59c3999535d03cde01d523aae9756d1c67221c7e189", func := "loop.example/g00661/laws.FnExactJournalBytes", spec := "fnExactJournalBytes", apart := false, narrowed := true }
def FnExactJournalBytesUptoSaid : Prop := fnExactJournalBytesUptoRow.holds Try.pinned (OpenSpec.upto fnExactJournalBytesSpec)

/-- 'laws.FnExactSnapRead', WHERE WHAT IT READS IS OF BULK AT MOST 1048576: true; the input reads as it did. -/
def fnExactSnapReadUptoRow : OpenClaim := { program := "ythnbfaekmolaoaa", sum := "0d9397a166f0a349c634e59c3999535d03cde01d523aae9756d1c67221c7e189", func := "loop.example/g00661/laws.FnExactSnapRead", spec := "fnExactSnapRead", apart := false, narrowed := true }
def FnExactSnapReadUptoSaid : Prop := fnExactSnapReadUptoRow.holds Try.pinned (OpenSpec.upto fnExactSnapReadSpec)

/-- 'laws.FnExactFrameRead', WHERE WHAT IT READS IS OF BULK AT MOST 1048576: true; the input reads as it did. -/
def fnExactFrameReadUptoRow : OpenClaim := { program := "ythnbfaekmolaoaa", sum := "0d9397a166f0a349c634e59c3999535d03cde01d523aae9756d1c67221c7e189", func := "loop.example/g00661/laws.FnExactFrameRead", spec := "fnExactFrameRead", apart := false, narrowed := true }
def FnExactFrameReadUptoSaid : Prop := fnExactFrameReadUptoRow.holds Try.pinned (OpenSpec.upto fnExactFrameReadSpec)

/-- 'laws.FnExactJournalRead', WHERE WHAT IT READS IS OF BULK AT MOST 1048576: true; the input reads as it did. -/
def fnExactJournalReadUptoRow : OpenClaim := { program := "ythnbfaekmolaoaa", sum := "0d9397a166f0a349c634e59c3999535d03cde01d523aae9756d1c67221c7e189", func := "loop.example/g00661/laws.FnExactJournalRead", spec := "fnExactJournalRead", apart := false, narrowed := true }
def FnExactJournalReadUptoSaid : Prop := fnExactJournalReadUptoRow.holds Try.pinned (OpenSpec.upto fnExactJournalReadSpec)

end Rows
end Go.Proofs.Ythnbfaekmolaoaa
