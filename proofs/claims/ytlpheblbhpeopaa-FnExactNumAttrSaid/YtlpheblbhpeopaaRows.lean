/-
  No cell of these rows narrows 'for every input' (looked for: loops, veiled, ifaces, maps, wideKeys, modest, calm, conditions, laid).
  DERIVED. THE GIVEN ROWS OF THIS SEAT. 6 by the template 'for every input the law returns true; each argument reads behind the call as it read before'; 0 by the template 'total and deterministic' (their statements: YtlpheblbhpeopaaTotals.lean).
  GIVEN WITH THE SEED: the statements are not yours to turn. If you find one false, say at which input.
  Laid BY PROGRAM, IN A SANDBOX (cutbox-rows.mjs): the forced cells as the released guide's own fill.sh prints them over the translation 59493489bc54de3c… (all of the seat's roots in one cut). By AI agents, Wed Nov 11 2026. No macro, syntax, notation, axiom, sorry.
-/
import Derived.Test.YtlpheblbhpeopaaChecked
import GoSem.Claim
import GoSem.ClaimJoined
import GoSem.ClaimMapViews
import Derived.JoinedTies
import Derived.KernelRfl
namespace Go.Proofs.Ytlpheblbhpeopaa
/- THE CELL 'sum', in the pinned program and in every row, IS THE sha256 OF THE DUMP (.gsa) THAT YtlpheblbhpeopaaProg.lean LOADS. Nothing in Lean hashes anything: it is a label: what it is worth is what the hold of that sum in a sandbox is worth. -/
noncomputable def Try.pinned : Pinned := { name := "ytlpheblbhpeopaa", sum := "59493489bc54de3c6d6a605738dcc2ef36613e08b413f5cfa2c70f13246587de", checked := Try.checked }
namespace Rows
def none {H : Type} : Left H := { results := [], args := [] }

/-- 'laws.FnExactConstants': WHATEVER THE INPUT: true; the input reads as it did. -/
def fnExactConstantsSpec : ChangeSpec := { name := "fnExactConstants", fn := fun _ => fun
  | [] => { results := [.lit (.bool true)], args := [] }
  | _ => none }
def fnExactConstantsRow : OpenClaim := { program := "ytlpheblbhpeopaa", sum := "59493489bc54de3c6d6a605738dcc2ef36613e08b413f5cfa2c70f13246587de", func := "loop.example/g00661/laws.FnExactConstants", spec := "fnExactConstants", apart := false }
def FnExactConstantsSaid : Prop := fnExactConstantsRow.holds Try.pinned (OpenSpec.ofChange fnExactConstantsSpec)

/-- ITS FALSE NEIGHBOUR: 'it returns false'. Refute it at one input. -/
def fnExactConstantsWrong : ChangeSpec := { name := "fnExactConstants", fn := fun _ => fun
  | [] => { results := [.lit (.bool false)], args := [] }
  | _ => none }
def FnExactConstantsWrongFalsely : Prop := fnExactConstantsRow.holds Try.pinned (OpenSpec.ofChange fnExactConstantsWrong)

/-- 'laws.FnExactShows': WHATEVER THE INPUT: true; the input reads as it did. -/
def fnExactShowsSpec : ChangeSpec := { name := "fnExactShows", fn := fun _ => fun
  | [d] => { results := [.lit (.bool true)], args := [d] }
  | _ => none }
def fnExactShowsRow : OpenClaim := { program := "ytlpheblbhpeopaa", sum := "59493489bc54de3c6d6a605738dcc2ef36613e08b413f5cfa2c70f13246587de", func := "loop.example/g00661/laws.FnExactShows", spec := "fnExactShows", apart := false }
def FnExactShowsSaid : Prop := fnExactShowsRow.holds Try.pinned (OpenSpec.ofChange fnExactShowsSpec)

/-- ITS FALSE NEIGHBOUR: 'it returns false'. Refute it at one input. -/
def fnExactShowsWrong : ChangeSpec := { name := "fnExactShows", fn := fun _ => fun
  | [d] => { results := [.lit (.bool false)], args := [d] }
  | _ => none }
def FnExactShowsWrongFalsely : Prop := fnExactShowsRow.holds Try.pinned (OpenSpec.ofChange fnExactShowsWrong)

/-- 'laws.FnExactAttrOk': WHATEVER THE INPUT: true; the input reads as it did. -/
def fnExactAttrOkSpec : ChangeSpec := { name := "fnExactAttrOk", fn := fun _ => fun
  | [d] => { results := [.lit (.bool true)], args := [d] }
  | _ => none }
def fnExactAttrOkRow : OpenClaim := { program := "ytlpheblbhpeopaa", sum := "59493489bc54de3c6d6a605738dcc2ef36613e08b413f5cfa2c70f13246587de", func := "loop.example/g00661/laws.FnExactAttrOk", spec := "fnExactAttrOk", apart := false }
def FnExactAttrOkSaid : Prop := fnExactAttrOkRow.holds Try.pinned (OpenSpec.ofChange fnExactAttrOkSpec)

/-- ITS FALSE NEIGHBOUR: 'it returns false'. Refute it at one input. -/
def fnExactAttrOkWrong : ChangeSpec := { name := "fnExactAttrOk", fn := fun _ => fun
  | [d] => { results := [.lit (.bool false)], args := [d] }
  | _ => none }
def FnExactAttrOkWrongFalsely : Prop := fnExactAttrOkRow.holds Try.pinned (OpenSpec.ofChange fnExactAttrOkWrong)

/-- 'laws.FnExactCellOk': WHATEVER THE INPUT: true; the input reads as it did. -/
def fnExactCellOkSpec : ChangeSpec := { name := "fnExactCellOk", fn := fun _ => fun
  | [d] => { results := [.lit (.bool true)], args := [d] }
  | _ => none }
def fnExactCellOkRow : OpenClaim := { program := "ytlpheblbhpeopaa", sum := "59493489bc54de3c6d6a605738dcc2ef36613e08b413f5cfa2c70f13246587de", func := "loop.example/g00661/laws.FnExactCellOk", spec := "fnExactCellOk", apart := false }
def FnExactCellOkSaid : Prop := fnExactCellOkRow.holds Try.pinned (OpenSpec.ofChange fnExactCellOkSpec)

/-- ITS FALSE NEIGHBOUR: 'it returns false'. Refute it at one input. -/
def fnExactCellOkWrong : ChangeSpec := { name := "fnExactCellOk", fn := fun _ => fun
  | [d] => { results := [.lit (.bool false)], args := [d] }
  | _ => none }
def FnExactCellOkWrongFalsely : Prop := fnExactCellOkRow.holds Try.pinned (OpenSpec.ofChange fnExactCellOkWrong)

/-- 'laws.FnExactAttrNum': WHATEVER THE INPUT: true; the input reads as it did. -/
def fnExactAttrNumSpec : ChangeSpec := { name := "fnExactAttrNum", fn := fun _ => fun
  | [d] => { results := [.lit (.bool true)], args := [d] }
  | _ => none }
def fnExactAttrNumRow : OpenClaim := { program := "ytlpheblbhpeopaa", sum := "59493489bc54de3c6d6a605738dcc2ef36613e08b413f5cfa2c70f13246587de", func := "loop.example/g00661/laws.FnExactAttrNum", spec := "fnExactAttrNum", apart := false }
def FnExactAttrNumSaid : Prop := fnExactAttrNumRow.holds Try.pinned (OpenSpec.ofChange fnExactAttrNumSpec)

/-- ITS FALSE NEIGHBOUR: 'it returns false'. Refute it at one input. -/
def fnExactAttrNumWrong : ChangeSpec := { name := "fnExactAttrNum", fn := fun _ => fun
  | [d] => { results := [.lit (.bool false)], args := [d] }
  | _ => none }
def FnExactAttrNumWrongFalsely : Prop := fnExactAttrNumRow.holds Try.pinned (OpenSpec.ofChange fnExactAttrNumWrong)

/-- 'laws.FnExactNumAttr': WHATEVER THE INPUT: true; the input reads as it did. -/
def fnExactNumAttrSpec : ChangeSpec := { name := "fnExactNumAttr", fn := fun _ => fun
  | [d] => { results := [.lit (.bool true)], args := [d] }
  | _ => none }
def fnExactNumAttrRow : OpenClaim := { program := "ytlpheblbhpeopaa", sum := "59493489bc54de3c6d6a605738dcc2ef36613e08b413f5cfa2c70f13246587de", func := "loop.example/g00661/laws.FnExactNumAttr", spec := "fnExactNumAttr", apart := false }
def FnExactNumAttrSaid : Prop := fnExactNumAttrRow.holds Try.pinned (OpenSpec.ofChange fnExactNumAttrSpec)

/-- ITS FALSE NEIGHBOUR: 'it returns false'. Refute it at one input. -/
def fnExactNumAttrWrong : ChangeSpec := { name := "fnExactNumAttr", fn := fun _ => fun
  | [d] => { results := [.lit (.bool false)], args := [d] }
  | _ => none }
def FnExactNumAttrWrongFalsely : Prop := fnExactNumAttrRow.holds Try.pinned (OpenSpec.ofChange fnExactNumAttrWrong)

/- THE SECOND FORM. 'bulk': how many values and letters a reading holds, each counted each time it is reached (what is shared counts as often as it is met; a slice's spare places count too). A statement '..UptoSaid' is the law's where the arguments, and the package variables that the reading takes, are together of bulk at most 1048576: NARROWER than '..Said'. Prove '..Said' where nothing that the law and all that it calls make is longer than what came in: it says more and counts as full. Else prove '..UptoSaid'. A law counts once. -/
mutual
def uptoBulk {H : Type} : DataW H → Nat
  | .lit (.string bytes) => bytes.length + 1
  | .lit _ => 1
  | .nil => 1
  | .ptr d => uptoBulk d + 1
  | .slice elems spare => uptoBulkAll elems + uptoBulkAll spare + 1
  | .agg parts => uptoBulkAll parts + 1
  | .iface _ d => uptoBulk d + 1
  | .map entries => uptoBulkEntries entries + 1
  | .held _ => 1
def uptoBulkAll {H : Type} : List (DataW H) → Nat
  | [] => 0
  | d :: r => uptoBulk d + uptoBulkAll r
def uptoBulkEntries {H : Type} : List (Lit × DataW H) → Nat
  | [] => 0
  | x :: r => uptoBulkEntry x + uptoBulkEntries r
def uptoBulkEntry {H : Type} : Lit × DataW H → Nat
  | (.string bytes, d) => bytes.length + uptoBulk d + 1
  | (_, d) => uptoBulk d + 1
 end
def uptoSmall : (H : Type) → List (DataW H) → Bool := fun _ ds => decide (uptoBulkAll ds ≤ 1048576)
def OpenSpec.upto (s : _root_.Go.ChangeSpec) : _root_.Go.OpenSpec := { _root_.Go.OpenSpec.ofChange s with cond := some uptoSmall }

/-- 'laws.FnExactConstants', WHERE WHAT IT READS IS OF BULK AT MOST 1048576: true; the input reads as it did. -/
def fnExactConstantsUptoRow : OpenClaim := { program := "ytlpheblbhpeopaa", sum := "59493489bc54de3c6d6a605738dcc2ef36613e08b413f5cfa2c70f13246587de", func := "loop.example/g00661/laws.FnExactConstants", spec := "fnExactConstants", apart := false, narrowed := true }
def FnExactConstantsUptoSaid : Prop := fnExactConstantsUptoRow.holds Try.pinned (OpenSpec.upto fnExactConstantsSpec)

/-- 'laws.FnExactShows', WHERE WHAT IT READS IS OF BULK AT MOST 1048576: true; the input reads as it did. -/
def fnExactShowsUptoRow : OpenClaim := { program := "ytlpheblbhpeopaa", sum := "59493489bc54de3c6d6a605738dcc2ef36613e08b413f5cfa2c70f13246587de", func := "loop.example/g00661/laws.FnExactShows", spec := "fnExactShows", apart := false, narrowed := true }
def FnExactShowsUptoSaid : Prop := fnExactShowsUptoRow.holds Try.pinned (OpenSpec.upto fnExactShowsSpec)

/-- 'laws.FnExactAttrOk', WHERE WHAT IT READS IS OF BULK AT MOST 1048576: true; the input reads as it did. -/
def fnExactAttrOkUptoRow : OpenClaim := { program := "ytlpheblbhpeopaa", sum := "59493489bc54de3c6d6a605738dcc2ef36613e08b413f5cfa2c70f13246587de", func := "loop.example/g00661/laws.FnExactAttrOk", spec := "fnExactAttrOk", apart := false, narrowed := true }
def FnExactAttrOkUptoSaid : Prop := fnExactAttrOkUptoRow.holds Try.pinned (OpenSpec.upto fnExactAttrOkSpec)

/-- 'laws.FnExactCellOk', WHERE WHAT IT READS IS OF BULK AT MOST 1048576: true; the input reads as it did. -/
def fnExactCellOkUptoRow : OpenClaim := { program := "ytlpheblbhpeopaa", sum := "59493489bc54de3c6d6a605738dcc2ef36613e08b413f5cfa2c70f13246587de", func := "loop.example/g00661/laws.FnExactCellOk", spec := "fnExactCellOk", apart := false, narrowed := true }
def FnExactCellOkUptoSaid : Prop := fnExactCellOkUptoRow.holds Try.pinned (OpenSpec.upto fnExactCellOkSpec)

/-- 'laws.FnExactAttrNum', WHERE WHAT IT READS IS OF BULK AT MOST 1048576: true; the input reads as it did. -/
def fnExactAttrNumUptoRow : OpenClaim := { program := "ytlpheblbhpeopaa", sum := "59493489bc54de3c6d6a605738dcc2ef36613e08b413f5cfa2c70f13246587de", func := "loop.example/g00661/laws.FnExactAttrNum", spec := "fnExactAttrNum", apart := false, narrowed := true }
def FnExactAttrNumUptoSaid : Prop := fnExactAttrNumUptoRow.holds Try.pinned (OpenSpec.upto fnExactAttrNumSpec)

/-- 'laws.FnExactNumAttr', WHERE WHAT IT READS IS OF BULK AT MOST 1048576: true; the input reads as it did. -/
def fnExactNumAttrUptoRow : OpenClaim := { program := "ytlpheblbhpeopaa", sum := "59493489bc54de3c6d6a605738dcc2ef36613e08b413f5cfa2c70f13246587de", func := "loop.example/g00661/laws.FnExactNumAttr", spec := "fnExactNumAttr", apart := false, narrowed := true }
def FnExactNumAttrUptoSaid : Prop := fnExactNumAttrUptoRow.holds Try.pinned (OpenSpec.upto fnExactNumAttrSpec)

end Rows
end Go.Proofs.Ytlpheblbhpeopaa
