/-
  No cell of these rows narrows 'for every input' (looked for: loops, veiled, ifaces, maps, wideKeys, modest, calm, conditions, laid).
  DERIVED. THE GIVEN ROWS OF THIS SEAT. 10 by the template 'for every input the law returns true; each argument reads behind the call as it read before'; 0 by the template 'total and deterministic' (their statements: YtnilgcahggmncaaTotals.lean).
  GIVEN WITH THE SEED: the statements are not yours to turn. If you find one false, say at which input.
  Laid BY PROGRAM, IN A SANDBOX (cutbox-rows.mjs): the forced cells as the released guide's own fill.sh prints them over the translation fc2936aad8077bd9… (all of the seat's roots in one cut). By AI agents, Wed Nov 11 2026. No macro, syntax, notation, axiom, sorry.
-/
import Derived.Test.YtnilgcahggmncaaChecked
import GoSem.Claim
import GoSem.ClaimJoined
import GoSem.ClaimMapViews
import Derived.JoinedTies
import Derived.KernelRfl
namespace Go.Proofs.Ytnilgcahggmncaa
/- THE CELL 'sum', in the pinned program and in every row, IS THE sha256 OF THE DUMP (.gsa) THAT YtnilgcahggmncaaProg.lean LOADS. Nothing in Lean hashes anything: it is a label: what it is worth is what the hold of that sum in a sandbox is worth. -/
noncomputable def Try.pinned : Pinned := { name := "ytnilgcahggmncaa", sum := "fc2936aad8077bd9fbc3571494ba4888f785f25da4ff710f3a53a1b74c42c3c0", checked := Try.checked }
namespace Rows
def none {H : Type} : Left H := { results := [], args := [] }

/-- 'laws.FnExactGridText': WHATEVER THE INPUT: true; the input reads as it did. -/
def fnExactGridTextSpec : ChangeSpec := { name := "fnExactGridText", fn := fun _ => fun
  | [d] => { results := [.lit (.bool true)], args := [d] }
  | _ => none }
def fnExactGridTextRow : OpenClaim := { program := "ytnilgcahggmncaa", sum := "fc2936aad8077bd9fbc3571494ba4888f785f25da4ff710f3a53a1b74c42c3c0", func := "loop.example/g00661/laws.FnExactGridText", spec := "fnExactGridText", unfollowed := true, recurses := true, apart := false }
def FnExactGridTextSaid : Prop := fnExactGridTextRow.holds Try.pinned (OpenSpec.ofChange fnExactGridTextSpec)

/-- ITS FALSE NEIGHBOUR: 'it returns false'. Refute it at one input. -/
def fnExactGridTextWrong : ChangeSpec := { name := "fnExactGridText", fn := fun _ => fun
  | [d] => { results := [.lit (.bool false)], args := [d] }
  | _ => none }
def FnExactGridTextWrongFalsely : Prop := fnExactGridTextRow.holds Try.pinned (OpenSpec.ofChange fnExactGridTextWrong)

/-- 'laws.FnGrid': WHATEVER THE INPUT: true; the input reads as it did. -/
def fnGridSpec : ChangeSpec := { name := "fnGrid", fn := fun _ => fun
  | [d] => { results := [.lit (.bool true)], args := [d] }
  | _ => none }
def fnGridRow : OpenClaim := { program := "ytnilgcahggmncaa", sum := "fc2936aad8077bd9fbc3571494ba4888f785f25da4ff710f3a53a1b74c42c3c0", func := "loop.example/g00661/laws.FnGrid", spec := "fnGrid", unfollowed := true, recurses := true, apart := false }
def FnGridSaid : Prop := fnGridRow.holds Try.pinned (OpenSpec.ofChange fnGridSpec)

/-- ITS FALSE NEIGHBOUR: 'it returns false'. Refute it at one input. -/
def fnGridWrong : ChangeSpec := { name := "fnGrid", fn := fun _ => fun
  | [d] => { results := [.lit (.bool false)], args := [d] }
  | _ => none }
def FnGridWrongFalsely : Prop := fnGridRow.holds Try.pinned (OpenSpec.ofChange fnGridWrong)

/-- 'laws.FnExactScrNew': WHATEVER THE INPUT: true; the input reads as it did. -/
def fnExactScrNewSpec : ChangeSpec := { name := "fnExactScrNew", fn := fun _ => fun
  | [d1, d2, d3] => { results := [.lit (.bool true)], args := [d1, d2, d3] }
  | _ => none }
def fnExactScrNewRow : OpenClaim := { program := "ytnilgcahggmncaa", sum := "fc2936aad8077bd9fbc3571494ba4888f785f25da4ff710f3a53a1b74c42c3c0", func := "loop.example/g00661/laws.FnExactScrNew", spec := "fnExactScrNew", apart := false }
def FnExactScrNewSaid : Prop := fnExactScrNewRow.holds Try.pinned (OpenSpec.ofChange fnExactScrNewSpec)

/-- ITS FALSE NEIGHBOUR: 'it returns false'. Refute it at one input. -/
def fnExactScrNewWrong : ChangeSpec := { name := "fnExactScrNew", fn := fun _ => fun
  | [d1, d2, d3] => { results := [.lit (.bool false)], args := [d1, d2, d3] }
  | _ => none }
def FnExactScrNewWrongFalsely : Prop := fnExactScrNewRow.holds Try.pinned (OpenSpec.ofChange fnExactScrNewWrong)

/-- 'laws.FnExactScrOk': WHATEVER THE INPUT: true; the input reads as it did. -/
def fnExactScrOkSpec : ChangeSpec := { name := "fnExactScrOk", fn := fun _ => fun
  | [d] => { results := [.lit (.bool true)], args := [d] }
  | _ => none }
def fnExactScrOkRow : OpenClaim := { program := "ytnilgcahggmncaa", sum := "fc2936aad8077bd9fbc3571494ba4888f785f25da4ff710f3a53a1b74c42c3c0", func := "loop.example/g00661/laws.FnExactScrOk", spec := "fnExactScrOk", unfollowed := true, recurses := true, apart := false }
def FnExactScrOkSaid : Prop := fnExactScrOkRow.holds Try.pinned (OpenSpec.ofChange fnExactScrOkSpec)

/-- ITS FALSE NEIGHBOUR: 'it returns false'. Refute it at one input. -/
def fnExactScrOkWrong : ChangeSpec := { name := "fnExactScrOk", fn := fun _ => fun
  | [d] => { results := [.lit (.bool false)], args := [d] }
  | _ => none }
def FnExactScrOkWrongFalsely : Prop := fnExactScrOkRow.holds Try.pinned (OpenSpec.ofChange fnExactScrOkWrong)

/-- 'laws.FnExactShown': WHATEVER THE INPUT: true; the input reads as it did. -/
def fnExactShownSpec : ChangeSpec := { name := "fnExactShown", fn := fun _ => fun
  | [d] => { results := [.lit (.bool true)], args := [d] }
  | _ => none }
def fnExactShownRow : OpenClaim := { program := "ytnilgcahggmncaa", sum := "fc2936aad8077bd9fbc3571494ba4888f785f25da4ff710f3a53a1b74c42c3c0", func := "loop.example/g00661/laws.FnExactShown", spec := "fnExactShown", unfollowed := true, recurses := true, apart := false }
def FnExactShownSaid : Prop := fnExactShownRow.holds Try.pinned (OpenSpec.ofChange fnExactShownSpec)

/-- ITS FALSE NEIGHBOUR: 'it returns false'. Refute it at one input. -/
def fnExactShownWrong : ChangeSpec := { name := "fnExactShown", fn := fun _ => fun
  | [d] => { results := [.lit (.bool false)], args := [d] }
  | _ => none }
def FnExactShownWrongFalsely : Prop := fnExactShownRow.holds Try.pinned (OpenSpec.ofChange fnExactShownWrong)

/-- 'laws.FnExactScrGo': WHATEVER THE INPUT: true; the input reads as it did. -/
def fnExactScrGoSpec : ChangeSpec := { name := "fnExactScrGo", fn := fun _ => fun
  | [d1, d2, d3] => { results := [.lit (.bool true)], args := [d1, d2, d3] }
  | _ => none }
def fnExactScrGoRow : OpenClaim := { program := "ytnilgcahggmncaa", sum := "fc2936aad8077bd9fbc3571494ba4888f785f25da4ff710f3a53a1b74c42c3c0", func := "loop.example/g00661/laws.FnExactScrGo", spec := "fnExactScrGo", unfollowed := true, recurses := true, apart := false }
def FnExactScrGoSaid : Prop := fnExactScrGoRow.holds Try.pinned (OpenSpec.ofChange fnExactScrGoSpec)

/-- ITS FALSE NEIGHBOUR: 'it returns false'. Refute it at one input. -/
def fnExactScrGoWrong : ChangeSpec := { name := "fnExactScrGo", fn := fun _ => fun
  | [d1, d2, d3] => { results := [.lit (.bool false)], args := [d1, d2, d3] }
  | _ => none }
def FnExactScrGoWrongFalsely : Prop := fnExactScrGoRow.holds Try.pinned (OpenSpec.ofChange fnExactScrGoWrong)

/-- 'laws.FnExactScrUp': WHATEVER THE INPUT: true; the input reads as it did. -/
def fnExactScrUpSpec : ChangeSpec := { name := "fnExactScrUp", fn := fun _ => fun
  | [d] => { results := [.lit (.bool true)], args := [d] }
  | _ => none }
def fnExactScrUpRow : OpenClaim := { program := "ytnilgcahggmncaa", sum := "fc2936aad8077bd9fbc3571494ba4888f785f25da4ff710f3a53a1b74c42c3c0", func := "loop.example/g00661/laws.FnExactScrUp", spec := "fnExactScrUp", unfollowed := true, recurses := true, apart := false }
def FnExactScrUpSaid : Prop := fnExactScrUpRow.holds Try.pinned (OpenSpec.ofChange fnExactScrUpSpec)

/-- ITS FALSE NEIGHBOUR: 'it returns false'. Refute it at one input. -/
def fnExactScrUpWrong : ChangeSpec := { name := "fnExactScrUp", fn := fun _ => fun
  | [d] => { results := [.lit (.bool false)], args := [d] }
  | _ => none }
def FnExactScrUpWrongFalsely : Prop := fnExactScrUpRow.holds Try.pinned (OpenSpec.ofChange fnExactScrUpWrong)

/-- 'laws.FnExactScrDown': WHATEVER THE INPUT: true; the input reads as it did. -/
def fnExactScrDownSpec : ChangeSpec := { name := "fnExactScrDown", fn := fun _ => fun
  | [d] => { results := [.lit (.bool true)], args := [d] }
  | _ => none }
def fnExactScrDownRow : OpenClaim := { program := "ytnilgcahggmncaa", sum := "fc2936aad8077bd9fbc3571494ba4888f785f25da4ff710f3a53a1b74c42c3c0", func := "loop.example/g00661/laws.FnExactScrDown", spec := "fnExactScrDown", unfollowed := true, recurses := true, apart := false }
def FnExactScrDownSaid : Prop := fnExactScrDownRow.holds Try.pinned (OpenSpec.ofChange fnExactScrDownSpec)

/-- ITS FALSE NEIGHBOUR: 'it returns false'. Refute it at one input. -/
def fnExactScrDownWrong : ChangeSpec := { name := "fnExactScrDown", fn := fun _ => fun
  | [d] => { results := [.lit (.bool false)], args := [d] }
  | _ => none }
def FnExactScrDownWrongFalsely : Prop := fnExactScrDownRow.holds Try.pinned (OpenSpec.ofChange fnExactScrDownWrong)

/-- 'laws.FnExactScrRune': WHATEVER THE INPUT: true; the input reads as it did. -/
def fnExactScrRuneSpec : ChangeSpec := { name := "fnExactScrRune", fn := fun _ => fun
  | [d1, d2] => { results := [.lit (.bool true)], args := [d1, d2] }
  | _ => none }
def fnExactScrRuneRow : OpenClaim := { program := "ytnilgcahggmncaa", sum := "fc2936aad8077bd9fbc3571494ba4888f785f25da4ff710f3a53a1b74c42c3c0", func := "loop.example/g00661/laws.FnExactScrRune", spec := "fnExactScrRune", unfollowed := true, recurses := true, apart := false }
def FnExactScrRuneSaid : Prop := fnExactScrRuneRow.holds Try.pinned (OpenSpec.ofChange fnExactScrRuneSpec)

/-- ITS FALSE NEIGHBOUR: 'it returns false'. Refute it at one input. -/
def fnExactScrRuneWrong : ChangeSpec := { name := "fnExactScrRune", fn := fun _ => fun
  | [d1, d2] => { results := [.lit (.bool false)], args := [d1, d2] }
  | _ => none }
def FnExactScrRuneWrongFalsely : Prop := fnExactScrRuneRow.holds Try.pinned (OpenSpec.ofChange fnExactScrRuneWrong)

/-- 'laws.FnExactScrCtl': WHATEVER THE INPUT: true; the input reads as it did. -/
def fnExactScrCtlSpec : ChangeSpec := { name := "fnExactScrCtl", fn := fun _ => fun
  | [d1, d2] => { results := [.lit (.bool true)], args := [d1, d2] }
  | _ => none }
def fnExactScrCtlRow : OpenClaim := { program := "ytnilgcahggmncaa", sum := "fc2936aad8077bd9fbc3571494ba4888f785f25da4ff710f3a53a1b74c42c3c0", func := "loop.example/g00661/laws.FnExactScrCtl", spec := "fnExactScrCtl", unfollowed := true, recurses := true, apart := false }
def FnExactScrCtlSaid : Prop := fnExactScrCtlRow.holds Try.pinned (OpenSpec.ofChange fnExactScrCtlSpec)

/-- ITS FALSE NEIGHBOUR: 'it returns false'. Refute it at one input. -/
def fnExactScrCtlWrong : ChangeSpec := { name := "fnExactScrCtl", fn := fun _ => fun
  | [d1, d2] => { results := [.lit (.bool false)], args := [d1, d2] }
  | _ => none }
def FnExactScrCtlWrongFalsely : Prop := fnExactScrCtlRow.holds Try.pinned (OpenSpec.ofChange fnExactScrCtlWrong)

/- THE SECOND FORM. 'bulk': how many values and letters a reading holds, each counted each time it is reached (what is shared counts as often as it is met; a slice's spare places count too). A statement '..UptoSaid' is the law's where the arguments, and the package variables that the reading takes, are together of bulk at most 1048576: NARROWER than '..Said'. Prove '..Said' where nothing that the law and all that it calls make is longer than what came in: it says more and counts as full. Else prove '..UptoSaid'. A law counts once. -/
mutual
def uptoBulk {H : Type} : DataW H → Nat
  | .lit (.string bytes) => bytes.length + 1
  | .lit _ => 1
  | .nil => 1
  | .ptr d => uptoBulk d + 1
  | .slice elems spare => uptoBulkAll elems + uptoBulkAll spare + 1
  | .agg parts => uptoBulkAll parts + 1
  | .iface _ d => uptoBulk d + 1
  | .map entries => uptoBulkEntries entries + 1
  | .held _ => 1
def uptoBulkAll {H : Type} : List (DataW H) → Nat
  | [] => 0
  | d :: r => uptoBulk d + uptoBulkAll r
def uptoBulkEntries {H : Type} : List (Lit × DataW H) → Nat
  | [] => 0
  | x :: r => uptoBulkEntry x + uptoBulkEntries r
def uptoBulkEntry {H : Type} : Lit × DataW H → Nat
  | (.string bytes, d) => bytes.length + uptoBulk d + 1
  | (_, d) => uptoBulk d + 1
 end
def uptoSmall : (H : Type) → List (DataW H) → Bool := fun _ ds => decide (uptoBulkAll ds ≤ 1048576)
def OpenSpec.upto (s : _root_.Go.ChangeSpec) : _root_.Go.OpenSpec := { _root_.Go.OpenSpec.ofChange s with cond := some uptoSmall }

/-- 'laws.FnExactGridText', WHERE WHAT IT READS IS OF BULK AT MOST 1048576: true; the input reads as it did. -/
def fnExactGridTextUptoRow : OpenClaim := { program := "ytnilgcahggmncaa", sum := "fc2936aad8077bd9fbc3571494ba4888f785f25da4ff710f3a53a1b74c42c3c0", func := "loop.example/g00661/laws.FnExactGridText", spec := "fnExactGridText", unfollowed := true, recurses := true, apart := false, narrowed := true }
def FnExactGridTextUptoSaid : Prop := fnExactGridTextUptoRow.holds Try.pinned (OpenSpec.upto fnExactGridTextSpec)

/-- 'laws.FnGrid', WHERE WHAT IT READS IS OF BULK AT MOST 1048576: true; the input reads as it did. -/
def fnGridUptoRow : OpenClaim := { program := "ytnilgcahggmncaa", sum := "fc2936aad8077bd9fbc3571494ba4888f785f25da4ff710f3a53a1b74c42c3c0", func := "loop.example/g00661/laws.FnGrid", spec := "fnGrid", unfollowed := true, recurses := true, apart := false, narrowed := true }
def FnGridUptoSaid : Prop := fnGridUptoRow.holds Try.pinned (OpenSpec.upto fnGridSpec)

/-- 'laws.FnExactScrNew', WHERE WHAT IT READS IS OF BULK AT MOST 1048576: true; the input reads as it did. -/
def fnExactScrNewUptoRow : OpenClaim := { program := "ytnilgcahggmncaa", sum := "fc2936aad8077bd9fbc3571494ba4888f785f25da4ff710f3a53a1b74c42c3c0", func := "loop.example/g00661/laws.FnExactScrNew", spec := "fnExactScrNew", apart := false, narrowed := true }
def FnExactScrNewUptoSaid : Prop := fnExactScrNewUptoRow.holds Try.pinned (OpenSpec.upto fnExactScrNewSpec)

/-- 'laws.FnExactScrOk', WHERE WHAT IT READS IS OF BULK AT MOST 1048576: true; the input reads as it did. -/
def fnExactScrOkUptoRow : OpenClaim := { program := "ytnilgcahggmncaa", sum := "fc2936aad8077bd9fbc3571494ba4888f785f25da4ff710f3a53a1b74c42c3c0", func := "loop.example/g00661/laws.FnExactScrOk", spec := "fnExactScrOk", unfollowed := true, recurses := true, apart := false, narrowed := true }
def FnExactScrOkUptoSaid : Prop := fnExactScrOkUptoRow.holds Try.pinned (OpenSpec.upto fnExactScrOkSpec)

/-- 'laws.FnExactShown', WHERE WHAT IT READS IS OF BULK AT MOST 1048576: true; the input reads as it did. -/
def fnExactShownUptoRow : OpenClaim := { program := "ytnilgcahggmncaa", sum := "fc2936aad8077bd9fbc3571494ba4888f785f25da4ff710f3a53a1b74c42c3c0", func := "loop.example/g00661/laws.FnExactShown", spec := "fnExactShown", unfollowed := true, recurses := true, apart := false, narrowed := true }
def FnExactShownUptoSaid : Prop := fnExactShownUptoRow.holds Try.pinned (OpenSpec.upto fnExactShownSpec)

/-- 'laws.FnExactScrGo', WHERE WHAT IT READS IS OF BULK AT MOST 1048576: true; the input reads as it did. -/
def fnExactScrGoUptoRow : OpenClaim := { program := "ytnilgcahggmncaa", sum := "fc2936aad8077bd9fbc3571494ba4888f785f25da4ff710f3a53a1b74c42c3c0", func := "loop.example/g00661/laws.FnExactScrGo", spec := "fnExactScrGo", unfollowed := true, recurses := true, apart := false, narrowed := true }
def FnExactScrGoUptoSaid : Prop := fnExactScrGoUptoRow.holds Try.pinned (OpenSpec.upto fnExactScrGoSpec)

/-- 'laws.FnExactScrUp', WHERE WHAT IT READS IS OF BULK AT MOST 1048576: true; the input reads as it did. -/
def fnExactScrUpUptoRow : OpenClaim := { program := "ytnilgcahggmncaa", sum := "fc2936aad8077bd9fbc3571494ba4888f785f25da4ff710f3a53a1b74c42c3c0", func := "loop.example/g00661/laws.FnExactScrUp", spec := "fnExactScrUp", unfollowed := true, recurses := true, apart := false, narrowed := true }
def FnExactScrUpUptoSaid : Prop := fnExactScrUpUptoRow.holds Try.pinned (OpenSpec.upto fnExactScrUpSpec)

/-- 'laws.FnExactScrDown', WHERE WHAT IT READS IS OF BULK AT MOST 1048576: true; the input reads as it did. -/
def fnExactScrDownUptoRow : OpenClaim := { program := "ytnilgcahggmncaa", sum := "fc2936aad8077bd9fbc3571494ba4888f785f25da4ff710f3a53a1b74c42c3c0", func := "loop.example/g00661/laws.FnExactScrDown", spec := "fnExactScrDown", unfollowed := true, recurses := true, apart := false, narrowed := true }
def FnExactScrDownUptoSaid : Prop := fnExactScrDownUptoRow.holds Try.pinned (OpenSpec.upto fnExactScrDownSpec)

/-- 'laws.FnExactScrRune', WHERE WHAT IT READS IS OF BULK AT MOST 1048576: true; the input reads as it did. -/
def fnExactScrRuneUptoRow : OpenClaim := { program := "ytnilgcahggmncaa", sum := "fc2936aad8077bd9fbc3571494ba4888f785f25da4ff710f3a53a1b74c42c3c0", func := "loop.example/g00661/laws.FnExactScrRune", spec := "fnExactScrRune", unfollowed := true, recurses := true, apart := false, narrowed := true }
def FnExactScrRuneUptoSaid : Prop := fnExactScrRuneUptoRow.holds Try.pinned (OpenSpec.upto fnExactScrRuneSpec)

/-- 'laws.FnExactScrCtl', WHERE WHAT IT READS IS OF BULK AT MOST 1048576: true; the input reads as it did. -/
def fnExactScrCtlUptoRow : OpenClaim := { program := "ytnilgcahggmncaa", sum := "fc2936aad8077bd9fbc3571494ba4888f785f25da4ff710f3a53a1b74c42c3c0", func := "loop.example/g00661/laws.FnExactScrCtl", spec := "fnExactScrCtl", unfollowed := true, recurses := true, apart := false, narrowed := true }
def FnExactScrCtlUptoSaid : Prop := fnExactScrCtlUptoRow.holds Try.pinned (OpenSpec.upto fnExactScrCtlSpec)

end Rows
end Go.Proofs.Ytnilgcahggmncaa
