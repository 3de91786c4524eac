/-
  No cell of these rows narrows 'for every input' (looked for: loops, veiled, ifaces, maps, wideKeys, modest, calm, conditions, laid).
  DERIVED. THE GIVEN ROWS OF THIS SEAT. 6 by the template 'for every input the law returns true; each argument reads behind the call as it read before'; 0 by the template 'total and deterministic' (their statements: YtmkjgehhkmfoiaaTotals.lean).
  GIVEN WITH THE SEED: the statements are not yours to turn. If you find one false, say at which input.
  Laid BY PROGRAM, IN A SANDBOX (cutbox-rows.mjs): the forced cells as the released guide's own fill.sh prints them over the translation 11c7ad0dda8bd258… (all of the seat's roots in one cut). By AI agents, Wed Nov 11 2026. No macro, syntax, notation, axiom, sorry.
-/
import Derived.Test.YtmkjgehhkmfoiaaChecked
import GoSem.Claim
import GoSem.ClaimJoined
import GoSem.ClaimMapViews
import Derived.JoinedTies
import Derived.KernelRfl
namespace Go.Proofs.Ytmkjgehhkmfoiaa
/- THE CELL 'sum', in the pinned program and in every row, IS THE sha256 OF THE DUMP (.gsa) THAT YtmkjgehhkmfoiaaProg.lean LOADS. Nothing in Lean hashes anything: it is a label: what it is worth is what the hold of that sum in a sandbox is worth. -/
noncomputable def Try.pinned : Pinned := { name := "ytmkjgehhkmfoiaa", sum := "11c7ad0dda8bd258a7327c32ce62a6c7cb1df3ef655ba3127c3d4e23239b0731", checked := Try.checked }
namespace Rows
def none {H : Type} : Left H := { results := [], args := [] }

/-- 'laws.FnExactProblemName': WHATEVER THE INPUT: true; the input reads as it did. -/
def fnExactProblemNameSpec : ChangeSpec := { name := "fnExactProblemName", fn := fun _ => fun
  | [d] => { results := [.lit (.bool true)], args := [d] }
  | _ => none }
def fnExactProblemNameRow : OpenClaim := { program := "ytmkjgehhkmfoiaa", sum := "11c7ad0dda8bd258a7327c32ce62a6c7cb1df3ef655ba3127c3d4e23239b0731", func := "loop.example/g01013/laws.FnExactProblemName", spec := "fnExactProblemName", apart := false }
def FnExactProblemNameSaid : Prop := fnExactProblemNameRow.holds Try.pinned (OpenSpec.ofChange fnExactProblemNameSpec)

/-- ITS FALSE NEIGHBOUR: 'it returns false'. Refute it at one input. -/
def fnExactProblemNameWrong : ChangeSpec := { name := "fnExactProblemName", fn := fun _ => fun
  | [d] => { results := [.lit (.bool false)], args := [d] }
  | _ => none }
def FnExactProblemNameWrongFalsely : Prop := fnExactProblemNameRow.holds Try.pinned (OpenSpec.ofChange fnExactProblemNameWrong)

/-- 'laws.FnExactProblemText': WHATEVER THE INPUT: true; the input reads as it did. -/
def fnExactProblemTextSpec : ChangeSpec := { name := "fnExactProblemText", fn := fun _ => fun
  | [d] => { results := [.lit (.bool true)], args := [d] }
  | _ => none }
def fnExactProblemTextRow : OpenClaim := { program := "ytmkjgehhkmfoiaa", sum := "11c7ad0dda8bd258a7327c32ce62a6c7cb1df3ef655ba3127c3d4e23239b0731", func := "loop.example/g01013/laws.FnExactProblemText", spec := "fnExactProblemText", apart := false }
def FnExactProblemTextSaid : Prop := fnExactProblemTextRow.holds Try.pinned (OpenSpec.ofChange fnExactProblemTextSpec)

/-- ITS FALSE NEIGHBOUR: 'it returns false'. Refute it at one input. -/
def fnExactProblemTextWrong : ChangeSpec := { name := "fnExactProblemText", fn := fun _ => fun
  | [d] => { results := [.lit (.bool false)], args := [d] }
  | _ => none }
def FnExactProblemTextWrongFalsely : Prop := fnExactProblemTextRow.holds Try.pinned (OpenSpec.ofChange fnExactProblemTextWrong)

/-- 'laws.FnExactValidReport': WHATEVER THE INPUT: true; the input reads as it did. -/
def fnExactValidReportSpec : ChangeSpec := { name := "fnExactValidReport", fn := fun _ => fun
  | [d] => { results := [.lit (.bool true)], args := [d] }
  | _ => none }
def fnExactValidReportRow : OpenClaim := { program := "ytmkjgehhkmfoiaa", sum := "11c7ad0dda8bd258a7327c32ce62a6c7cb1df3ef655ba3127c3d4e23239b0731", func := "loop.example/g01013/laws.FnExactValidReport", spec := "fnExactValidReport", apart := false }
def FnExactValidReportSaid : Prop := fnExactValidReportRow.holds Try.pinned (OpenSpec.ofChange fnExactValidReportSpec)

/-- ITS FALSE NEIGHBOUR: 'it returns false'. Refute it at one input. -/
def fnExactValidReportWrong : ChangeSpec := { name := "fnExactValidReport", fn := fun _ => fun
  | [d] => { results := [.lit (.bool false)], args := [d] }
  | _ => none }
def FnExactValidReportWrongFalsely : Prop := fnExactValidReportRow.holds Try.pinned (OpenSpec.ofChange fnExactValidReportWrong)

/-- 'laws.FnExactSameBlocks': WHATEVER THE INPUT: true; the input reads as it did. -/
def fnExactSameBlocksSpec : ChangeSpec := { name := "fnExactSameBlocks", fn := fun _ => fun
  | [d1, d2] => { results := [.lit (.bool true)], args := [d1, d2] }
  | _ => none }
def fnExactSameBlocksRow : OpenClaim := { program := "ytmkjgehhkmfoiaa", sum := "11c7ad0dda8bd258a7327c32ce62a6c7cb1df3ef655ba3127c3d4e23239b0731", func := "loop.example/g01013/laws.FnExactSameBlocks", spec := "fnExactSameBlocks", apart := false }
def FnExactSameBlocksSaid : Prop := fnExactSameBlocksRow.holds Try.pinned (OpenSpec.ofChange fnExactSameBlocksSpec)

/-- ITS FALSE NEIGHBOUR: 'it returns false'. Refute it at one input. -/
def fnExactSameBlocksWrong : ChangeSpec := { name := "fnExactSameBlocks", fn := fun _ => fun
  | [d1, d2] => { results := [.lit (.bool false)], args := [d1, d2] }
  | _ => none }
def FnExactSameBlocksWrongFalsely : Prop := fnExactSameBlocksRow.holds Try.pinned (OpenSpec.ofChange fnExactSameBlocksWrong)

/-- 'laws.FnExactReportText': WHATEVER THE INPUT: true; the input reads as it did. -/
def fnExactReportTextSpec : ChangeSpec := { name := "fnExactReportText", fn := fun _ => fun
  | [d] => { results := [.lit (.bool true)], args := [d] }
  | _ => none }
def fnExactReportTextRow : OpenClaim := { program := "ytmkjgehhkmfoiaa", sum := "11c7ad0dda8bd258a7327c32ce62a6c7cb1df3ef655ba3127c3d4e23239b0731", func := "loop.example/g01013/laws.FnExactReportText", spec := "fnExactReportText", inPlace := ["internal/abi.NoEscape"], apart := false }
def FnExactReportTextSaid : Prop := fnExactReportTextRow.holds Try.pinned (OpenSpec.ofChange fnExactReportTextSpec)

/-- ITS FALSE NEIGHBOUR: 'it returns false'. Refute it at one input. -/
def fnExactReportTextWrong : ChangeSpec := { name := "fnExactReportText", fn := fun _ => fun
  | [d] => { results := [.lit (.bool false)], args := [d] }
  | _ => none }
def FnExactReportTextWrongFalsely : Prop := fnExactReportTextRow.holds Try.pinned (OpenSpec.ofChange fnExactReportTextWrong)

/-- 'laws.FnExactCountProblems': WHATEVER THE INPUT: true; the input reads as it did. -/
def fnExactCountProblemsSpec : ChangeSpec := { name := "fnExactCountProblems", fn := fun _ => fun
  | [d] => { results := [.lit (.bool true)], args := [d] }
  | _ => none }
def fnExactCountProblemsRow : OpenClaim := { program := "ytmkjgehhkmfoiaa", sum := "11c7ad0dda8bd258a7327c32ce62a6c7cb1df3ef655ba3127c3d4e23239b0731", func := "loop.example/g01013/laws.FnExactCountProblems", spec := "fnExactCountProblems", apart := false }
def FnExactCountProblemsSaid : Prop := fnExactCountProblemsRow.holds Try.pinned (OpenSpec.ofChange fnExactCountProblemsSpec)

/-- ITS FALSE NEIGHBOUR: 'it returns false'. Refute it at one input. -/
def fnExactCountProblemsWrong : ChangeSpec := { name := "fnExactCountProblems", fn := fun _ => fun
  | [d] => { results := [.lit (.bool false)], args := [d] }
  | _ => none }
def FnExactCountProblemsWrongFalsely : Prop := fnExactCountProblemsRow.holds Try.pinned (OpenSpec.ofChange fnExactCountProblemsWrong)

/- THE SECOND FORM. 'bulk': how many values and letters a reading holds, each counted each time it is reached (what is shared counts as often as it is met; a slice's spare places count too). A statement '..UptoSaid' is the law's where the arguments, and the package variables that the reading takes, are together of bulk at most 1048576: NARROWER than '..Said'. Prove '..Said' where nothing that the law and all that it calls make is longer than what came in: it says more and counts as full. Else prove '..UptoSaid'. A law counts once. -/
mutual
def uptoBulk {H : Type} : DataW H → Nat
  | .lit (.string bytes) => bytes.length + 1
  | .lit _ => 1
  | .nil => 1
  | .ptr d => uptoBulk d + 1
  | .slice elems spare => uptoBulkAll elems + uptoBulkAll spare + 1
  | .agg parts => uptoBulkAll parts + 1
  | .iface _ d => uptoBulk d + 1
  | .map entries => uptoBulkEntries entries + 1
  | .held _ => 1
def uptoBulkAll {H : Type} : List (DataW H) → Nat
  | [] => 0
  | d :: r => uptoBulk d + uptoBulkAll r
def uptoBulkEntries {H : Type} : List (Lit × DataW H) → Nat
  | [] => 0
  | x :: r => uptoBulkEntry x + uptoBulkEntries r
def uptoBulkEntry {H : Type} : Lit × DataW H → Nat
  | (.string bytes, d) => bytes.length + uptoBulk d + 1
  | (_, d) => uptoBulk d + 1
 end
def uptoSmall : (H : Type) → List (DataW H) → Bool := fun _ ds => decide (uptoBulkAll ds ≤ 1048576)
def OpenSpec.upto (s : _root_.Go.ChangeSpec) : _root_.Go.OpenSpec := { _root_.Go.OpenSpec.ofChange s with cond := some uptoSmall }

/-- 'laws.FnExactProblemName', WHERE WHAT IT READS IS OF BULK AT MOST 1048576: true; the input reads as it did. -/
def fnExactProblemNameUptoRow : OpenClaim := { program := "ytmkjgehhkmfoiaa", sum := "11c7ad0dda8bd258a7327c32ce62a6c7cb1df3ef655ba3127c3d4e23239b0731", func := "loop.example/g01013/laws.FnExactProblemName", spec := "fnExactProblemName", apart := false, narrowed := true }
def FnExactProblemNameUptoSaid : Prop := fnExactProblemNameUptoRow.holds Try.pinned (OpenSpec.upto fnExactProblemNameSpec)

/-- 'laws.FnExactProblemText', WHERE WHAT IT READS IS OF BULK AT MOST 1048576: true; the input reads as it did. -/
def fnExactProblemTextUptoRow : OpenClaim := { program := "ytmkjgehhkmfoiaa", sum := "11c7ad0dda8bd258a7327c32ce62a6c7cb1df3ef655ba3127c3d4e23239b0731", func := "loop.example/g01013/laws.FnExactProblemText", spec := "fnExactProblemText", apart := false, narrowed := true }
def FnExactProblemTextUptoSaid : Prop := fnExactProblemTextUptoRow.holds Try.pinned (OpenSpec.upto fnExactProblemTextSpec)

/-- 'laws.FnExactValidReport', WHERE WHAT IT READS IS OF BULK AT MOST 1048576: true; the input reads as it did. -/
def fnExactValidReportUptoRow : OpenClaim := { program := "ytmkjgehhkmfoiaa", sum := "11c7ad0dda8bd258a7327c32ce62a6c7cb1df3ef655ba3127c3d4e23239b0731", func := "loop.example/g01013/laws.FnExactValidReport", spec := "fnExactValidReport", apart := false, narrowed := true }
def FnExactValidReportUptoSaid : Prop := fnExactValidReportUptoRow.holds Try.pinned (OpenSpec.upto fnExactValidReportSpec)

/-- 'laws.FnExactSameBlocks', WHERE WHAT IT READS IS OF BULK AT MOST 1048576: true; the input reads as it did. -/
def fnExactSameBlocksUptoRow : OpenClaim := { program := "ytmkjgehhkmfoiaa", sum := "11c7ad0dda8bd258a7327c32ce62a6c7cb1df3ef655ba3127c3d4e23239b0731", func := "loop.example/g01013/laws.FnExactSameBlocks", spec := "fnExactSameBlocks", apart := false, narrowed := true }
def FnExactSameBlocksUptoSaid : Prop := fnExactSameBlocksUptoRow.holds Try.pinned (OpenSpec.upto fnExactSameBlocksSpec)

/-- 'laws.FnExactReportText', WHERE WHAT IT READS IS OF BULK AT MOST 1048576: true; the input reads as it did. -/
def fnExactReportTextUptoRow : OpenClaim := { program := "ytmkjgehhkmfoiaa", sum := "11c7ad0dda8bd258a7327c32ce62a6c7cb1df3ef655ba3127c3d4e23239b0731", func := "loop.example/g01013/laws.FnExactReportText", spec := "fnExactReportText", inPlace := ["internal/abi.NoEscape"], apart := false, narrowed := true }
def FnExactReportTextUptoSaid : Prop := fnExactReportTextUptoRow.holds Try.pinned (OpenSpec.upto fnExactReportTextSpec)

/-- 'laws.FnExactCountProblems', WHERE WHAT IT READS IS OF BULK AT MOST 1048576: true; the input reads as it did. -/
def fnExactCountProblemsUptoRow : OpenClaim := { program := "ytmkjgehhkmfoiaa", sum := "11c7ad0dda8bd258a7327c32ce62a6c7cb1df3ef655ba3127c3d4e23239b0731", func := "loop.example/g01013/laws.FnExactCountProblems", spec := "fnExactCountProblems", apart := false, narrowed := true }
def FnExactCountProblemsUptoSaid : Prop := fnExactCountProblemsUptoRow.holds Try.pinned (OpenSpec.upto fnExactCountProblemsSpec)

end Rows
end Go.Proofs.Ytmkjgehhkmfoiaa
