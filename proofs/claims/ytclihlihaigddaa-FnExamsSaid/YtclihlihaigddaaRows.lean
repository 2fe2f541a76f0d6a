/-
  No cell of these rows narrows 'for every input' (looked for: loops, veiled, ifaces, maps, wideKeys, modest, calm, conditions, laid).
  DERIVED. THE GIVEN ROWS OF THIS SEAT. 12 by the template 'for every input the law returns true; each argument reads behind the call as it read before'; 0 by the template 'total and deterministic' (their statements: YtclihlihaigddaaTotals.lean).
  GIVEN WITH THE SEED: the statements are not yours to turn. If you find one false, say at which input.
  Laid BY PROGRAM, IN A SANDBOX (cutbox-rows.mjs): the forced cells as the released guide's own fill.sh prints them over the translation ca204901fba33f3f… (all of the seat's roots in one cut). By AI agents, Wed Nov 11 2026. No macro, syntax, notation, axiom, sorry.
-/
import Derived.Test.YtclihlihaigddaaChecked
import GoSem.Claim
import GoSem.ClaimJoined
import GoSem.ClaimMapViews
import Derived.JoinedTies
import Derived.KernelRfl
namespace Go.Proofs.Ytclihlihaigddaa
/- THE CELL 'sum', in the pinned program and in every row, IS THE sha256 OF THE DUMP (.gsa) THAT YtclihlihaigddaaProg.lean LOADS. Nothing in Lean hashes anything: it is a label: what it is worth is what the hold of that sum in a sandbox is worth. -/
noncomputable def Try.pinned : Pinned := { name := "ytclihlihaigddaa", sum := "ca204901fba33f3fd8458ffa0bbd1eef3ca17f941636c29509256ec7e91eb5a5", checked := Try.checked }
namespace Rows
def none {H : Type} : Left H := { results := [], args := [] }

/-- 'laws.FnExactNewConsole': WHATEVER THE INPUT: true; the input reads as it did. -/
def fnExactNewConsoleSpec : ChangeSpec := { name := "fnExactNewConsole", fn := fun _ => fun
  | [d] => { results := [.lit (.bool true)], args := [d] }
  | _ => none }
def fnExactNewConsoleRow : OpenClaim := { program := "ytclihlihaigddaa", sum := "ca204901fba33f3fd8458ffa0bbd1eef3ca17f941636c29509256ec7e91eb5a5", func := "loop.example/g01006/laws.FnExactNewConsole", spec := "fnExactNewConsole", apart := false }
def FnExactNewConsoleSaid : Prop := fnExactNewConsoleRow.holds Try.pinned (OpenSpec.ofChange fnExactNewConsoleSpec)

/-- ITS FALSE NEIGHBOUR: 'it returns false'. Refute it at one input. -/
def fnExactNewConsoleWrong : ChangeSpec := { name := "fnExactNewConsole", fn := fun _ => fun
  | [d] => { results := [.lit (.bool false)], args := [d] }
  | _ => none }
def FnExactNewConsoleWrongFalsely : Prop := fnExactNewConsoleRow.holds Try.pinned (OpenSpec.ofChange fnExactNewConsoleWrong)

/-- 'laws.FnExactIsValidConsole': WHATEVER THE INPUT: true; the input reads as it did. -/
def fnExactIsValidConsoleSpec : ChangeSpec := { name := "fnExactIsValidConsole", fn := fun _ => fun
  | [d] => { results := [.lit (.bool true)], args := [d] }
  | _ => none }
def fnExactIsValidConsoleRow : OpenClaim := { program := "ytclihlihaigddaa", sum := "ca204901fba33f3fd8458ffa0bbd1eef3ca17f941636c29509256ec7e91eb5a5", func := "loop.example/g01006/laws.FnExactIsValidConsole", spec := "fnExactIsValidConsole", recurses := true, apart := false }
def FnExactIsValidConsoleSaid : Prop := fnExactIsValidConsoleRow.holds Try.pinned (OpenSpec.ofChange fnExactIsValidConsoleSpec)

/-- ITS FALSE NEIGHBOUR: 'it returns false'. Refute it at one input. -/
def fnExactIsValidConsoleWrong : ChangeSpec := { name := "fnExactIsValidConsole", fn := fun _ => fun
  | [d] => { results := [.lit (.bool false)], args := [d] }
  | _ => none }
def FnExactIsValidConsoleWrongFalsely : Prop := fnExactIsValidConsoleRow.holds Try.pinned (OpenSpec.ofChange fnExactIsValidConsoleWrong)

/-- 'laws.FnExactFormatConsole': WHATEVER THE INPUT: true; the input reads as it did. -/
def fnExactFormatConsoleSpec : ChangeSpec := { name := "fnExactFormatConsole", fn := fun _ => fun
  | [d] => { results := [.lit (.bool true)], args := [d] }
  | _ => none }
def fnExactFormatConsoleRow : OpenClaim := { program := "ytclihlihaigddaa", sum := "ca204901fba33f3fd8458ffa0bbd1eef3ca17f941636c29509256ec7e91eb5a5", func := "loop.example/g01006/laws.FnExactFormatConsole", spec := "fnExactFormatConsole", recurses := true, apart := false }
def FnExactFormatConsoleSaid : Prop := fnExactFormatConsoleRow.holds Try.pinned (OpenSpec.ofChange fnExactFormatConsoleSpec)

/-- ITS FALSE NEIGHBOUR: 'it returns false'. Refute it at one input. -/
def fnExactFormatConsoleWrong : ChangeSpec := { name := "fnExactFormatConsole", fn := fun _ => fun
  | [d] => { results := [.lit (.bool false)], args := [d] }
  | _ => none }
def FnExactFormatConsoleWrongFalsely : Prop := fnExactFormatConsoleRow.holds Try.pinned (OpenSpec.ofChange fnExactFormatConsoleWrong)

/-- 'laws.FnExactReplayLog': WHATEVER THE INPUT: true; the input reads as it did. -/
def fnExactReplayLogSpec : ChangeSpec := { name := "fnExactReplayLog", fn := fun _ => fun
  | [d1, d2] => { results := [.lit (.bool true)], args := [d1, d2] }
  | _ => none }
def fnExactReplayLogRow : OpenClaim := { program := "ytclihlihaigddaa", sum := "ca204901fba33f3fd8458ffa0bbd1eef3ca17f941636c29509256ec7e91eb5a5", func := "loop.example/g01006/laws.FnExactReplayLog", spec := "fnExactReplayLog", recurses := true, apart := false }
def FnExactReplayLogSaid : Prop := fnExactReplayLogRow.holds Try.pinned (OpenSpec.ofChange fnExactReplayLogSpec)

/-- ITS FALSE NEIGHBOUR: 'it returns false'. Refute it at one input. -/
def fnExactReplayLogWrong : ChangeSpec := { name := "fnExactReplayLog", fn := fun _ => fun
  | [d1, d2] => { results := [.lit (.bool false)], args := [d1, d2] }
  | _ => none }
def FnExactReplayLogWrongFalsely : Prop := fnExactReplayLogRow.holds Try.pinned (OpenSpec.ofChange fnExactReplayLogWrong)

/-- 'laws.FnExactExecuteCommand': WHATEVER THE INPUT: true; the input reads as it did. -/
def fnExactExecuteCommandSpec : ChangeSpec := { name := "fnExactExecuteCommand", fn := fun _ => fun
  | [d1, d2] => { results := [.lit (.bool true)], args := [d1, d2] }
  | _ => none }
def fnExactExecuteCommandRow : OpenClaim := { program := "ytclihlihaigddaa", sum := "ca204901fba33f3fd8458ffa0bbd1eef3ca17f941636c29509256ec7e91eb5a5", func := "loop.example/g01006/laws.FnExactExecuteCommand", spec := "fnExactExecuteCommand", recurses := true, apart := false }
def FnExactExecuteCommandSaid : Prop := fnExactExecuteCommandRow.holds Try.pinned (OpenSpec.ofChange fnExactExecuteCommandSpec)

/-- ITS FALSE NEIGHBOUR: 'it returns false'. Refute it at one input. -/
def fnExactExecuteCommandWrong : ChangeSpec := { name := "fnExactExecuteCommand", fn := fun _ => fun
  | [d1, d2] => { results := [.lit (.bool false)], args := [d1, d2] }
  | _ => none }
def FnExactExecuteCommandWrongFalsely : Prop := fnExactExecuteCommandRow.holds Try.pinned (OpenSpec.ofChange fnExactExecuteCommandWrong)

/-- 'laws.FnExactRunScript': WHATEVER THE INPUT: true; the input reads as it did. -/
def fnExactRunScriptSpec : ChangeSpec := { name := "fnExactRunScript", fn := fun _ => fun
  | [d1, d2] => { results := [.lit (.bool true)], args := [d1, d2] }
  | _ => none }
def fnExactRunScriptRow : OpenClaim := { program := "ytclihlihaigddaa", sum := "ca204901fba33f3fd8458ffa0bbd1eef3ca17f941636c29509256ec7e91eb5a5", func := "loop.example/g01006/laws.FnExactRunScript", spec := "fnExactRunScript", recurses := true, apart := false }
def FnExactRunScriptSaid : Prop := fnExactRunScriptRow.holds Try.pinned (OpenSpec.ofChange fnExactRunScriptSpec)

/-- ITS FALSE NEIGHBOUR: 'it returns false'. Refute it at one input. -/
def fnExactRunScriptWrong : ChangeSpec := { name := "fnExactRunScript", fn := fun _ => fun
  | [d1, d2] => { results := [.lit (.bool false)], args := [d1, d2] }
  | _ => none }
def FnExactRunScriptWrongFalsely : Prop := fnExactRunScriptRow.holds Try.pinned (OpenSpec.ofChange fnExactRunScriptWrong)

/-- 'laws.FnConsole': WHATEVER THE INPUT: true; the input reads as it did. -/
def fnConsoleSpec : ChangeSpec := { name := "fnConsole", fn := fun _ => fun
  | [d] => { results := [.lit (.bool true)], args := [d] }
  | _ => none }
def fnConsoleRow : OpenClaim := { program := "ytclihlihaigddaa", sum := "ca204901fba33f3fd8458ffa0bbd1eef3ca17f941636c29509256ec7e91eb5a5", func := "loop.example/g01006/laws.FnConsole", spec := "fnConsole", recurses := true, apart := false }
def FnConsoleSaid : Prop := fnConsoleRow.holds Try.pinned (OpenSpec.ofChange fnConsoleSpec)

/-- ITS FALSE NEIGHBOUR: 'it returns false'. Refute it at one input. -/
def fnConsoleWrong : ChangeSpec := { name := "fnConsole", fn := fun _ => fun
  | [d] => { results := [.lit (.bool false)], args := [d] }
  | _ => none }
def FnConsoleWrongFalsely : Prop := fnConsoleRow.holds Try.pinned (OpenSpec.ofChange fnConsoleWrong)

/-- 'laws.FnScript': WHATEVER THE INPUT: true; the input reads as it did. -/
def fnScriptSpec : ChangeSpec := { name := "fnScript", fn := fun _ => fun
  | [d] => { results := [.lit (.bool true)], args := [d] }
  | _ => none }
def fnScriptRow : OpenClaim := { program := "ytclihlihaigddaa", sum := "ca204901fba33f3fd8458ffa0bbd1eef3ca17f941636c29509256ec7e91eb5a5", func := "loop.example/g01006/laws.FnScript", spec := "fnScript", recurses := true, apart := false }
def FnScriptSaid : Prop := fnScriptRow.holds Try.pinned (OpenSpec.ofChange fnScriptSpec)

/-- ITS FALSE NEIGHBOUR: 'it returns false'. Refute it at one input. -/
def fnScriptWrong : ChangeSpec := { name := "fnScript", fn := fun _ => fun
  | [d] => { results := [.lit (.bool false)], args := [d] }
  | _ => none }
def FnScriptWrongFalsely : Prop := fnScriptRow.holds Try.pinned (OpenSpec.ofChange fnScriptWrong)

/-- 'laws.FnExactStepSchool': WHATEVER THE INPUT: true; the input reads as it did. -/
def fnExactStepSchoolSpec : ChangeSpec := { name := "fnExactStepSchool", fn := fun _ => fun
  | [d1, d2] => { results := [.lit (.bool true)], args := [d1, d2] }
  | _ => none }
def fnExactStepSchoolRow : OpenClaim := { program := "ytclihlihaigddaa", sum := "ca204901fba33f3fd8458ffa0bbd1eef3ca17f941636c29509256ec7e91eb5a5", func := "loop.example/g01006/laws.FnExactStepSchool", spec := "fnExactStepSchool", apart := false }
def FnExactStepSchoolSaid : Prop := fnExactStepSchoolRow.holds Try.pinned (OpenSpec.ofChange fnExactStepSchoolSpec)

/-- ITS FALSE NEIGHBOUR: 'it returns false'. Refute it at one input. -/
def fnExactStepSchoolWrong : ChangeSpec := { name := "fnExactStepSchool", fn := fun _ => fun
  | [d1, d2] => { results := [.lit (.bool false)], args := [d1, d2] }
  | _ => none }
def FnExactStepSchoolWrongFalsely : Prop := fnExactStepSchoolRow.holds Try.pinned (OpenSpec.ofChange fnExactStepSchoolWrong)

/-- 'laws.FnExactRunSchool': WHATEVER THE INPUT: true; the input reads as it did. -/
def fnExactRunSchoolSpec : ChangeSpec := { name := "fnExactRunSchool", fn := fun _ => fun
  | [d1, d2] => { results := [.lit (.bool true)], args := [d1, d2] }
  | _ => none }
def fnExactRunSchoolRow : OpenClaim := { program := "ytclihlihaigddaa", sum := "ca204901fba33f3fd8458ffa0bbd1eef3ca17f941636c29509256ec7e91eb5a5", func := "loop.example/g01006/laws.FnExactRunSchool", spec := "fnExactRunSchool", apart := false }
def FnExactRunSchoolSaid : Prop := fnExactRunSchoolRow.holds Try.pinned (OpenSpec.ofChange fnExactRunSchoolSpec)

/-- ITS FALSE NEIGHBOUR: 'it returns false'. Refute it at one input. -/
def fnExactRunSchoolWrong : ChangeSpec := { name := "fnExactRunSchool", fn := fun _ => fun
  | [d1, d2] => { results := [.lit (.bool false)], args := [d1, d2] }
  | _ => none }
def FnExactRunSchoolWrongFalsely : Prop := fnExactRunSchoolRow.holds Try.pinned (OpenSpec.ofChange fnExactRunSchoolWrong)

/-- 'laws.FnSchools': WHATEVER THE INPUT: true; the input reads as it did. -/
def fnSchoolsSpec : ChangeSpec := { name := "fnSchools", fn := fun _ => fun
  | [d] => { results := [.lit (.bool true)], args := [d] }
  | _ => none }
def fnSchoolsRow : OpenClaim := { program := "ytclihlihaigddaa", sum := "ca204901fba33f3fd8458ffa0bbd1eef3ca17f941636c29509256ec7e91eb5a5", func := "loop.example/g01006/laws.FnSchools", spec := "fnSchools", apart := false }
def FnSchoolsSaid : Prop := fnSchoolsRow.holds Try.pinned (OpenSpec.ofChange fnSchoolsSpec)

/-- ITS FALSE NEIGHBOUR: 'it returns false'. Refute it at one input. -/
def fnSchoolsWrong : ChangeSpec := { name := "fnSchools", fn := fun _ => fun
  | [d] => { results := [.lit (.bool false)], args := [d] }
  | _ => none }
def FnSchoolsWrongFalsely : Prop := fnSchoolsRow.holds Try.pinned (OpenSpec.ofChange fnSchoolsWrong)

/-- 'laws.FnExams': WHATEVER THE INPUT: true; the input reads as it did. -/
def fnExamsSpec : ChangeSpec := { name := "fnExams", fn := fun _ => fun
  | [d] => { results := [.lit (.bool true)], args := [d] }
  | _ => none }
def fnExamsRow : OpenClaim := { program := "ytclihlihaigddaa", sum := "ca204901fba33f3fd8458ffa0bbd1eef3ca17f941636c29509256ec7e91eb5a5", func := "loop.example/g01006/laws.FnExams", spec := "fnExams", recurses := true, apart := false }
def FnExamsSaid : Prop := fnExamsRow.holds Try.pinned (OpenSpec.ofChange fnExamsSpec)

/-- ITS FALSE NEIGHBOUR: 'it returns false'. Refute it at one input. -/
def fnExamsWrong : ChangeSpec := { name := "fnExams", fn := fun _ => fun
  | [d] => { results := [.lit (.bool false)], args := [d] }
  | _ => none }
def FnExamsWrongFalsely : Prop := fnExamsRow.holds Try.pinned (OpenSpec.ofChange fnExamsWrong)

/- THE SECOND FORM. 'bulk': how many values and letters a reading holds, each counted each time it is reached (what is shared counts as often as it is met; a slice's spare places count too). A statement '..UptoSaid' is the law's where the arguments, and the package variables that the reading takes, are together of bulk at most 1048576: NARROWER than '..Said'. Prove '..Said' where nothing that the law and all that it calls make is longer than what came in: it says more and counts as full. Else prove '..UptoSaid'. A law counts once. -/
mutual
def uptoBulk {H : Type} : DataW H → Nat
  | .lit (.string bytes) => bytes.length + 1
  | .lit _ => 1
  | .nil => 1
  | .ptr d => uptoBulk d + 1
  | .slice elems spare => uptoBulkAll elems + uptoBulkAll spare + 1
  | .agg parts => uptoBulkAll parts + 1
  | .iface _ d => uptoBulk d + 1
  | .map entries => uptoBulkEntries entries + 1
  | .held _ => 1
def uptoBulkAll {H : Type} : List (DataW H) → Nat
  | [] => 0
  | d :: r => uptoBulk d + uptoBulkAll r
def uptoBulkEntries {H : Type} : List (Lit × DataW H) → Nat
  | [] => 0
  | x :: r => uptoBulkEntry x + uptoBulkEntries r
def uptoBulkEntry {H : Type} : Lit × DataW H → Nat
  | (.string bytes, d) => bytes.length + uptoBulk d + 1
  | (_, d) => uptoBulk d + 1
 end
def uptoSmall : (H : Type) → List (DataW H) → Bool := fun _ ds => decide (uptoBulkAll ds ≤ 1048576)
def OpenSpec.upto (s : _root_.Go.ChangeSpec) : _root_.Go.OpenSpec := { _root_.Go.OpenSpec.ofChange s with cond := some uptoSmall }

/-- 'laws.FnExactNewConsole', WHERE WHAT IT READS IS OF BULK AT MOST 1048576: true; the input reads as it did. -/
def fnExactNewConsoleUptoRow : OpenClaim := { program := "ytclihlihaigddaa", sum := "ca204901fba33f3fd8458ffa0bbd1eef3ca17f941636c29509256ec7e91eb5a5", func := "loop.example/g01006/laws.FnExactNewConsole", spec := "fnExactNewConsole", apart := false, narrowed := true }
def FnExactNewConsoleUptoSaid : Prop := fnExactNewConsoleUptoRow.holds Try.pinned (OpenSpec.upto fnExactNewConsoleSpec)

/-- 'laws.FnExactIsValidConsole', WHERE WHAT IT READS IS OF BULK AT MOST 1048576: true; the input reads as it did. -/
def fnExactIsValidConsoleUptoRow : OpenClaim := { program := "ytclihlihaigddaa", sum := "ca204901fba33f3fd8458ffa0bbd1eef3ca17f941636c29509256ec7e91eb5a5", func := "loop.example/g01006/laws.FnExactIsValidConsole", spec := "fnExactIsValidConsole", recurses := true, apart := false, narrowed := true }
def FnExactIsValidConsoleUptoSaid : Prop := fnExactIsValidConsoleUptoRow.holds Try.pinned (OpenSpec.upto fnExactIsValidConsoleSpec)

/-- 'laws.FnExactFormatConsole', WHERE WHAT IT READS IS OF BULK AT MOST 1048576: true; the input reads as it did. -/
def fnExactFormatConsoleUptoRow : OpenClaim := { program := "ytclihlihaigddaa", sum := "ca204901fba33f3fd8458ffa0bbd1eef3ca17f941636c29509256ec7e91eb5a5", func := "loop.example/g01006/laws.FnExactFormatConsole", spec := "fnExactFormatConsole", recurses := true, apart := false, narrowed := true }
def FnExactFormatConsoleUptoSaid : Prop := fnExactFormatConsoleUptoRow.holds Try.pinned (OpenSpec.upto fnExactFormatConsoleSpec)

/-- 'laws.FnExactReplayLog', WHERE WHAT IT READS IS OF BULK AT MOST 1048576: true; the input reads as it did. -/
def fnExactReplayLogUptoRow : OpenClaim := { program := "ytclihlihaigddaa", sum := "ca204901fba33f3fd8458ffa0bbd1eef3ca17f941636c29509256ec7e91eb5a5", func := "loop.example/g01006/laws.FnExactReplayLog", spec := "fnExactReplayLog", recurses := true, apart := false, narrowed := true }
def FnExactReplayLogUptoSaid : Prop := fnExactReplayLogUptoRow.holds Try.pinned (OpenSpec.upto fnExactReplayLogSpec)

/-- 'laws.FnExactExecuteCommand', WHERE WHAT IT READS IS OF BULK AT MOST 1048576: true; the input reads as it did. -/
def fnExactExecuteCommandUptoRow : OpenClaim := { program := "ytclihlihaigddaa", sum := "ca204901fba33f3fd8458ffa0bbd1eef3ca17f941636c29509256ec7e91eb5a5", func := "loop.example/g01006/laws.FnExactExecuteCommand", spec := "fnExactExecuteCommand", recurses := true, apart := false, narrowed := true }
def FnExactExecuteCommandUptoSaid : Prop := fnExactExecuteCommandUptoRow.holds Try.pinned (OpenSpec.upto fnExactExecuteCommandSpec)

/-- 'laws.FnExactRunScript', WHERE WHAT IT READS IS OF BULK AT MOST 1048576: true; the input reads as it did. -/
def fnExactRunScriptUptoRow : OpenClaim := { program := "ytclihlihaigddaa", sum := "ca204901fba33f3fd8458ffa0bbd1eef3ca17f941636c29509256ec7e91eb5a5", func := "loop.example/g01006/laws.FnExactRunScript", spec := "fnExactRunScript", recurses := true, apart := false, narrowed := true }
def FnExactRunScriptUptoSaid : Prop := fnExactRunScriptUptoRow.holds Try.pinned (OpenSpec.upto fnExactRunScriptSpec)

/-- 'laws.FnConsole', WHERE WHAT IT READS IS OF BULK AT MOST 1048576: true; the input reads as it did. -/
def fnConsoleUptoRow : OpenClaim := { program := "ytclihlihaigddaa", sum := "ca204901fba33f3fd8458ffa0bbd1eef3ca17f941636c29509256ec7e91eb5a5", func := "loop.example/g01006/laws.FnConsole", spec := "fnConsole", recurses := true, apart := false, narrowed := true }
def FnConsoleUptoSaid : Prop := fnConsoleUptoRow.holds Try.pinned (OpenSpec.upto fnConsoleSpec)

/-- 'laws.FnScript', WHERE WHAT IT READS IS OF BULK AT MOST 1048576: true; the input reads as it did. -/
def fnScriptUptoRow : OpenClaim := { program := "ytclihlihaigddaa", sum := "ca204901fba33f3fd8458ffa0bbd1eef3ca17f941636c29509256ec7e91eb5a5", func := "loop.example/g01006/laws.FnScript", spec := "fnScript", recurses := true, apart := false, narrowed := true }
def FnScriptUptoSaid : Prop := fnScriptUptoRow.holds Try.pinned (OpenSpec.upto fnScriptSpec)

/-- 'laws.FnExactStepSchool', WHERE WHAT IT READS IS OF BULK AT MOST 1048576: true; the input reads as it did. -/
def fnExactStepSchoolUptoRow : OpenClaim := { program := "ytclihlihaigddaa", sum := "ca204901fba33f3fd8458ffa0bbd1eef3ca17f941636c29509256ec7e91eb5a5", func := "loop.example/g01006/laws.FnExactStepSchool", spec := "fnExactStepSchool", apart := false, narrowed := true }
def FnExactStepSchoolUptoSaid : Prop := fnExactStepSchoolUptoRow.holds Try.pinned (OpenSpec.upto fnExactStepSchoolSpec)

/-- 'laws.FnExactRunSchool', WHERE WHAT IT READS IS OF BULK AT MOST 1048576: true; the input reads as it did. -/
def fnExactRunSchoolUptoRow : OpenClaim := { program := "ytclihlihaigddaa", sum := "ca204901fba33f3fd8458ffa0bbd1eef3ca17f941636c29509256ec7e91eb5a5", func := "loop.example/g01006/laws.FnExactRunSchool", spec := "fnExactRunSchool", apart := false, narrowed := true }
def FnExactRunSchoolUptoSaid : Prop := fnExactRunSchoolUptoRow.holds Try.pinned (OpenSpec.upto fnExactRunSchoolSpec)

/-- 'laws.FnSchools', WHERE WHAT IT READS IS OF BULK AT MOST 1048576: true; the input reads as it did. -/
def fnSchoolsUptoRow : OpenClaim := { program := "ytclihlihaigddaa", sum := "ca204901fba33f3fd8458ffa0bbd1eef3ca17f941636c29509256ec7e91eb5a5", func := "loop.example/g01006/laws.FnSchools", spec := "fnSchools", apart := false, narrowed := true }
def FnSchoolsUptoSaid : Prop := fnSchoolsUptoRow.holds Try.pinned (OpenSpec.upto fnSchoolsSpec)

/-- 'laws.FnExams', WHERE WHAT IT READS IS OF BULK AT MOST 1048576: true; the input reads as it did. -/
def fnExamsUptoRow : OpenClaim := { program := "ytclihlihaigddaa", sum := "ca204901fba33f3fd8458ffa0bbd1eef3ca17f941636c29509256ec7e91eb5a5", func := "loop.example/g01006/laws.FnExams", spec := "fnExams", recurses := true, apart := false, narrowed := true }
def FnExamsUptoSaid : Prop := fnExamsUptoRow.holds Try.pinned (OpenSpec.upto fnExamsSpec)

end Rows
end Go.Proofs.Ytclihlihaigddaa
