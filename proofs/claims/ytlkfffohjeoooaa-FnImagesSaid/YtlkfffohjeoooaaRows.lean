/-
  No cell of these rows narrows 'for every input' (looked for: loops, veiled, ifaces, maps, wideKeys, modest, calm, conditions, laid).
  DERIVED. THE GIVEN ROWS OF THIS SEAT. 9 by the template 'for every input the law returns true; each argument reads behind the call as it read before'; 0 by the template 'total and deterministic' (their statements: YtlkfffohjeoooaaTotals.lean).
  GIVEN WITH THE SEED: the statements are not yours to turn. If you find one false, say at which input.
  Laid BY PROGRAM, IN A SANDBOX (cutbox-rows.mjs): the forced cells as the released guide's own fill.sh prints them over the translation 2458724c31c9f001… (all of the seat's roots in one cut). By AI agents, Wed Nov 11 2026. No macro, syntax, notation, axiom, sorry.
-/
import Derived.Test.YtlkfffohjeoooaaChecked
import GoSem.Claim
import GoSem.ClaimJoined
import GoSem.ClaimMapViews
import Derived.JoinedTies
import Derived.KernelRfl
namespace Go.Proofs.Ytlkfffohjeoooaa
/- THE CELL 'sum', in the pinned program and in every row, IS THE sha256 OF THE DUMP (.gsa) THAT YtlkfffohjeoooaaProg.lean LOADS. Nothing in Lean hashes anything: it is a label: what it is worth is what the hold of that sum in a sandbox is worth. -/
noncomputable def Try.pinned : Pinned := { name := "ytlkfffohjeoooaa", sum := "2458724c31c9f001bc9d27fd50293b469dec0a8bf675981f5364186d17f638ed", checked := Try.checked }
namespace Rows
def none {H : Type} : Left H := { results := [], args := [] }

/-- 'laws.FnExactCompiledMoves': WHATEVER THE INPUT: true; the input reads as it did. -/
def fnExactCompiledMovesSpec : ChangeSpec := { name := "fnExactCompiledMoves", fn := fun _ => fun
  | [d1, d2] => { results := [.lit (.bool true)], args := [d1, d2] }
  | _ => none }
def fnExactCompiledMovesRow : OpenClaim := { program := "ytlkfffohjeoooaa", sum := "2458724c31c9f001bc9d27fd50293b469dec0a8bf675981f5364186d17f638ed", func := "loop.example/g01006/laws.FnExactCompiledMoves", spec := "fnExactCompiledMoves", apart := false }
def FnExactCompiledMovesSaid : Prop := fnExactCompiledMovesRow.holds Try.pinned (OpenSpec.ofChange fnExactCompiledMovesSpec)

/-- ITS FALSE NEIGHBOUR: 'it returns false'. Refute it at one input. -/
def fnExactCompiledMovesWrong : ChangeSpec := { name := "fnExactCompiledMoves", fn := fun _ => fun
  | [d1, d2] => { results := [.lit (.bool false)], args := [d1, d2] }
  | _ => none }
def FnExactCompiledMovesWrongFalsely : Prop := fnExactCompiledMovesRow.holds Try.pinned (OpenSpec.ofChange fnExactCompiledMovesWrong)

/-- 'laws.FnExactFirstFailure': WHATEVER THE INPUT: true; the input reads as it did. -/
def fnExactFirstFailureSpec : ChangeSpec := { name := "fnExactFirstFailure", fn := fun _ => fun
  | [d1, d2] => { results := [.lit (.bool true)], args := [d1, d2] }
  | _ => none }
def fnExactFirstFailureRow : OpenClaim := { program := "ytlkfffohjeoooaa", sum := "2458724c31c9f001bc9d27fd50293b469dec0a8bf675981f5364186d17f638ed", func := "loop.example/g01006/laws.FnExactFirstFailure", spec := "fnExactFirstFailure", apart := false }
def FnExactFirstFailureSaid : Prop := fnExactFirstFailureRow.holds Try.pinned (OpenSpec.ofChange fnExactFirstFailureSpec)

/-- ITS FALSE NEIGHBOUR: 'it returns false'. Refute it at one input. -/
def fnExactFirstFailureWrong : ChangeSpec := { name := "fnExactFirstFailure", fn := fun _ => fun
  | [d1, d2] => { results := [.lit (.bool false)], args := [d1, d2] }
  | _ => none }
def FnExactFirstFailureWrongFalsely : Prop := fnExactFirstFailureRow.holds Try.pinned (OpenSpec.ofChange fnExactFirstFailureWrong)

/-- 'laws.FnExactRunRules': WHATEVER THE INPUT: true; the input reads as it did. -/
def fnExactRunRulesSpec : ChangeSpec := { name := "fnExactRunRules", fn := fun _ => fun
  | [d1, d2] => { results := [.lit (.bool true)], args := [d1, d2] }
  | _ => none }
def fnExactRunRulesRow : OpenClaim := { program := "ytlkfffohjeoooaa", sum := "2458724c31c9f001bc9d27fd50293b469dec0a8bf675981f5364186d17f638ed", func := "loop.example/g01006/laws.FnExactRunRules", spec := "fnExactRunRules", apart := false }
def FnExactRunRulesSaid : Prop := fnExactRunRulesRow.holds Try.pinned (OpenSpec.ofChange fnExactRunRulesSpec)

/-- ITS FALSE NEIGHBOUR: 'it returns false'. Refute it at one input. -/
def fnExactRunRulesWrong : ChangeSpec := { name := "fnExactRunRules", fn := fun _ => fun
  | [d1, d2] => { results := [.lit (.bool false)], args := [d1, d2] }
  | _ => none }
def FnExactRunRulesWrongFalsely : Prop := fnExactRunRulesRow.holds Try.pinned (OpenSpec.ofChange fnExactRunRulesWrong)

/-- 'laws.FnExactStepMind': WHATEVER THE INPUT: true; the input reads as it did. -/
def fnExactStepMindSpec : ChangeSpec := { name := "fnExactStepMind", fn := fun _ => fun
  | [d1, d2] => { results := [.lit (.bool true)], args := [d1, d2] }
  | _ => none }
def fnExactStepMindRow : OpenClaim := { program := "ytlkfffohjeoooaa", sum := "2458724c31c9f001bc9d27fd50293b469dec0a8bf675981f5364186d17f638ed", func := "loop.example/g01006/laws.FnExactStepMind", spec := "fnExactStepMind", apart := false }
def FnExactStepMindSaid : Prop := fnExactStepMindRow.holds Try.pinned (OpenSpec.ofChange fnExactStepMindSpec)

/-- ITS FALSE NEIGHBOUR: 'it returns false'. Refute it at one input. -/
def fnExactStepMindWrong : ChangeSpec := { name := "fnExactStepMind", fn := fun _ => fun
  | [d1, d2] => { results := [.lit (.bool false)], args := [d1, d2] }
  | _ => none }
def FnExactStepMindWrongFalsely : Prop := fnExactStepMindRow.holds Try.pinned (OpenSpec.ofChange fnExactStepMindWrong)

/-- 'laws.FnExactRunMind': WHATEVER THE INPUT: true; the input reads as it did. -/
def fnExactRunMindSpec : ChangeSpec := { name := "fnExactRunMind", fn := fun _ => fun
  | [d1, d2] => { results := [.lit (.bool true)], args := [d1, d2] }
  | _ => none }
def fnExactRunMindRow : OpenClaim := { program := "ytlkfffohjeoooaa", sum := "2458724c31c9f001bc9d27fd50293b469dec0a8bf675981f5364186d17f638ed", func := "loop.example/g01006/laws.FnExactRunMind", spec := "fnExactRunMind", apart := false }
def FnExactRunMindSaid : Prop := fnExactRunMindRow.holds Try.pinned (OpenSpec.ofChange fnExactRunMindSpec)

/-- ITS FALSE NEIGHBOUR: 'it returns false'. Refute it at one input. -/
def fnExactRunMindWrong : ChangeSpec := { name := "fnExactRunMind", fn := fun _ => fun
  | [d1, d2] => { results := [.lit (.bool false)], args := [d1, d2] }
  | _ => none }
def FnExactRunMindWrongFalsely : Prop := fnExactRunMindRow.holds Try.pinned (OpenSpec.ofChange fnExactRunMindWrong)

/-- 'laws.FnScripts': WHATEVER THE INPUT: true; the input reads as it did. -/
def fnScriptsSpec : ChangeSpec := { name := "fnScripts", fn := fun _ => fun
  | [d] => { results := [.lit (.bool true)], args := [d] }
  | _ => none }
def fnScriptsRow : OpenClaim := { program := "ytlkfffohjeoooaa", sum := "2458724c31c9f001bc9d27fd50293b469dec0a8bf675981f5364186d17f638ed", func := "loop.example/g01006/laws.FnScripts", spec := "fnScripts", recurses := true, apart := false }
def FnScriptsSaid : Prop := fnScriptsRow.holds Try.pinned (OpenSpec.ofChange fnScriptsSpec)

/-- ITS FALSE NEIGHBOUR: 'it returns false'. Refute it at one input. -/
def fnScriptsWrong : ChangeSpec := { name := "fnScripts", fn := fun _ => fun
  | [d] => { results := [.lit (.bool false)], args := [d] }
  | _ => none }
def FnScriptsWrongFalsely : Prop := fnScriptsRow.holds Try.pinned (OpenSpec.ofChange fnScriptsWrong)

/-- 'laws.FnScriptWords': WHATEVER THE INPUT: true; the input reads as it did. -/
def fnScriptWordsSpec : ChangeSpec := { name := "fnScriptWords", fn := fun _ => fun
  | [d] => { results := [.lit (.bool true)], args := [d] }
  | _ => none }
def fnScriptWordsRow : OpenClaim := { program := "ytlkfffohjeoooaa", sum := "2458724c31c9f001bc9d27fd50293b469dec0a8bf675981f5364186d17f638ed", func := "loop.example/g01006/laws.FnScriptWords", spec := "fnScriptWords", apart := false }
def FnScriptWordsSaid : Prop := fnScriptWordsRow.holds Try.pinned (OpenSpec.ofChange fnScriptWordsSpec)

/-- ITS FALSE NEIGHBOUR: 'it returns false'. Refute it at one input. -/
def fnScriptWordsWrong : ChangeSpec := { name := "fnScriptWords", fn := fun _ => fun
  | [d] => { results := [.lit (.bool false)], args := [d] }
  | _ => none }
def FnScriptWordsWrongFalsely : Prop := fnScriptWordsRow.holds Try.pinned (OpenSpec.ofChange fnScriptWordsWrong)

/-- 'laws.FnMinds': WHATEVER THE INPUT: true; the input reads as it did. -/
def fnMindsSpec : ChangeSpec := { name := "fnMinds", fn := fun _ => fun
  | [d] => { results := [.lit (.bool true)], args := [d] }
  | _ => none }
def fnMindsRow : OpenClaim := { program := "ytlkfffohjeoooaa", sum := "2458724c31c9f001bc9d27fd50293b469dec0a8bf675981f5364186d17f638ed", func := "loop.example/g01006/laws.FnMinds", spec := "fnMinds", apart := false }
def FnMindsSaid : Prop := fnMindsRow.holds Try.pinned (OpenSpec.ofChange fnMindsSpec)

/-- ITS FALSE NEIGHBOUR: 'it returns false'. Refute it at one input. -/
def fnMindsWrong : ChangeSpec := { name := "fnMinds", fn := fun _ => fun
  | [d] => { results := [.lit (.bool false)], args := [d] }
  | _ => none }
def FnMindsWrongFalsely : Prop := fnMindsRow.holds Try.pinned (OpenSpec.ofChange fnMindsWrong)

/-- 'laws.FnImages': WHATEVER THE INPUT: true; the input reads as it did. -/
def fnImagesSpec : ChangeSpec := { name := "fnImages", fn := fun _ => fun
  | [d] => { results := [.lit (.bool true)], args := [d] }
  | _ => none }
def fnImagesRow : OpenClaim := { program := "ytlkfffohjeoooaa", sum := "2458724c31c9f001bc9d27fd50293b469dec0a8bf675981f5364186d17f638ed", func := "loop.example/g01006/laws.FnImages", spec := "fnImages", recurses := true, apart := false }
def FnImagesSaid : Prop := fnImagesRow.holds Try.pinned (OpenSpec.ofChange fnImagesSpec)

/-- ITS FALSE NEIGHBOUR: 'it returns false'. Refute it at one input. -/
def fnImagesWrong : ChangeSpec := { name := "fnImages", fn := fun _ => fun
  | [d] => { results := [.lit (.bool false)], args := [d] }
  | _ => none }
def FnImagesWrongFalsely : Prop := fnImagesRow.holds Try.pinned (OpenSpec.ofChange fnImagesWrong)

/- THE SECOND FORM. 'bulk': how many values and letters a reading holds, each counted each time it is reached (what is shared counts as often as it is met; a slice's spare places count too). A statement '..UptoSaid' is the law's where the arguments, and the package variables that the reading takes, are together of bulk at most 1048576: NARROWER than '..Said'. Prove '..Said' where nothing that the law and all that it calls make is longer than what came in: it says more and counts as full. Else prove '..UptoSaid'. A law counts once. -/
mutual
def uptoBulk {H : Type} : DataW H → Nat
  | .lit (.string bytes) => bytes.length + 1
  | .lit _ => 1
  | .nil => 1
  | .ptr d => uptoBulk d + 1
  | .slice elems spare => uptoBulkAll elems + uptoBulkAll spare + 1
  | .agg parts => uptoBulkAll parts + 1
  | .iface _ d => uptoBulk d + 1
  | .map entries => uptoBulkEntries entries + 1
  | .held _ => 1
def uptoBulkAll {H : Type} : List (DataW H) → Nat
  | [] => 0
  | d :: r => uptoBulk d + uptoBulkAll r
def uptoBulkEntries {H : Type} : List (Lit × DataW H) → Nat
  | [] => 0
  | x :: r => uptoBulkEntry x + uptoBulkEntries r
def uptoBulkEntry {H : Type} : Lit × DataW H → Nat
  | (.string bytes, d) => bytes.length + uptoBulk d + 1
  | (_, d) => uptoBulk d + 1
 end
def uptoSmall : (H : Type) → List (DataW H) → Bool := fun _ ds => decide (uptoBulkAll ds ≤ 1048576)
def OpenSpec.upto (s : _root_.Go.ChangeSpec) : _root_.Go.OpenSpec := { _root_.Go.OpenSpec.ofChange s with cond := some uptoSmall }

/-- 'laws.FnExactCompiledMoves', WHERE WHAT IT READS IS OF BULK AT MOST 1048576: true; the input reads as it did. -/
def fnExactCompiledMovesUptoRow : OpenClaim := { program := "ytlkfffohjeoooaa", sum := "2458724c31c9f001bc9d27fd50293b469dec0a8bf675981f5364186d17f638ed", func := "loop.example/g01006/laws.FnExactCompiledMoves", spec := "fnExactCompiledMoves", apart := false, narrowed := true }
def FnExactCompiledMovesUptoSaid : Prop := fnExactCompiledMovesUptoRow.holds Try.pinned (OpenSpec.upto fnExactCompiledMovesSpec)

/-- 'laws.FnExactFirstFailure', WHERE WHAT IT READS IS OF BULK AT MOST 1048576: true; the input reads as it did. -/
def fnExactFirstFailureUptoRow : OpenClaim := { program := "ytlkfffohjeoooaa", sum := "2458724c31c9f001bc9d27fd50293b469dec0a8bf675981f5364186d17f638ed", func := "loop.example/g01006/laws.FnExactFirstFailure", spec := "fnExactFirstFailure", apart := false, narrowed := true }
def FnExactFirstFailureUptoSaid : Prop := fnExactFirstFailureUptoRow.holds Try.pinned (OpenSpec.upto fnExactFirstFailureSpec)

/-- 'laws.FnExactRunRules', WHERE WHAT IT READS IS OF BULK AT MOST 1048576: true; the input reads as it did. -/
def fnExactRunRulesUptoRow : OpenClaim := { program := "ytlkfffohjeoooaa", sum := "2458724c31c9f001bc9d27fd50293b469dec0a8bf675981f5364186d17f638ed", func := "loop.example/g01006/laws.FnExactRunRules", spec := "fnExactRunRules", apart := false, narrowed := true }
def FnExactRunRulesUptoSaid : Prop := fnExactRunRulesUptoRow.holds Try.pinned (OpenSpec.upto fnExactRunRulesSpec)

/-- 'laws.FnExactStepMind', WHERE WHAT IT READS IS OF BULK AT MOST 1048576: true; the input reads as it did. -/
def fnExactStepMindUptoRow : OpenClaim := { program := "ytlkfffohjeoooaa", sum := "2458724c31c9f001bc9d27fd50293b469dec0a8bf675981f5364186d17f638ed", func := "loop.example/g01006/laws.FnExactStepMind", spec := "fnExactStepMind", apart := false, narrowed := true }
def FnExactStepMindUptoSaid : Prop := fnExactStepMindUptoRow.holds Try.pinned (OpenSpec.upto fnExactStepMindSpec)

/-- 'laws.FnExactRunMind', WHERE WHAT IT READS IS OF BULK AT MOST 1048576: true; the input reads as it did. -/
def fnExactRunMindUptoRow : OpenClaim := { program := "ytlkfffohjeoooaa", sum := "2458724c31c9f001bc9d27fd50293b469dec0a8bf675981f5364186d17f638ed", func := "loop.example/g01006/laws.FnExactRunMind", spec := "fnExactRunMind", apart := false, narrowed := true }
def FnExactRunMindUptoSaid : Prop := fnExactRunMindUptoRow.holds Try.pinned (OpenSpec.upto fnExactRunMindSpec)

/-- 'laws.FnScripts', WHERE WHAT IT READS IS OF BULK AT MOST 1048576: true; the input reads as it did. -/
def fnScriptsUptoRow : OpenClaim := { program := "ytlkfffohjeoooaa", sum := "2458724c31c9f001bc9d27fd50293b469dec0a8bf675981f5364186d17f638ed", func := "loop.example/g01006/laws.FnScripts", spec := "fnScripts", recurses := true, apart := false, narrowed := true }
def FnScriptsUptoSaid : Prop := fnScriptsUptoRow.holds Try.pinned (OpenSpec.upto fnScriptsSpec)

/-- 'laws.FnScriptWords', WHERE WHAT IT READS IS OF BULK AT MOST 1048576: true; the input reads as it did. -/
def fnScriptWordsUptoRow : OpenClaim := { program := "ytlkfffohjeoooaa", sum := "2458724c31c9f001bc9d27fd50293b469dec0a8bf675981f5364186d17f638ed", func := "loop.example/g01006/laws.FnScriptWords", spec := "fnScriptWords", apart := false, narrowed := true }
def FnScriptWordsUptoSaid : Prop := fnScriptWordsUptoRow.holds Try.pinned (OpenSpec.upto fnScriptWordsSpec)

/-- 'laws.FnMinds', WHERE WHAT IT READS IS OF BULK AT MOST 1048576: true; the input reads as it did. -/
def fnMindsUptoRow : OpenClaim := { program := "ytlkfffohjeoooaa", sum := "2458724c31c9f001bc9d27fd50293b469dec0a8bf675981f5364186d17f638ed", func := "loop.example/g01006/laws.FnMinds", spec := "fnMinds", apart := false, narrowed := true }
def FnMindsUptoSaid : Prop := fnMindsUptoRow.holds Try.pinned (OpenSpec.upto fnMindsSpec)

/-- 'laws.FnImages', WHERE WHAT IT READS IS OF BULK AT MOST 1048576: true; the input reads as it did. -/
def fnImagesUptoRow : OpenClaim := { program := "ytlkfffohjeoooaa", sum := "2458724c31c9f001bc9d27fd50293b469dec0a8bf675981f5364186d17f638ed", func := "loop.example/g01006/laws.FnImages", spec := "fnImages", recurses := true, apart := false, narrowed := true }
def FnImagesUptoSaid : Prop := fnImagesUptoRow.holds Try.pinned (OpenSpec.upto fnImagesSpec)

end Rows
end Go.Proofs.Ytlkfffohjeoooaa
