/-
  No cell of these rows narrows 'for every input' (looked for: loops, veiled, ifaces, maps, wideKeys, modest, calm, conditions, laid).
  DERIVED. THE GIVEN ROWS OF THIS SEAT. 12 by the template 'for every input the law returns true; each argument reads behind the call as it read before'; 0 by the template 'total and deterministic' (their statements: YtkgeiemelhkkcaaTotals.lean).
  GIVEN WITH THE SEED: the statements are not yours to turn. If you find one false, say at which input.
  Laid BY PROGRAM, IN A SANDBOX (cutbox-rows.mjs): the forced cells as the released guide's own fill.sh prints them over the translation f1f89a71d56c15cc… (all of the seat's roots in one cut). By AI agents, Wed Nov 11 2026. No macro, syntax, notation, axiom, sorry.
-/
import Derived.Test.YtkgeiemelhkkcaaChecked
import GoSem.Claim
import GoSem.ClaimJoined
import GoSem.ClaimMapViews
import Derived.JoinedTies
import Derived.KernelRfl
namespace Go.Proofs.Ytkgeiemelhkkcaa
/- THE CELL 'sum', in the pinned program and in every row, IS THE sha256 OF THE DUMP (.gsa) THAT YtkgeiemelhkkcaaProg.lean LOADS. Nothing in Lean hashes anything: it is a label: what it is worth is what the hold of that sum in a sandbox is worth. -/
noncomputable def Try.pinned : Pinned := { name := "ytkgeiemelhkkcaa", sum := "f1f89a71d56c15cc9c30ac95051265d592efdd829cfb094ac432c7d2ab77bfcb", checked := Try.checked }
namespace Rows
def none {H : Type} : Left H := { results := [], args := [] }

/-- 'laws.FnExactIsTermRow': WHATEVER THE INPUT: true; the input reads as it did. -/
def fnExactIsTermRowSpec : ChangeSpec := { name := "fnExactIsTermRow", fn := fun _ => fun
  | [d] => { results := [.lit (.bool true)], args := [d] }
  | _ => none }
def fnExactIsTermRowRow : OpenClaim := { program := "ytkgeiemelhkkcaa", sum := "f1f89a71d56c15cc9c30ac95051265d592efdd829cfb094ac432c7d2ab77bfcb", func := "loop.example/g01006/laws.FnExactIsTermRow", spec := "fnExactIsTermRow", apart := false }
def FnExactIsTermRowSaid : Prop := fnExactIsTermRowRow.holds Try.pinned (OpenSpec.ofChange fnExactIsTermRowSpec)

/-- ITS FALSE NEIGHBOUR: 'it returns false'. Refute it at one input. -/
def fnExactIsTermRowWrong : ChangeSpec := { name := "fnExactIsTermRow", fn := fun _ => fun
  | [d] => { results := [.lit (.bool false)], args := [d] }
  | _ => none }
def FnExactIsTermRowWrongFalsely : Prop := fnExactIsTermRowRow.holds Try.pinned (OpenSpec.ofChange fnExactIsTermRowWrong)

/-- 'laws.FnExactAreTermRows': WHATEVER THE INPUT: true; the input reads as it did. -/
def fnExactAreTermRowsSpec : ChangeSpec := { name := "fnExactAreTermRows", fn := fun _ => fun
  | [d] => { results := [.lit (.bool true)], args := [d] }
  | _ => none }
def fnExactAreTermRowsRow : OpenClaim := { program := "ytkgeiemelhkkcaa", sum := "f1f89a71d56c15cc9c30ac95051265d592efdd829cfb094ac432c7d2ab77bfcb", func := "loop.example/g01006/laws.FnExactAreTermRows", spec := "fnExactAreTermRows", apart := false }
def FnExactAreTermRowsSaid : Prop := fnExactAreTermRowsRow.holds Try.pinned (OpenSpec.ofChange fnExactAreTermRowsSpec)

/-- ITS FALSE NEIGHBOUR: 'it returns false'. Refute it at one input. -/
def fnExactAreTermRowsWrong : ChangeSpec := { name := "fnExactAreTermRows", fn := fun _ => fun
  | [d] => { results := [.lit (.bool false)], args := [d] }
  | _ => none }
def FnExactAreTermRowsWrongFalsely : Prop := fnExactAreTermRowsRow.holds Try.pinned (OpenSpec.ofChange fnExactAreTermRowsWrong)

/-- 'laws.FnExactTermLine': WHATEVER THE INPUT: true; the input reads as it did. -/
def fnExactTermLineSpec : ChangeSpec := { name := "fnExactTermLine", fn := fun _ => fun
  | [d] => { results := [.lit (.bool true)], args := [d] }
  | _ => none }
def fnExactTermLineRow : OpenClaim := { program := "ytkgeiemelhkkcaa", sum := "f1f89a71d56c15cc9c30ac95051265d592efdd829cfb094ac432c7d2ab77bfcb", func := "loop.example/g01006/laws.FnExactTermLine", spec := "fnExactTermLine", recurses := true, apart := false }
def FnExactTermLineSaid : Prop := fnExactTermLineRow.holds Try.pinned (OpenSpec.ofChange fnExactTermLineSpec)

/-- ITS FALSE NEIGHBOUR: 'it returns false'. Refute it at one input. -/
def fnExactTermLineWrong : ChangeSpec := { name := "fnExactTermLine", fn := fun _ => fun
  | [d] => { results := [.lit (.bool false)], args := [d] }
  | _ => none }
def FnExactTermLineWrongFalsely : Prop := fnExactTermLineRow.holds Try.pinned (OpenSpec.ofChange fnExactTermLineWrong)

/-- 'laws.FnExactBestTerm': WHATEVER THE INPUT: true; the input reads as it did. -/
def fnExactBestTermSpec : ChangeSpec := { name := "fnExactBestTerm", fn := fun _ => fun
  | [d] => { results := [.lit (.bool true)], args := [d] }
  | _ => none }
def fnExactBestTermRow : OpenClaim := { program := "ytkgeiemelhkkcaa", sum := "f1f89a71d56c15cc9c30ac95051265d592efdd829cfb094ac432c7d2ab77bfcb", func := "loop.example/g01006/laws.FnExactBestTerm", spec := "fnExactBestTerm", apart := false }
def FnExactBestTermSaid : Prop := fnExactBestTermRow.holds Try.pinned (OpenSpec.ofChange fnExactBestTermSpec)

/-- ITS FALSE NEIGHBOUR: 'it returns false'. Refute it at one input. -/
def fnExactBestTermWrong : ChangeSpec := { name := "fnExactBestTerm", fn := fun _ => fun
  | [d] => { results := [.lit (.bool false)], args := [d] }
  | _ => none }
def FnExactBestTermWrongFalsely : Prop := fnExactBestTermRow.holds Try.pinned (OpenSpec.ofChange fnExactBestTermWrong)

/-- 'laws.FnExactLongestRise': WHATEVER THE INPUT: true; the input reads as it did. -/
def fnExactLongestRiseSpec : ChangeSpec := { name := "fnExactLongestRise", fn := fun _ => fun
  | [d] => { results := [.lit (.bool true)], args := [d] }
  | _ => none }
def fnExactLongestRiseRow : OpenClaim := { program := "ytkgeiemelhkkcaa", sum := "f1f89a71d56c15cc9c30ac95051265d592efdd829cfb094ac432c7d2ab77bfcb", func := "loop.example/g01006/laws.FnExactLongestRise", spec := "fnExactLongestRise", apart := false }
def FnExactLongestRiseSaid : Prop := fnExactLongestRiseRow.holds Try.pinned (OpenSpec.ofChange fnExactLongestRiseSpec)

/-- ITS FALSE NEIGHBOUR: 'it returns false'. Refute it at one input. -/
def fnExactLongestRiseWrong : ChangeSpec := { name := "fnExactLongestRise", fn := fun _ => fun
  | [d] => { results := [.lit (.bool false)], args := [d] }
  | _ => none }
def FnExactLongestRiseWrongFalsely : Prop := fnExactLongestRiseRow.holds Try.pinned (OpenSpec.ofChange fnExactLongestRiseWrong)

/-- 'laws.FnExactPassShare': WHATEVER THE INPUT: true; the input reads as it did. -/
def fnExactPassShareSpec : ChangeSpec := { name := "fnExactPassShare", fn := fun _ => fun
  | [d] => { results := [.lit (.bool true)], args := [d] }
  | _ => none }
def fnExactPassShareRow : OpenClaim := { program := "ytkgeiemelhkkcaa", sum := "f1f89a71d56c15cc9c30ac95051265d592efdd829cfb094ac432c7d2ab77bfcb", func := "loop.example/g01006/laws.FnExactPassShare", spec := "fnExactPassShare", apart := false }
def FnExactPassShareSaid : Prop := fnExactPassShareRow.holds Try.pinned (OpenSpec.ofChange fnExactPassShareSpec)

/-- ITS FALSE NEIGHBOUR: 'it returns false'. Refute it at one input. -/
def fnExactPassShareWrong : ChangeSpec := { name := "fnExactPassShare", fn := fun _ => fun
  | [d] => { results := [.lit (.bool false)], args := [d] }
  | _ => none }
def FnExactPassShareWrongFalsely : Prop := fnExactPassShareRow.holds Try.pinned (OpenSpec.ofChange fnExactPassShareWrong)

/-- 'laws.FnExactGrowth': WHATEVER THE INPUT: true; the input reads as it did. -/
def fnExactGrowthSpec : ChangeSpec := { name := "fnExactGrowth", fn := fun _ => fun
  | [d] => { results := [.lit (.bool true)], args := [d] }
  | _ => none }
def fnExactGrowthRow : OpenClaim := { program := "ytkgeiemelhkkcaa", sum := "f1f89a71d56c15cc9c30ac95051265d592efdd829cfb094ac432c7d2ab77bfcb", func := "loop.example/g01006/laws.FnExactGrowth", spec := "fnExactGrowth", apart := false }
def FnExactGrowthSaid : Prop := fnExactGrowthRow.holds Try.pinned (OpenSpec.ofChange fnExactGrowthSpec)

/-- ITS FALSE NEIGHBOUR: 'it returns false'. Refute it at one input. -/
def fnExactGrowthWrong : ChangeSpec := { name := "fnExactGrowth", fn := fun _ => fun
  | [d] => { results := [.lit (.bool false)], args := [d] }
  | _ => none }
def FnExactGrowthWrongFalsely : Prop := fnExactGrowthRow.holds Try.pinned (OpenSpec.ofChange fnExactGrowthWrong)

/-- 'laws.FnExactHonorTerms': WHATEVER THE INPUT: true; the input reads as it did. -/
def fnExactHonorTermsSpec : ChangeSpec := { name := "fnExactHonorTerms", fn := fun _ => fun
  | [d1, d2] => { results := [.lit (.bool true)], args := [d1, d2] }
  | _ => none }
def fnExactHonorTermsRow : OpenClaim := { program := "ytkgeiemelhkkcaa", sum := "f1f89a71d56c15cc9c30ac95051265d592efdd829cfb094ac432c7d2ab77bfcb", func := "loop.example/g01006/laws.FnExactHonorTerms", spec := "fnExactHonorTerms", apart := false }
def FnExactHonorTermsSaid : Prop := fnExactHonorTermsRow.holds Try.pinned (OpenSpec.ofChange fnExactHonorTermsSpec)

/-- ITS FALSE NEIGHBOUR: 'it returns false'. Refute it at one input. -/
def fnExactHonorTermsWrong : ChangeSpec := { name := "fnExactHonorTerms", fn := fun _ => fun
  | [d1, d2] => { results := [.lit (.bool false)], args := [d1, d2] }
  | _ => none }
def FnExactHonorTermsWrongFalsely : Prop := fnExactHonorTermsRow.holds Try.pinned (OpenSpec.ofChange fnExactHonorTermsWrong)

/-- 'laws.FnExactJoinSchools': WHATEVER THE INPUT: true; the input reads as it did. -/
def fnExactJoinSchoolsSpec : ChangeSpec := { name := "fnExactJoinSchools", fn := fun _ => fun
  | [d1, d2] => { results := [.lit (.bool true)], args := [d1, d2] }
  | _ => none }
def fnExactJoinSchoolsRow : OpenClaim := { program := "ytkgeiemelhkkcaa", sum := "f1f89a71d56c15cc9c30ac95051265d592efdd829cfb094ac432c7d2ab77bfcb", func := "loop.example/g01006/laws.FnExactJoinSchools", spec := "fnExactJoinSchools", apart := false }
def FnExactJoinSchoolsSaid : Prop := fnExactJoinSchoolsRow.holds Try.pinned (OpenSpec.ofChange fnExactJoinSchoolsSpec)

/-- ITS FALSE NEIGHBOUR: 'it returns false'. Refute it at one input. -/
def fnExactJoinSchoolsWrong : ChangeSpec := { name := "fnExactJoinSchools", fn := fun _ => fun
  | [d1, d2] => { results := [.lit (.bool false)], args := [d1, d2] }
  | _ => none }
def FnExactJoinSchoolsWrongFalsely : Prop := fnExactJoinSchoolsRow.holds Try.pinned (OpenSpec.ofChange fnExactJoinSchoolsWrong)

/-- 'laws.FnExactTermReport': WHATEVER THE INPUT: true; the input reads as it did. -/
def fnExactTermReportSpec : ChangeSpec := { name := "fnExactTermReport", fn := fun _ => fun
  | [d] => { results := [.lit (.bool true)], args := [d] }
  | _ => none }
def fnExactTermReportRow : OpenClaim := { program := "ytkgeiemelhkkcaa", sum := "f1f89a71d56c15cc9c30ac95051265d592efdd829cfb094ac432c7d2ab77bfcb", func := "loop.example/g01006/laws.FnExactTermReport", spec := "fnExactTermReport", recurses := true, apart := false }
def FnExactTermReportSaid : Prop := fnExactTermReportRow.holds Try.pinned (OpenSpec.ofChange fnExactTermReportSpec)

/-- ITS FALSE NEIGHBOUR: 'it returns false'. Refute it at one input. -/
def fnExactTermReportWrong : ChangeSpec := { name := "fnExactTermReport", fn := fun _ => fun
  | [d] => { results := [.lit (.bool false)], args := [d] }
  | _ => none }
def FnExactTermReportWrongFalsely : Prop := fnExactTermReportRow.holds Try.pinned (OpenSpec.ofChange fnExactTermReportWrong)

/-- 'laws.FnHonors': WHATEVER THE INPUT: true; the input reads as it did. -/
def fnHonorsSpec : ChangeSpec := { name := "fnHonors", fn := fun _ => fun
  | [d] => { results := [.lit (.bool true)], args := [d] }
  | _ => none }
def fnHonorsRow : OpenClaim := { program := "ytkgeiemelhkkcaa", sum := "f1f89a71d56c15cc9c30ac95051265d592efdd829cfb094ac432c7d2ab77bfcb", func := "loop.example/g01006/laws.FnHonors", spec := "fnHonors", apart := false }
def FnHonorsSaid : Prop := fnHonorsRow.holds Try.pinned (OpenSpec.ofChange fnHonorsSpec)

/-- ITS FALSE NEIGHBOUR: 'it returns false'. Refute it at one input. -/
def fnHonorsWrong : ChangeSpec := { name := "fnHonors", fn := fun _ => fun
  | [d] => { results := [.lit (.bool false)], args := [d] }
  | _ => none }
def FnHonorsWrongFalsely : Prop := fnHonorsRow.holds Try.pinned (OpenSpec.ofChange fnHonorsWrong)

/-- 'laws.FnTerms': WHATEVER THE INPUT: true; the input reads as it did. -/
def fnTermsSpec : ChangeSpec := { name := "fnTerms", fn := fun _ => fun
  | [d] => { results := [.lit (.bool true)], args := [d] }
  | _ => none }
def fnTermsRow : OpenClaim := { program := "ytkgeiemelhkkcaa", sum := "f1f89a71d56c15cc9c30ac95051265d592efdd829cfb094ac432c7d2ab77bfcb", func := "loop.example/g01006/laws.FnTerms", spec := "fnTerms", recurses := true, apart := false }
def FnTermsSaid : Prop := fnTermsRow.holds Try.pinned (OpenSpec.ofChange fnTermsSpec)

/-- ITS FALSE NEIGHBOUR: 'it returns false'. Refute it at one input. -/
def fnTermsWrong : ChangeSpec := { name := "fnTerms", fn := fun _ => fun
  | [d] => { results := [.lit (.bool false)], args := [d] }
  | _ => none }
def FnTermsWrongFalsely : Prop := fnTermsRow.holds Try.pinned (OpenSpec.ofChange fnTermsWrong)

/- THE SECOND FORM. 'bulk': how many values and letters a reading holds, each counted each time it is reached (what is shared counts as often as it is met; a slice's spare places count too). A statement '..UptoSaid' is the law's where the arguments, and the package variables that the reading takes, are together of bulk at most 1048576: NARROWER than '..Said'. Prove '..Said' where nothing that the law and all that it calls make is longer than what came in: it says more and counts as full. Else prove '..UptoSaid'. A law counts once. -/
mutual
def uptoBulk {H : Type} : DataW H → Nat
  | .lit (.string bytes) => bytes.length + 1
  | .lit _ => 1
  | .nil => 1
  | .ptr d => uptoBulk d + 1
  | .slice elems spare => uptoBulkAll elems + uptoBulkAll spare + 1
  | .agg parts => uptoBulkAll parts + 1
  | .iface _ d => uptoBulk d + 1
  | .map entries => uptoBulkEntries entries + 1
  | .held _ => 1
def uptoBulkAll {H : Type} : List (DataW H) → Nat
  | [] => 0
  | d :: r => uptoBulk d + uptoBulkAll r
def uptoBulkEntries {H : Type} : List (Lit × DataW H) → Nat
  | [] => 0
  | x :: r => uptoBulkEntry x + uptoBulkEntries r
def uptoBulkEntry {H : Type} : Lit × DataW H → Nat
  | (.string bytes, d) => bytes.length + uptoBulk d + 1
  | (_, d) => uptoBulk d + 1
 end
def uptoSmall : (H : Type) → List (DataW H) → Bool := fun _ ds => decide (uptoBulkAll ds ≤ 1048576)
def OpenSpec.upto (s : _root_.Go.ChangeSpec) : _root_.Go.OpenSpec := { _root_.Go.OpenSpec.ofChange s with cond := some uptoSmall }

/-- 'laws.FnExactIsTermRow', WHERE WHAT IT READS IS OF BULK AT MOST 1048576: true; the input reads as it did. -/
def fnExactIsTermRowUptoRow : OpenClaim := { program := "ytkgeiemelhkkcaa", sum := "f1f89a71d56c15cc9c30ac95051265d592efdd829cfb094ac432c7d2ab77bfcb", func := "loop.example/g01006/laws.FnExactIsTermRow", spec := "fnExactIsTermRow", apart := false, narrowed := true }
def FnExactIsTermRowUptoSaid : Prop := fnExactIsTermRowUptoRow.holds Try.pinned (OpenSpec.upto fnExactIsTermRowSpec)

/-- 'laws.FnExactAreTermRows', WHERE WHAT IT READS IS OF BULK AT MOST 1048576: true; the input reads as it did. -/
def fnExactAreTermRowsUptoRow : OpenClaim := { program := "ytkgeiemelhkkcaa", sum := "f1f89a71d56c15cc9c30ac95051265d592efdd829cfb094ac432c7d2ab77bfcb", func := "loop.example/g01006/laws.FnExactAreTermRows", spec := "fnExactAreTermRows", apart := false, narrowed := true }
def FnExactAreTermRowsUptoSaid : Prop := fnExactAreTermRowsUptoRow.holds Try.pinned (OpenSpec.upto fnExactAreTermRowsSpec)

/-- 'laws.FnExactTermLine', WHERE WHAT IT READS IS OF BULK AT MOST 1048576: true; the input reads as it did. -/
def fnExactTermLineUptoRow : OpenClaim := { program := "ytkgeiemelhkkcaa", sum := "f1f89a71d56c15cc9c30ac95051265d592efdd829cfb094ac432c7d2ab77bfcb", func := "loop.example/g01006/laws.FnExactTermLine", spec := "fnExactTermLine", recurses := true, apart := false, narrowed := true }
def FnExactTermLineUptoSaid : Prop := fnExactTermLineUptoRow.holds Try.pinned (OpenSpec.upto fnExactTermLineSpec)

/-- 'laws.FnExactBestTerm', WHERE WHAT IT READS IS OF BULK AT MOST 1048576: true; the input reads as it did. -/
def fnExactBestTermUptoRow : OpenClaim := { program := "ytkgeiemelhkkcaa", sum := "f1f89a71d56c15cc9c30ac95051265d592efdd829cfb094ac432c7d2ab77bfcb", func := "loop.example/g01006/laws.FnExactBestTerm", spec := "fnExactBestTerm", apart := false, narrowed := true }
def FnExactBestTermUptoSaid : Prop := fnExactBestTermUptoRow.holds Try.pinned (OpenSpec.upto fnExactBestTermSpec)

/-- 'laws.FnExactLongestRise', WHERE WHAT IT READS IS OF BULK AT MOST 1048576: true; the input reads as it did. -/
def fnExactLongestRiseUptoRow : OpenClaim := { program := "ytkgeiemelhkkcaa", sum := "f1f89a71d56c15cc9c30ac95051265d592efdd829cfb094ac432c7d2ab77bfcb", func := "loop.example/g01006/laws.FnExactLongestRise", spec := "fnExactLongestRise", apart := false, narrowed := true }
def FnExactLongestRiseUptoSaid : Prop := fnExactLongestRiseUptoRow.holds Try.pinned (OpenSpec.upto fnExactLongestRiseSpec)

/-- 'laws.FnExactPassShare', WHERE WHAT IT READS IS OF BULK AT MOST 1048576: true; the input reads as it did. -/
def fnExactPassShareUptoRow : OpenClaim := { program := "ytkgeiemelhkkcaa", sum := "f1f89a71d56c15cc9c30ac95051265d592efdd829cfb094ac432c7d2ab77bfcb", func := "loop.example/g01006/laws.FnExactPassShare", spec := "fnExactPassShare", apart := false, narrowed := true }
def FnExactPassShareUptoSaid : Prop := fnExactPassShareUptoRow.holds Try.pinned (OpenSpec.upto fnExactPassShareSpec)

/-- 'laws.FnExactGrowth', WHERE WHAT IT READS IS OF BULK AT MOST 1048576: true; the input reads as it did. -/
def fnExactGrowthUptoRow : OpenClaim := { program := "ytkgeiemelhkkcaa", sum := "f1f89a71d56c15cc9c30ac95051265d592efdd829cfb094ac432c7d2ab77bfcb", func := "loop.example/g01006/laws.FnExactGrowth", spec := "fnExactGrowth", apart := false, narrowed := true }
def FnExactGrowthUptoSaid : Prop := fnExactGrowthUptoRow.holds Try.pinned (OpenSpec.upto fnExactGrowthSpec)

/-- 'laws.FnExactHonorTerms', WHERE WHAT IT READS IS OF BULK AT MOST 1048576: true; the input reads as it did. -/
def fnExactHonorTermsUptoRow : OpenClaim := { program := "ytkgeiemelhkkcaa", sum := "f1f89a71d56c15cc9c30ac95051265d592efdd829cfb094ac432c7d2ab77bfcb", func := "loop.example/g01006/laws.FnExactHonorTerms", spec := "fnExactHonorTerms", apart := false, narrowed := true }
def FnExactHonorTermsUptoSaid : Prop := fnExactHonorTermsUptoRow.holds Try.pinned (OpenSpec.upto fnExactHonorTermsSpec)

/-- 'laws.FnExactJoinSchools', WHERE WHAT IT READS IS OF BULK AT MOST 1048576: true; the input reads as it did. -/
def fnExactJoinSchoolsUptoRow : OpenClaim := { program := "ytkgeiemelhkkcaa", sum := "f1f89a71d56c15cc9c30ac95051265d592efdd829cfb094ac432c7d2ab77bfcb", func := "loop.example/g01006/laws.FnExactJoinSchools", spec := "fnExactJoinSchools", apart := false, narrowed := true }
def FnExactJoinSchoolsUptoSaid : Prop := fnExactJoinSchoolsUptoRow.holds Try.pinned (OpenSpec.upto fnExactJoinSchoolsSpec)

/-- 'laws.FnExactTermReport', WHERE WHAT IT READS IS OF BULK AT MOST 1048576: true; the input reads as it did. -/
def fnExactTermReportUptoRow : OpenClaim := { program := "ytkgeiemelhkkcaa", sum := "f1f89a71d56c15cc9c30ac95051265d592efdd829cfb094ac432c7d2ab77bfcb", func := "loop.example/g01006/laws.FnExactTermReport", spec := "fnExactTermReport", recurses := true, apart := false, narrowed := true }
def FnExactTermReportUptoSaid : Prop := fnExactTermReportUptoRow.holds Try.pinned (OpenSpec.upto fnExactTermReportSpec)

/-- 'laws.FnHonors', WHERE WHAT IT READS IS OF BULK AT MOST 1048576: true; the input reads as it did. -/
def fnHonorsUptoRow : OpenClaim := { program := "ytkgeiemelhkkcaa", sum := "f1f89a71d56c15cc9c30ac95051265d592efdd829cfb094ac432c7d2ab77bfcb", func := "loop.example/g01006/laws.FnHonors", spec := "fnHonors", apart := false, narrowed := true }
def FnHonorsUptoSaid : Prop := fnHonorsUptoRow.holds Try.pinned (OpenSpec.upto fnHonorsSpec)

/-- 'laws.FnTerms', WHERE WHAT IT READS IS OF BULK AT MOST 1048576: true; the input reads as it did. -/
def fnTermsUptoRow : OpenClaim := { program := "ytkgeiemelhkkcaa", sum := "f1f89a71d56c15cc9c30ac95051265d592efdd829cfb094ac432c7d2ab77bfcb", func := "loop.example/g01006/laws.FnTerms", spec := "fnTerms", recurses := true, apart := false, narrowed := true }
def FnTermsUptoSaid : Prop := fnTermsUptoRow.holds Try.pinned (OpenSpec.upto fnTermsSpec)

end Rows
end Go.Proofs.Ytkgeiemelhkkcaa
