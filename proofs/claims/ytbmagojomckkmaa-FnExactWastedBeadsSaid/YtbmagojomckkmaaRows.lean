/-
  No cell of these rows narrows 'for every input' (looked for: loops, veiled, ifaces, maps, wideKeys, modest, calm, conditions, laid).
  DERIVED. THE GIVEN ROWS OF THIS SEAT. 12 by the template 'for every input the law returns true; each argument reads behind the call as it read before'; 0 by the template 'total and deterministic' (their statements: YtbmagojomckkmaaTotals.lean).
  GIVEN WITH THE SEED: the statements are not yours to turn. If you find one false, say at which input.
  Laid BY PROGRAM, IN A SANDBOX (cutbox-rows.mjs): the forced cells as the released guide's own fill.sh prints them over the translation 00b96addb2cee4f9… (all of the seat's roots in one cut). By AI agents, Wed Nov 11 2026. No macro, syntax, notation, axiom, sorry.
-/
import Derived.Test.YtbmagojomckkmaaChecked
import GoSem.Claim
import GoSem.ClaimJoined
import GoSem.ClaimMapViews
import Derived.JoinedTies
import Derived.KernelRfl
namespace Go.Proofs.Ytbmagojomckkmaa
/- THE CELL 'sum', in the pinned program and in every row, IS THE sha256 OF THE DUMP (.gsa) THAT YtbmagojomckkmaaProg.lean LOADS. Nothing in Lean hashes anything: it is a label: what it is worth is what the hold of that sum in a sandbox is worth. -/
noncomputable def Try.pinned : Pinned := { name := "ytbmagojomckkmaa", sum := "00b96addb2cee4f939e084b0d782d31165b4901d8306f01a2aa77df21bd2fb7d", checked := Try.checked }
namespace Rows
def none {H : Type} : Left H := { results := [], args := [] }

/-- 'laws.FnExactAddDigitMoves': WHATEVER THE INPUT: true; the input reads as it did. -/
def fnExactAddDigitMovesSpec : ChangeSpec := { name := "fnExactAddDigitMoves", fn := fun _ => fun
  | [d1, d2, d3] => { results := [.lit (.bool true)], args := [d1, d2, d3] }
  | _ => none }
def fnExactAddDigitMovesRow : OpenClaim := { program := "ytbmagojomckkmaa", sum := "00b96addb2cee4f939e084b0d782d31165b4901d8306f01a2aa77df21bd2fb7d", func := "loop.example/g01006/laws.FnExactAddDigitMoves", spec := "fnExactAddDigitMoves", apart := false }
def FnExactAddDigitMovesSaid : Prop := fnExactAddDigitMovesRow.holds Try.pinned (OpenSpec.ofChange fnExactAddDigitMovesSpec)

/-- ITS FALSE NEIGHBOUR: 'it returns false'. Refute it at one input. -/
def fnExactAddDigitMovesWrong : ChangeSpec := { name := "fnExactAddDigitMoves", fn := fun _ => fun
  | [d1, d2, d3] => { results := [.lit (.bool false)], args := [d1, d2, d3] }
  | _ => none }
def FnExactAddDigitMovesWrongFalsely : Prop := fnExactAddDigitMovesRow.holds Try.pinned (OpenSpec.ofChange fnExactAddDigitMovesWrong)

/-- 'laws.FnExactTakeDigitMoves': WHATEVER THE INPUT: true; the input reads as it did. -/
def fnExactTakeDigitMovesSpec : ChangeSpec := { name := "fnExactTakeDigitMoves", fn := fun _ => fun
  | [d1, d2, d3] => { results := [.lit (.bool true)], args := [d1, d2, d3] }
  | _ => none }
def fnExactTakeDigitMovesRow : OpenClaim := { program := "ytbmagojomckkmaa", sum := "00b96addb2cee4f939e084b0d782d31165b4901d8306f01a2aa77df21bd2fb7d", func := "loop.example/g01006/laws.FnExactTakeDigitMoves", spec := "fnExactTakeDigitMoves", apart := false }
def FnExactTakeDigitMovesSaid : Prop := fnExactTakeDigitMovesRow.holds Try.pinned (OpenSpec.ofChange fnExactTakeDigitMovesSpec)

/-- ITS FALSE NEIGHBOUR: 'it returns false'. Refute it at one input. -/
def fnExactTakeDigitMovesWrong : ChangeSpec := { name := "fnExactTakeDigitMoves", fn := fun _ => fun
  | [d1, d2, d3] => { results := [.lit (.bool false)], args := [d1, d2, d3] }
  | _ => none }
def FnExactTakeDigitMovesWrongFalsely : Prop := fnExactTakeDigitMovesRow.holds Try.pinned (OpenSpec.ofChange fnExactTakeDigitMovesWrong)

/-- 'laws.FnExactKindsUsed': WHATEVER THE INPUT: true; the input reads as it did. -/
def fnExactKindsUsedSpec : ChangeSpec := { name := "fnExactKindsUsed", fn := fun _ => fun
  | [d1, d2] => { results := [.lit (.bool true)], args := [d1, d2] }
  | _ => none }
def fnExactKindsUsedRow : OpenClaim := { program := "ytbmagojomckkmaa", sum := "00b96addb2cee4f939e084b0d782d31165b4901d8306f01a2aa77df21bd2fb7d", func := "loop.example/g01006/laws.FnExactKindsUsed", spec := "fnExactKindsUsed", apart := false }
def FnExactKindsUsedSaid : Prop := fnExactKindsUsedRow.holds Try.pinned (OpenSpec.ofChange fnExactKindsUsedSpec)

/-- ITS FALSE NEIGHBOUR: 'it returns false'. Refute it at one input. -/
def fnExactKindsUsedWrong : ChangeSpec := { name := "fnExactKindsUsed", fn := fun _ => fun
  | [d1, d2] => { results := [.lit (.bool false)], args := [d1, d2] }
  | _ => none }
def FnExactKindsUsedWrongFalsely : Prop := fnExactKindsUsedRow.holds Try.pinned (OpenSpec.ofChange fnExactKindsUsedWrong)

/-- 'laws.FnExactTakeNumberMoves': WHATEVER THE INPUT: true; the input reads as it did. -/
def fnExactTakeNumberMovesSpec : ChangeSpec := { name := "fnExactTakeNumberMoves", fn := fun _ => fun
  | [d1, d2] => { results := [.lit (.bool true)], args := [d1, d2] }
  | _ => none }
def fnExactTakeNumberMovesRow : OpenClaim := { program := "ytbmagojomckkmaa", sum := "00b96addb2cee4f939e084b0d782d31165b4901d8306f01a2aa77df21bd2fb7d", func := "loop.example/g01006/laws.FnExactTakeNumberMoves", spec := "fnExactTakeNumberMoves", apart := false }
def FnExactTakeNumberMovesSaid : Prop := fnExactTakeNumberMovesRow.holds Try.pinned (OpenSpec.ofChange fnExactTakeNumberMovesSpec)

/-- ITS FALSE NEIGHBOUR: 'it returns false'. Refute it at one input. -/
def fnExactTakeNumberMovesWrong : ChangeSpec := { name := "fnExactTakeNumberMoves", fn := fun _ => fun
  | [d1, d2] => { results := [.lit (.bool false)], args := [d1, d2] }
  | _ => none }
def FnExactTakeNumberMovesWrongFalsely : Prop := fnExactTakeNumberMovesRow.holds Try.pinned (OpenSpec.ofChange fnExactTakeNumberMovesWrong)

/-- 'laws.FnExactAddNumberMoves': WHATEVER THE INPUT: true; the input reads as it did. -/
def fnExactAddNumberMovesSpec : ChangeSpec := { name := "fnExactAddNumberMoves", fn := fun _ => fun
  | [d1, d2] => { results := [.lit (.bool true)], args := [d1, d2] }
  | _ => none }
def fnExactAddNumberMovesRow : OpenClaim := { program := "ytbmagojomckkmaa", sum := "00b96addb2cee4f939e084b0d782d31165b4901d8306f01a2aa77df21bd2fb7d", func := "loop.example/g01006/laws.FnExactAddNumberMoves", spec := "fnExactAddNumberMoves", apart := false }
def FnExactAddNumberMovesSaid : Prop := fnExactAddNumberMovesRow.holds Try.pinned (OpenSpec.ofChange fnExactAddNumberMovesSpec)

/-- ITS FALSE NEIGHBOUR: 'it returns false'. Refute it at one input. -/
def fnExactAddNumberMovesWrong : ChangeSpec := { name := "fnExactAddNumberMoves", fn := fun _ => fun
  | [d1, d2] => { results := [.lit (.bool false)], args := [d1, d2] }
  | _ => none }
def FnExactAddNumberMovesWrongFalsely : Prop := fnExactAddNumberMovesRow.holds Try.pinned (OpenSpec.ofChange fnExactAddNumberMovesWrong)

/-- 'laws.FnExactWastedBeads': WHATEVER THE INPUT: true; the input reads as it did. -/
def fnExactWastedBeadsSpec : ChangeSpec := { name := "fnExactWastedBeads", fn := fun _ => fun
  | [d1, d2] => { results := [.lit (.bool true)], args := [d1, d2] }
  | _ => none }
def fnExactWastedBeadsRow : OpenClaim := { program := "ytbmagojomckkmaa", sum := "00b96addb2cee4f939e084b0d782d31165b4901d8306f01a2aa77df21bd2fb7d", func := "loop.example/g01006/laws.FnExactWastedBeads", spec := "fnExactWastedBeads", apart := false }
def FnExactWastedBeadsSaid : Prop := fnExactWastedBeadsRow.holds Try.pinned (OpenSpec.ofChange fnExactWastedBeadsSpec)

/-- ITS FALSE NEIGHBOUR: 'it returns false'. Refute it at one input. -/
def fnExactWastedBeadsWrong : ChangeSpec := { name := "fnExactWastedBeads", fn := fun _ => fun
  | [d1, d2] => { results := [.lit (.bool false)], args := [d1, d2] }
  | _ => none }
def FnExactWastedBeadsWrongFalsely : Prop := fnExactWastedBeadsRow.holds Try.pinned (OpenSpec.ofChange fnExactWastedBeadsWrong)

/-- 'laws.FnExactSavedMoves': WHATEVER THE INPUT: true; the input reads as it did. -/
def fnExactSavedMovesSpec : ChangeSpec := { name := "fnExactSavedMoves", fn := fun _ => fun
  | [d1, d2] => { results := [.lit (.bool true)], args := [d1, d2] }
  | _ => none }
def fnExactSavedMovesRow : OpenClaim := { program := "ytbmagojomckkmaa", sum := "00b96addb2cee4f939e084b0d782d31165b4901d8306f01a2aa77df21bd2fb7d", func := "loop.example/g01006/laws.FnExactSavedMoves", spec := "fnExactSavedMoves", unfollowed := true, recurses := true, apart := false }
def FnExactSavedMovesSaid : Prop := fnExactSavedMovesRow.holds Try.pinned (OpenSpec.ofChange fnExactSavedMovesSpec)

/-- ITS FALSE NEIGHBOUR: 'it returns false'. Refute it at one input. -/
def fnExactSavedMovesWrong : ChangeSpec := { name := "fnExactSavedMoves", fn := fun _ => fun
  | [d1, d2] => { results := [.lit (.bool false)], args := [d1, d2] }
  | _ => none }
def FnExactSavedMovesWrongFalsely : Prop := fnExactSavedMovesRow.holds Try.pinned (OpenSpec.ofChange fnExactSavedMovesWrong)

/-- 'laws.FnExactProductOn': WHATEVER THE INPUT: true; the input reads as it did. -/
def fnExactProductOnSpec : ChangeSpec := { name := "fnExactProductOn", fn := fun _ => fun
  | [d1, d2, d3] => { results := [.lit (.bool true)], args := [d1, d2, d3] }
  | _ => none }
def fnExactProductOnRow : OpenClaim := { program := "ytbmagojomckkmaa", sum := "00b96addb2cee4f939e084b0d782d31165b4901d8306f01a2aa77df21bd2fb7d", func := "loop.example/g01006/laws.FnExactProductOn", spec := "fnExactProductOn", apart := false }
def FnExactProductOnSaid : Prop := fnExactProductOnRow.holds Try.pinned (OpenSpec.ofChange fnExactProductOnSpec)

/-- ITS FALSE NEIGHBOUR: 'it returns false'. Refute it at one input. -/
def fnExactProductOnWrong : ChangeSpec := { name := "fnExactProductOn", fn := fun _ => fun
  | [d1, d2, d3] => { results := [.lit (.bool false)], args := [d1, d2, d3] }
  | _ => none }
def FnExactProductOnWrongFalsely : Prop := fnExactProductOnRow.holds Try.pinned (OpenSpec.ofChange fnExactProductOnWrong)

/-- 'laws.FnFrames': WHATEVER THE INPUT: true; the input reads as it did. -/
def fnFramesSpec : ChangeSpec := { name := "fnFrames", fn := fun _ => fun
  | [d] => { results := [.lit (.bool true)], args := [d] }
  | _ => none }
def fnFramesRow : OpenClaim := { program := "ytbmagojomckkmaa", sum := "00b96addb2cee4f939e084b0d782d31165b4901d8306f01a2aa77df21bd2fb7d", func := "loop.example/g01006/laws.FnFrames", spec := "fnFrames", recurses := true, apart := false }
def FnFramesSaid : Prop := fnFramesRow.holds Try.pinned (OpenSpec.ofChange fnFramesSpec)

/-- ITS FALSE NEIGHBOUR: 'it returns false'. Refute it at one input. -/
def fnFramesWrong : ChangeSpec := { name := "fnFrames", fn := fun _ => fun
  | [d] => { results := [.lit (.bool false)], args := [d] }
  | _ => none }
def FnFramesWrongFalsely : Prop := fnFramesRow.holds Try.pinned (OpenSpec.ofChange fnFramesWrong)

/-- 'laws.FnMoves': WHATEVER THE INPUT: true; the input reads as it did. -/
def fnMovesSpec : ChangeSpec := { name := "fnMoves", fn := fun _ => fun
  | [d] => { results := [.lit (.bool true)], args := [d] }
  | _ => none }
def fnMovesRow : OpenClaim := { program := "ytbmagojomckkmaa", sum := "00b96addb2cee4f939e084b0d782d31165b4901d8306f01a2aa77df21bd2fb7d", func := "loop.example/g01006/laws.FnMoves", spec := "fnMoves", apart := false }
def FnMovesSaid : Prop := fnMovesRow.holds Try.pinned (OpenSpec.ofChange fnMovesSpec)

/-- ITS FALSE NEIGHBOUR: 'it returns false'. Refute it at one input. -/
def fnMovesWrong : ChangeSpec := { name := "fnMoves", fn := fun _ => fun
  | [d] => { results := [.lit (.bool false)], args := [d] }
  | _ => none }
def FnMovesWrongFalsely : Prop := fnMovesRow.holds Try.pinned (OpenSpec.ofChange fnMovesWrong)

/-- 'laws.FnAdding': WHATEVER THE INPUT: true; the input reads as it did. -/
def fnAddingSpec : ChangeSpec := { name := "fnAdding", fn := fun _ => fun
  | [d] => { results := [.lit (.bool true)], args := [d] }
  | _ => none }
def fnAddingRow : OpenClaim := { program := "ytbmagojomckkmaa", sum := "00b96addb2cee4f939e084b0d782d31165b4901d8306f01a2aa77df21bd2fb7d", func := "loop.example/g01006/laws.FnAdding", spec := "fnAdding", apart := false }
def FnAddingSaid : Prop := fnAddingRow.holds Try.pinned (OpenSpec.ofChange fnAddingSpec)

/-- ITS FALSE NEIGHBOUR: 'it returns false'. Refute it at one input. -/
def fnAddingWrong : ChangeSpec := { name := "fnAdding", fn := fun _ => fun
  | [d] => { results := [.lit (.bool false)], args := [d] }
  | _ => none }
def FnAddingWrongFalsely : Prop := fnAddingRow.holds Try.pinned (OpenSpec.ofChange fnAddingWrong)

/-- 'laws.FnTaking': WHATEVER THE INPUT: true; the input reads as it did. -/
def fnTakingSpec : ChangeSpec := { name := "fnTaking", fn := fun _ => fun
  | [d] => { results := [.lit (.bool true)], args := [d] }
  | _ => none }
def fnTakingRow : OpenClaim := { program := "ytbmagojomckkmaa", sum := "00b96addb2cee4f939e084b0d782d31165b4901d8306f01a2aa77df21bd2fb7d", func := "loop.example/g01006/laws.FnTaking", spec := "fnTaking", apart := false }
def FnTakingSaid : Prop := fnTakingRow.holds Try.pinned (OpenSpec.ofChange fnTakingSpec)

/-- ITS FALSE NEIGHBOUR: 'it returns false'. Refute it at one input. -/
def fnTakingWrong : ChangeSpec := { name := "fnTaking", fn := fun _ => fun
  | [d] => { results := [.lit (.bool false)], args := [d] }
  | _ => none }
def FnTakingWrongFalsely : Prop := fnTakingRow.holds Try.pinned (OpenSpec.ofChange fnTakingWrong)

/- THE SECOND FORM. 'bulk': how many values and letters a reading holds, each counted each time it is reached (what is shared counts as often as it is met; a slice's spare places count too). A statement '..UptoSaid' is the law's where the arguments, and the package variables that the reading takes, are together of bulk at most 1048576: NARROWER than '..Said'. Prove '..Said' where nothing that the law and all that it calls make is longer than what came in: it says more and counts as full. Else prove '..UptoSaid'. A law counts once. -/
mutual
def uptoBulk {H : Type} : DataW H → Nat
  | .lit (.string bytes) => bytes.length + 1
  | .lit _ => 1
  | .nil => 1
  | .ptr d => uptoBulk d + 1
  | .slice elems spare => uptoBulkAll elems + uptoBulkAll spare + 1
  | .agg parts => uptoBulkAll parts + 1
  | .iface _ d => uptoBulk d + 1
  | .map entries => uptoBulkEntries entries + 1
  | .held _ => 1
def uptoBulkAll {H : Type} : List (DataW H) → Nat
  | [] => 0
  | d :: r => uptoBulk d + uptoBulkAll r
def uptoBulkEntries {H : Type} : List (Lit × DataW H) → Nat
  | [] => 0
  | x :: r => uptoBulkEntry x + uptoBulkEntries r
def uptoBulkEntry {H : Type} : Lit × DataW H → Nat
  | (.string bytes, d) => bytes.length + uptoBulk d + 1
  | (_, d) => uptoBulk d + 1
 end
def uptoSmall : (H : Type) → List (DataW H) → Bool := fun _ ds => decide (uptoBulkAll ds ≤ 1048576)
def OpenSpec.upto (s : _root_.Go.ChangeSpec) : _root_.Go.OpenSpec := { _root_.Go.OpenSpec.ofChange s with cond := some uptoSmall }

/-- 'laws.FnExactAddDigitMoves', WHERE WHAT IT READS IS OF BULK AT MOST 1048576: true; the input reads as it did. -/
def fnExactAddDigitMovesUptoRow : OpenClaim := { program := "ytbmagojomckkmaa", sum := "00b96addb2cee4f939e084b0d782d31165b4901d8306f01a2aa77df21bd2fb7d", func := "loop.example/g01006/laws.FnExactAddDigitMoves", spec := "fnExactAddDigitMoves", apart := false, narrowed := true }
def FnExactAddDigitMovesUptoSaid : Prop := fnExactAddDigitMovesUptoRow.holds Try.pinned (OpenSpec.upto fnExactAddDigitMovesSpec)

/-- 'laws.FnExactTakeDigitMoves', WHERE WHAT IT READS IS OF BULK AT MOST 1048576: true; the input reads as it did. -/
def fnExactTakeDigitMovesUptoRow : OpenClaim := { program := "ytbmagojomckkmaa", sum := "00b96addb2cee4f939e084b0d782d31165b4901d8306f01a2aa77df21bd2fb7d", func := "loop.example/g01006/laws.FnExactTakeDigitMoves", spec := "fnExactTakeDigitMoves", apart := false, narrowed := true }
def FnExactTakeDigitMovesUptoSaid : Prop := fnExactTakeDigitMovesUptoRow.holds Try.pinned (OpenSpec.upto fnExactTakeDigitMovesSpec)

/-- 'laws.FnExactKindsUsed', WHERE WHAT IT READS IS OF BULK AT MOST 1048576: true; the input reads as it did. -/
def fnExactKindsUsedUptoRow : OpenClaim := { program := "ytbmagojomckkmaa", sum := "00b96addb2cee4f939e084b0d782d31165b4901d8306f01a2aa77df21bd2fb7d", func := "loop.example/g01006/laws.FnExactKindsUsed", spec := "fnExactKindsUsed", apart := false, narrowed := true }
def FnExactKindsUsedUptoSaid : Prop := fnExactKindsUsedUptoRow.holds Try.pinned (OpenSpec.upto fnExactKindsUsedSpec)

/-- 'laws.FnExactTakeNumberMoves', WHERE WHAT IT READS IS OF BULK AT MOST 1048576: true; the input reads as it did. -/
def fnExactTakeNumberMovesUptoRow : OpenClaim := { program := "ytbmagojomckkmaa", sum := "00b96addb2cee4f939e084b0d782d31165b4901d8306f01a2aa77df21bd2fb7d", func := "loop.example/g01006/laws.FnExactTakeNumberMoves", spec := "fnExactTakeNumberMoves", apart := false, narrowed := true }
def FnExactTakeNumberMovesUptoSaid : Prop := fnExactTakeNumberMovesUptoRow.holds Try.pinned (OpenSpec.upto fnExactTakeNumberMovesSpec)

/-- 'laws.FnExactAddNumberMoves', WHERE WHAT IT READS IS OF BULK AT MOST 1048576: true; the input reads as it did. -/
def fnExactAddNumberMovesUptoRow : OpenClaim := { program := "ytbmagojomckkmaa", sum := "00b96addb2cee4f939e084b0d782d31165b4901d8306f01a2aa77df21bd2fb7d", func := "loop.example/g01006/laws.FnExactAddNumberMoves", spec := "fnExactAddNumberMoves", apart := false, narrowed := true }
def FnExactAddNumberMovesUptoSaid : Prop := fnExactAddNumberMovesUptoRow.holds Try.pinned (OpenSpec.upto fnExactAddNumberMovesSpec)

/-- 'laws.FnExactWastedBeads', WHERE WHAT IT READS IS OF BULK AT MOST 1048576: true; the input reads as it did. -/
def fnExactWastedBeadsUptoRow : OpenClaim := { program := "ytbmagojomckkmaa", sum := "00b96addb2cee4f939e084b0d782d31165b4901d8306f01a2aa77df21bd2fb7d", func := "loop.example/g01006/laws.FnExactWastedBeads", spec := "fnExactWastedBeads", apart := false, narrowed := true }
def FnExactWastedBeadsUptoSaid : Prop := fnExactWastedBeadsUptoRow.holds Try.pinned (OpenSpec.upto fnExactWastedBeadsSpec)

/-- 'laws.FnExactSavedMoves', WHERE WHAT IT READS IS OF BULK AT MOST 1048576: true; the input reads as it did. -/
def fnExactSavedMovesUptoRow : OpenClaim := { program := "ytbmagojomckkmaa", sum := "00b96addb2cee4f939e084b0d782d31165b4901d8306f01a2aa77df21bd2fb7d", func := "loop.example/g01006/laws.FnExactSavedMoves", spec := "fnExactSavedMoves", unfollowed := true, recurses := true, apart := false, narrowed := true }
def FnExactSavedMovesUptoSaid : Prop := fnExactSavedMovesUptoRow.holds Try.pinned (OpenSpec.upto fnExactSavedMovesSpec)

/-- 'laws.FnExactProductOn', WHERE WHAT IT READS IS OF BULK AT MOST 1048576: true; the input reads as it did. -/
def fnExactProductOnUptoRow : OpenClaim := { program := "ytbmagojomckkmaa", sum := "00b96addb2cee4f939e084b0d782d31165b4901d8306f01a2aa77df21bd2fb7d", func := "loop.example/g01006/laws.FnExactProductOn", spec := "fnExactProductOn", apart := false, narrowed := true }
def FnExactProductOnUptoSaid : Prop := fnExactProductOnUptoRow.holds Try.pinned (OpenSpec.upto fnExactProductOnSpec)

/-- 'laws.FnFrames', WHERE WHAT IT READS IS OF BULK AT MOST 1048576: true; the input reads as it did. -/
def fnFramesUptoRow : OpenClaim := { program := "ytbmagojomckkmaa", sum := "00b96addb2cee4f939e084b0d782d31165b4901d8306f01a2aa77df21bd2fb7d", func := "loop.example/g01006/laws.FnFrames", spec := "fnFrames", recurses := true, apart := false, narrowed := true }
def FnFramesUptoSaid : Prop := fnFramesUptoRow.holds Try.pinned (OpenSpec.upto fnFramesSpec)

/-- 'laws.FnMoves', WHERE WHAT IT READS IS OF BULK AT MOST 1048576: true; the input reads as it did. -/
def fnMovesUptoRow : OpenClaim := { program := "ytbmagojomckkmaa", sum := "00b96addb2cee4f939e084b0d782d31165b4901d8306f01a2aa77df21bd2fb7d", func := "loop.example/g01006/laws.FnMoves", spec := "fnMoves", apart := false, narrowed := true }
def FnMovesUptoSaid : Prop := fnMovesUptoRow.holds Try.pinned (OpenSpec.upto fnMovesSpec)

/-- 'laws.FnAdding', WHERE WHAT IT READS IS OF BULK AT MOST 1048576: true; the input reads as it did. -/
def fnAddingUptoRow : OpenClaim := { program := "ytbmagojomckkmaa", sum := "00b96addb2cee4f939e084b0d782d31165b4901d8306f01a2aa77df21bd2fb7d", func := "loop.example/g01006/laws.FnAdding", spec := "fnAdding", apart := false, narrowed := true }
def FnAddingUptoSaid : Prop := fnAddingUptoRow.holds Try.pinned (OpenSpec.upto fnAddingSpec)

/-- 'laws.FnTaking', WHERE WHAT IT READS IS OF BULK AT MOST 1048576: true; the input reads as it did. -/
def fnTakingUptoRow : OpenClaim := { program := "ytbmagojomckkmaa", sum := "00b96addb2cee4f939e084b0d782d31165b4901d8306f01a2aa77df21bd2fb7d", func := "loop.example/g01006/laws.FnTaking", spec := "fnTaking", apart := false, narrowed := true }
def FnTakingUptoSaid : Prop := fnTakingUptoRow.holds Try.pinned (OpenSpec.upto fnTakingSpec)

end Rows
end Go.Proofs.Ytbmagojomckkmaa
