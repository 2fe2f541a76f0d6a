/- A number taken: the reference's. -/
import Derived.Test.YtfechhacmkajdaaVFrO
import Derived.Test.YtfechhacmkajdaaVM4
namespace Go.Proofs.Ytfechhacmkajdaa
open Go.RowKit
set_option linter.unusedVariables false
set_option linter.unusedSimpArgs false
end Go.Proofs.Ytfechhacmkajdaa
namespace Go.Proofs.Ytfechhacmkajdaa
open Go.RowKit
set_option linter.unusedVariables false
set_option linter.unusedSimpArgs false
end Go.Proofs.Ytfechhacmkajdaa
namespace Go.Proofs.Ytfechhacmkajdaa
open Go.RowKit
set_option linter.unusedVariables false
set_option linter.unusedSimpArgs false
def addDF (u lo : Int) (l : List R2) (rod d : Int) : Int × Int × List R2 := if addDigitB u lo l rod d = true then (u, lo, rodsD (addS (rod.toNat + 1) d ⟨dsOf l, [], 0⟩).ds) else (0, 0, [])
def takeDF (u lo : Int) (l : List R2) (rod d : Int) : Int × Int × List R2 := if takeDigitB u lo l rod d = true then (u, lo, rodsD (takeS (rod.toNat + 1) d ⟨dsOf l, [], 0⟩).ds) else (0, 0, [])
end Go.Proofs.Ytfechhacmkajdaa
