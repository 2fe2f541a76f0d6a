/- The way with the fewest beads: the program's. -/
import Derived.Deep.CutBlock
import Derived.Test.YtaghjaiaoajpiaaVBsB
namespace Go.Proofs.Ytaghjaiaoajpiaa
open Go.RowKit
set_option linter.unusedVariables false
set_option linter.unusedSimpArgs false
end Go.Proofs.Ytaghjaiaoajpiaa
