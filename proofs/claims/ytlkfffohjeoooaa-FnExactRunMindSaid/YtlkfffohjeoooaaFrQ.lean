
/- A number taken: the reference's. -/
import Derived.Test.YtlkfffohjeoooaaFrO
namespace Go.Proofs.Ytlkfffohjeoooaa
open Go.RowKit
set_option linter.unusedVariables false
set_option linter.unusedSimpArgs false
end Go.Proofs.Ytlkfffohjeoooaa
