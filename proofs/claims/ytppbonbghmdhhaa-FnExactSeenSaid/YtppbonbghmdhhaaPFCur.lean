/- The cursor over a draw's bytes: New, Byte, Below, Once, Pick, PickInt. -/
import Derived.Test.YtppbonbghmdhhaaPFNum
import Derived.Test.YtppbonbghmdhhaaPFOp
import Derived.Test.YtppbonbghmdhhaaPFSlices
namespace Go.Proofs.Ytppbonbghmdhhaa
open Go.VM Go
set_option maxRecDepth 100000
set_option linter.unusedSimpArgs false
set_option linter.unusedVariables false
attribute [local congr] vw_congr runV_congr runH_congr runW_congr runX_congr

end Go.Proofs.Ytppbonbghmdhhaa
