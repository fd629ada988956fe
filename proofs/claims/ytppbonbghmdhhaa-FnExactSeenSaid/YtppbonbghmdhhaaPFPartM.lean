/- Parts: marks, marks read again, copies. -/
import Derived.Test.YtppbonbghmdhhaaPFPart
import Derived.Test.YtppbonbghmdhhaaPFInsM
import Derived.Test.YtppbonbghmdhhaaPFTellM
namespace Go.Proofs.Ytppbonbghmdhhaa
open Go.VM
set_option maxRecDepth 100000
set_option linter.unusedSimpArgs false
set_option linter.unusedVariables false
attribute [local congr] vw_congr runV_congr runH_congr runW_congr runX_congr

end Go.Proofs.Ytppbonbghmdhhaa
