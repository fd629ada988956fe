/- The specification's CodeOk, and the law of CodeOk. -/
import Derived.Test.YtppbonbghmdhhaaPFCode
namespace Go.Proofs.Ytppbonbghmdhhaa
open Go.VM
set_option maxRecDepth 100000
set_option linter.unusedSimpArgs false
set_option linter.unusedVariables false
attribute [local congr] vw_congr runV_congr runH_congr runW_congr runX_congr

end Go.Proofs.Ytppbonbghmdhhaa
