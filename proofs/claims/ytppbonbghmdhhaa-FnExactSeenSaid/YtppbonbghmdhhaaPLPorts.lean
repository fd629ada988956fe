/- The law FnPorts. -/
import Derived.Test.YtppbonbghmdhhaaPFDrawQ
import Derived.Test.YtppbonbghmdhhaaPFSend
import Derived.Test.YtppbonbghmdhhaaPFTold
import Derived.Test.YtppbonbghmdhhaaPFHear
import Derived.Test.YtppbonbghmdhhaaPFTake
namespace Go.Proofs.Ytppbonbghmdhhaa
open Go.VM Go
set_option maxRecDepth 100000
set_option linter.unusedSimpArgs false
set_option linter.unusedVariables false
attribute [-go_sem] runW_cons
attribute [local congr] vw_congr runV_congr runH_congr runW_congr runX_congr

end Go.Proofs.Ytppbonbghmdhhaa
