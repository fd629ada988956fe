/- Draws of ports. -/
import Derived.Test.YtppbonbghmdhhaaPFDraws
import Derived.Test.YtppbonbghmdhhaaPFPort
import Derived.Test.YtppbonbghmdhhaaPFDraw
namespace Go.VM
open Go
end Go.VM
namespace Go.Proofs.Ytppbonbghmdhhaa
open Go.VM Go
set_option maxRecDepth 100000
set_option linter.unusedSimpArgs false
set_option linter.unusedVariables false
attribute [-go_sem] runW_cons
attribute [local congr] vw_congr runV_congr runH_congr runW_congr runX_congr

end Go.Proofs.Ytppbonbghmdhhaa
