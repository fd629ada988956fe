/- Take of both. Printed by a program (pfun.py). -/
import Derived.Test.YtppbonbghmdhhaaPFPortM
namespace Go.Proofs.Ytppbonbghmdhhaa
open Go.VM
set_option maxRecDepth 100000
set_option linter.unusedSimpArgs false
set_option linter.unusedVariables false
attribute [local congr] vw_congr runV_congr runH_congr runW_congr runX_congr
attribute [go_sem] List.take_length

end Go.Proofs.Ytppbonbghmdhhaa
