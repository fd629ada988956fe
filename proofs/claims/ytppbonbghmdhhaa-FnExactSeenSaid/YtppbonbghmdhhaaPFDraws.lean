/- Draws of paths, texts and ops. -/
import Derived.Test.YtppbonbghmdhhaaPFCur
import Derived.Test.YtppbonbghmdhhaaPFCall
import Derived.Test.YtppbonbghmdhhaaPFTell
namespace Go.Proofs.Ytppbonbghmdhhaa
open Go.VM Go
set_option maxRecDepth 100000
set_option linter.unusedSimpArgs false
set_option linter.unusedVariables false
attribute [local congr] vw_congr runV_congr runH_congr runW_congr runX_congr

end Go.Proofs.Ytppbonbghmdhhaa
