/- The reader of the program: number, text, done, unsummed; RecRead of the program. -/
import Derived.Test.YtppbonbghmdhhaaPFRec
namespace Go.Proofs.Ytppbonbghmdhhaa
open Go.VM Go
set_option maxRecDepth 100000
set_option linter.unusedSimpArgs false
set_option linter.unusedVariables false
attribute [local congr] vw_congr runV_congr runH_congr runW_congr runX_congr
end Go.Proofs.Ytppbonbghmdhhaa
