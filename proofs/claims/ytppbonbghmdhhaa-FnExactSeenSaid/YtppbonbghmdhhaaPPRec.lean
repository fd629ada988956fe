/- Plain law: the program and the reference read the same records. -/
import Derived.Test.YtppbonbghmdhhaaPFRead
namespace Go.Proofs.Ytppbonbghmdhhaa
open Go.VM Go
set_option linter.unusedSimpArgs false
set_option linter.unusedVariables false

end Go.Proofs.Ytppbonbghmdhhaa
