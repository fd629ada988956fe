/- Mount of both. -/
import Derived.Test.YtppbonbghmdhhaaPFChip
import Derived.Test.YtppbonbghmdhhaaPFRepeat
namespace Go.Proofs.Ytppbonbghmdhhaa
open Go.VM Go
set_option maxRecDepth 100000
set_option linter.unusedSimpArgs false
set_option linter.unusedVariables false
attribute [local congr] vw_congr runV_congr runH_congr runW_congr runX_congr

structure FtlV where
  pages : List ByteArray
  wear : List Int
  map : List Int
  seq : Int
  deriving DecidableEq
end Go.Proofs.Ytppbonbghmdhhaa
