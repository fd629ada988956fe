/- What is mounted: FtlOk, sectors, volumes of both. -/
import Derived.Test.YtppbonbghmdhhaaPFFtlC
namespace Go.Proofs.Ytppbonbghmdhhaa
open Go.VM Go
set_option maxRecDepth 100000
set_option linter.unusedSimpArgs false
set_option linter.unusedVariables false
attribute [local congr] vw_congr runV_congr runH_congr runW_congr runX_congr

structure FtlV.small (f : FtlV) : Prop where
  pages : f.pages.length ≤ 2 ^ 20
  wear : f.wear.length ≤ 2 ^ 20
  map : f.map.length ≤ 2 ^ 20
  text : ∀ s ∈ f.pages, s.size < 2 ^ 62

end Go.Proofs.Ytppbonbghmdhhaa
