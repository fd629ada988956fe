/- Size, copy, comparing of numbers, chips, what is mounted. Printed by fcf.py. -/
import Derived.Test.YtppbonbghmdhhaaPFMount
namespace Go.Proofs.Ytppbonbghmdhhaa
open Go.VM Go
set_option maxRecDepth 100000
set_option linter.unusedSimpArgs false
set_option linter.unusedVariables false
attribute [local congr] vw_congr runV_congr runH_congr runW_congr runX_congr
structure ChipV where
  pages : List ByteArray
  wear : List Int
  deriving DecidableEq
def ChipV.ok (x : ChipV) : Prop := (x.pages.length < 2 ^ 63 ∧ ∀ y ∈ x.pages, y.size < 2 ^ 63) ∧ x.wear.length < 2 ^ 63
def FtlV.chip (x : FtlV) : ChipV := ⟨x.pages, x.wear⟩
def FtlV.ok (x : FtlV) : Prop := x.chip.ok ∧ x.map.length < 2 ^ 63

end Go.Proofs.Ytppbonbghmdhhaa
