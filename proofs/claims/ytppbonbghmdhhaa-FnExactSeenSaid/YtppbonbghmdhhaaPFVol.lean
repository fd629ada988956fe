/- Sectors and volumes of both. -/
import Derived.Test.YtppbonbghmdhhaaPFFtl
namespace Go.Proofs.Ytppbonbghmdhhaa
open Go.VM Go
set_option maxRecDepth 100000
set_option linter.unusedSimpArgs false
set_option linter.unusedVariables false
attribute [local congr] vw_congr runV_congr runH_congr runW_congr runX_congr

structure FtlV.right (f : FtlV) : Prop where
  small : f.small
  len : f.map.length = 26
  at_ : ∀ (n : Nat) m, f.map[n]? = some m → m = -1 ∨ ∃ (j : Nat) (u : ByteArray), m = (j : Int) ∧ f.pages[j]? = some u ∧ (recReadS u).2 = true ∧ (recReadS u).1.1 = n
end Go.Proofs.Ytppbonbghmdhhaa
