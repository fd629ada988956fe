/- Numbers and texts as bytes: PutNum, GetNum, Sum, PutText, GetText. -/
import Derived.Test.YtppbonbghmdhhaaPFIn
import Derived.Test.YtppbonbghmdhhaaPFMark
namespace Go.Proofs.Ytppbonbghmdhhaa
open Go.VM Go
set_option maxRecDepth 100000
set_option linter.unusedSimpArgs false
set_option linter.unusedVariables false
attribute [local congr] vw_congr runV_congr runH_congr runW_congr runX_congr

abbrev bRow (b : UInt8) : List T := [.int .u8 b.toNat]
theorem bRow_r1 (x : UInt8) : (bRow x).map T.toRO = bRow x := by simp
theorem bRow_clean (l : List UInt8) : cleanRs (l.map bRow) = true := clean_map (fun x => rfl) l
/-! ### sums -/
/-! ### numbers that are read -/
end Go.Proofs.Ytppbonbghmdhhaa
