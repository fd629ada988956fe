import Derived.Test.YtppbonbghmdhhaaPFBase
namespace Go.Proofs.Ytppbonbghmdhhaa
open Go.VM
set_option maxRecDepth 100000
set_option linter.unusedSimpArgs false
set_option linter.unusedVariables false

attribute [local congr] vw_congr runV_congr runH_congr runW_congr runX_congr


abbrev It3 := ByteArray × Bool × ByteArray
def iRow (x : It3) : List T := [.str x.1, .bool x.2.1, .str x.2.2]

theorem iRow_r1 (x : It3) : (iRow x).map T.toRO = iRow x := by simp [iRow]
theorem iRow_clean (l : List It3) : cleanRs (l.map iRow) = true := clean_map (fun x => rfl) l
end Go.Proofs.Ytppbonbghmdhhaa
