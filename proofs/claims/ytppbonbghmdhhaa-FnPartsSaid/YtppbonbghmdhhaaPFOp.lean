/- Op values: trees, and the walks of their size, their copy, their comparing (one; a slice). Printed by a program (tfun.py). -/
import Derived.Test.YtppbonbghmdhhaaPFBase
namespace Go.Proofs.Ytppbonbghmdhhaa
open Go.VM
set_option maxRecDepth 100000
set_option linter.unusedSimpArgs false
set_option linter.unusedVariables false
attribute [local congr] vw_congr runV_congr runH_congr runW_congr runX_congr

structure OpV where
  kind : Int
  path : ByteArray
  to : ByteArray
  data : ByteArray
  deriving DecidableEq
def opRow (x : OpV) : List T := [.int .i64 x.kind, .str x.path, .str x.to, .str x.data]
def OpV.ok (x : OpV) : Prop := x.path.size < 2 ^ 63 ∧ x.to.size < 2 ^ 63 ∧ x.data.size < 2 ^ 63
theorem opRow_r1 (x : OpV) : (opRow x).map T.toRO = opRow x := by simp [opRow]
theorem opRow_clean (l : List OpV) : cleanRs (l.map opRow) = true := clean_map (fun x => rfl) l
end Go.Proofs.Ytppbonbghmdhhaa
