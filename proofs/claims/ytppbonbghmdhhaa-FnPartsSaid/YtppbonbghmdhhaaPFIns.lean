/- Ins values: trees, and the walks of their size, their copy, their comparing (one; a slice). Printed by a program (tfun.py). -/
import Derived.Test.YtppbonbghmdhhaaPFBase
import Derived.Test.YtppbonbghmdhhaaPFOp
namespace Go.Proofs.Ytppbonbghmdhhaa
open Go.VM
set_option maxRecDepth 100000
set_option linter.unusedSimpArgs false
set_option linter.unusedVariables false
attribute [local congr] vw_congr runV_congr runH_congr runW_congr runX_congr

structure InsV where
  kind : Int
  op : OpV
  n : Int
  deriving DecidableEq
def insRow (x : InsV) : List T := [.int .i64 x.kind, .int .i64 x.op.kind, .str x.op.path, .str x.op.to, .str x.op.data, .int .i64 x.n]
def InsV.ok (x : InsV) : Prop := x.op.ok
theorem insRow_r1 (x : InsV) : (insRow x).map T.toRO = insRow x := by simp [insRow]
theorem insRow_clean (l : List InsV) : cleanRs (l.map insRow) = true := clean_map (fun x => rfl) l
end Go.Proofs.Ytppbonbghmdhhaa
