/- Tell values: trees, and the walks of their size, their copy, their comparing (one; a slice). Printed by a program (tfun.py). -/
import Derived.Test.YtppbonbghmdhhaaPFBase
namespace Go.Proofs.Ytppbonbghmdhhaa
open Go.VM
set_option maxRecDepth 100000
set_option linter.unusedSimpArgs false
set_option linter.unusedVariables false
attribute [local congr] vw_congr runV_congr runH_congr runW_congr runX_congr

structure TellV where
  code : Int
  text : ByteArray
  deriving DecidableEq
def tellRow (x : TellV) : List T := [.int .i64 x.code, .str x.text]
def TellV.ok (x : TellV) : Prop := x.text.size < 2 ^ 63
theorem tellRow_r1 (x : TellV) : (tellRow x).map T.toRO = tellRow x := by simp [tellRow]
theorem tellRow_clean (l : List TellV) : cleanRs (l.map tellRow) = true := clean_map (fun x => rfl) l
end Go.Proofs.Ytppbonbghmdhhaa
