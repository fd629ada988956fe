/- DrawSend, DrawTold, DrawTake, DrawHear. -/
import Derived.Test.YtppbonbghmdhhaaPFDrawP
namespace Go.Proofs.Ytppbonbghmdhhaa
open Go.VM Go
set_option maxRecDepth 100000
set_option linter.unusedSimpArgs false
set_option linter.unusedVariables false
attribute [-go_sem] runW_cons
attribute [local congr] vw_congr runV_congr runH_congr runW_congr runX_congr

theorem opRow_fine (H : Value → Nat → List (List T) → Prop) (l : List OpV) : fineRs H (l.map opRow) = True := eq_true (fineRs_of (opRow_clean l))
theorem tellRow_fine (H : Value → Nat → List (List T) → Prop) (l : List TellV) : fineRs H (l.map tellRow) = True := eq_true (fineRs_of (tellRow_clean l))
end Go.Proofs.Ytppbonbghmdhhaa
