/- Regions of open order with many operations: what is ahead of each given as a list, and checked. -/
import Derived.Test.YtppbonbghmdhhaaPFBase
namespace Go.VM
open Go
end Go.VM
