/- More ways to call: results that hold, and a pointer's call in a region of open order. -/
import Derived.Test.YtppbonbghmdhhaaPFMark
namespace Go.VM
end Go.VM
