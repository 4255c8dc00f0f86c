/- A symbolic machine for Go functions, and what the functions that the law reaches come to: Len64. -/
import Derived.Test.YtibdipfpfddliaaProg
import Derived.Lib.Strings
import Derived.Lib.Slices
import Derived.Lib.Small
import Derived.Lib.Walk
import Derived.Lib.BitFns
/- math/bits.Len64: laid by a program off the shelf's template for this claim's program. -/
set_option maxRecDepth 10000
namespace Go.Proofs.Ytibdipfpfddliaa

end Go.Proofs.Ytibdipfpfddliaa
