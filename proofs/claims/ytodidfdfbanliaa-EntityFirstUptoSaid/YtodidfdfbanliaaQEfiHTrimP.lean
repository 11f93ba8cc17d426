/- Trimming, plainly: a text without the blanks (bytes 9, 32) at its ends. -/
import Derived.Test.YtodidfdfbanliaaQEfiHWords
namespace Go.Proofs.Ytodidfdfbanliaa.PAll
def isBl (c : UInt8) : Bool := c == 9 || c == 32
end Go.Proofs.Ytodidfdfbanliaa.PAll
