/- Small words that this seat's texts share. -/
import Derived.Test.YtodidfdfbanliaaQStpWWords
import Derived.Test.YtodidfdfbanliaaQStpWLast
import Derived.Test.YtodidfdfbanliaaQStpWKept
namespace Go.Proofs.Ytodidfdfbanliaa.PAll
theorem isEmpty_bne (l : List UInt8) : l.isEmpty = !(l != []) := by cases l <;> rfl
end Go.Proofs.Ytodidfdfbanliaa.PAll
