/- Small words that this seat's texts share. -/
import Derived.Test.YtodidfdfbanliaaQBckWMore
namespace Go.Proofs.Ytodidfdfbanliaa.PAll
theorem isEmpty_bne (l : List UInt8) : l.isEmpty = !(l != []) := by cases l <;> rfl
end Go.Proofs.Ytodidfdfbanliaa.PAll
