/- Small words that this seat's texts share. -/
import Derived.Test.YtdciniefkodeaaaQBu6WMore
namespace Go.Proofs.Ytdciniefkodeaaa.PAll
theorem isEmpty_bne (l : List UInt8) : l.isEmpty = !(l != []) := by cases l <;> rfl
end Go.Proofs.Ytdciniefkodeaaa.PAll
