/- Trimming, plainly: a text without the blanks (bytes 9, 32) at its ends. -/
import Derived.Test.YtodidfdfbanliaaQWriHWords
namespace Go.Proofs.Ytodidfdfbanliaa.PAll
def isBl (c : UInt8) : Bool := c == 9 || c == 32
theorem mk_toList (s : ByteArray) : (⟨s.data.toList.toArray⟩ : ByteArray) = s := by cases s; simp
theorem ext_toList {s t : ByteArray} (h : s.data.toList = t.data.toList) : s = t := by rw [← mk_toList s, ← mk_toList t, h]
end Go.Proofs.Ytodidfdfbanliaa.PAll
