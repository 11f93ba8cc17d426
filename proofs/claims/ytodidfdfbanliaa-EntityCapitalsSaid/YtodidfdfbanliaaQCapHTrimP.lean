/- Trimming, plainly: a text without the blanks (bytes 9, 32) at its ends. -/
import Derived.Test.YtodidfdfbanliaaQCapHWords
namespace Go.Proofs.Ytodidfdfbanliaa.PAll
def isBl (c : UInt8) : Bool := c == 9 || c == 32
theorem mk_toList (s : ByteArray) : (⟨s.data.toList.toArray⟩ : ByteArray) = s := by cases s; simp
theorem ext_toList {s t : ByteArray} (h : s.data.toList = t.data.toList) : s = t := by rw [← mk_toList s, ← mk_toList t, h]
theorem getElem_toList (s : ByteArray) (i : Nat) (h : i < s.size) : s[i] = s.data.toList[i]'(by simpa using h) := by rfl
theorem extract_toList (s : ByteArray) (a b : Nat) : (s.extract a b).data.toList = (s.data.toList.take b).drop a := by
  simp [ByteArray.data_extract, Array.toList_extract, List.drop_take]
end Go.Proofs.Ytodidfdfbanliaa.PAll
