/- The reference's Of: what stands at the head of its loop, in plain words. -/
import Derived.Test.YtodidfdfbanliaaQBckHLine
import Derived.Test.YtodidfdfbanliaaQBckHSem2
set_option linter.unusedVariables false
namespace Go.Proofs.Ytodidfdfbanliaa.PAll
open Go.RowKit Go.Proofs.YtodidfdfbanliaaW.PrintWords Go.Proofs.YtodidfdfbanliaaW.PrintLast Go.Proofs.YtodidfdfbanliaaW.PrintMore
section
variable (most : Int) (l : List Int)
theorem drop_at (i : Nat) (hi : i < l.length) : l.drop i = l[i] :: l.drop (i + 1) := List.drop_eq_getElem_cons hi
end
theorem lineR_le (fs : List S42) (s : ByteArray) (h : fs.length ≤ 64) : (lineR fs s).1.length ≤ 64 := by
  unfold lineR
  split
  · split
    · exact h
    · simpa [addLast] using h
  · split
    · exact h
    · split
      · exact h
      · simp; omega
end Go.Proofs.Ytodidfdfbanliaa.PAll
