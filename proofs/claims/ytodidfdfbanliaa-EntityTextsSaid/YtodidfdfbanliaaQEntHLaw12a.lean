/- Layer 12's plain law, first part: what ofR and wholeR answer, in plain Lean. -/
import Derived.Test.YtodidfdfbanliaaQEntHWhole
import Derived.Test.YtodidfdfbanliaaQEntPAllx0
import Derived.Test.YtodidfdfbanliaaQEntHSem1
set_option linter.unusedVariables false
namespace Go.Proofs.Ytodidfdfbanliaa.PAll
open Go.RowKit Go.Proofs.YtodidfdfbanliaaW.PrintWords Go.Proofs.YtodidfdfbanliaaW.PrintLast Go.Proofs.YtodidfdfbanliaaW.PrintMore
theorem ofGo_len (most : Int) (l : List Int) : ∀ (L : List Int) (fs : List S42) (i : Nat), fs.length ≤ 64 → (ofGo most l L fs i).1.length ≤ 64 := by
  induction l with
  | nil =>
    intro L fs i h
    unfold ofGo
    split
    · simpa [trimF] using h
    · split
      · simp only [trimF_len]; exact lineR_le _ _ h
      · simp
  | cons c t ih =>
    intro L fs i h
    unfold ofGo
    split
    · simp
    · split
      · exact ih _ _ _ h
      · split
        · simpa [trimF] using h
        · split
          · exact ih _ _ _ (lineR_le _ _ h)
          · simp
theorem ofR_len (l : List Int) (most : Int) : (ofR l most).1.length ≤ 64 := ofGo_len most l [] [] 0 (by simp)
/-- How many bytes a run used. -/
def usedOf (r : List S42 × Int × Int) (n : Int) : Int := if r.2.2 < n then r.2.2 + 1 else n
theorem wholeR_ok (l : List Int) (most : Int) (h1 : 1 ≤ most) (h2 : most ≤ 65536) : wholeR l most = ((ofR l most).1, usedOf (ofR l most) l.length, (ofR l most).2.1, 0) := by
  unfold wholeR usedOf
  rw [if_neg (by omega)]
end Go.Proofs.Ytodidfdfbanliaa.PAll
