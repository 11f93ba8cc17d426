/- Layer 12's plain law, first part: what ofR and wholeR answer, in plain Lean. -/
import Derived.Test.YtodidfdfbanliaaQStpHWhole
import Derived.Test.YtodidfdfbanliaaQStpHSame
set_option linter.unusedVariables false
namespace Go.Proofs.Ytodidfdfbanliaa.PAll
open Go.RowKit Go.Proofs.YtodidfdfbanliaaW.PrintWords Go.Proofs.YtodidfdfbanliaaW.PrintLast
theorem whole_lit : wholeR [65, 58, 32, 49, 13, 10, 32, 50, 13, 10, 98, 58, 10, 10, 120] 99 = ([⟨⟨#[65]⟩, ⟨#[49, 32, 50]⟩⟩, ⟨⟨#[98]⟩, ⟨#[]⟩⟩], 14, 0, 0) := by kernel_rfl
end Go.Proofs.Ytodidfdfbanliaa.PAll
