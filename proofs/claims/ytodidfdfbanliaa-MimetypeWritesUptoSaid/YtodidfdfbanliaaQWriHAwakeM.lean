/- What every right program reads. -/
import Derived.Test.YtodidfdfbanliaaQWriFAwakeM
set_option linter.unusedVariables false
set_option linter.unusedSimpArgs false
namespace Go.Proofs.Ytodidfdfbanliaa.PAll
open Go.RowKit Go.Proofs.YtodidfdfbanliaaW.PrintWords Go.Proofs.YtodidfdfbanliaaW.PrintLast Go.Proofs.YtodidfdfbanliaaW.PrintMore
theorem awake13 : ∃ k, winklelaw13_awake.f k = some true := ⟨60, by decide +kernel⟩
theorem awake13_ev : Ev (fun k => winklelaw13_awake.f k) true := by
  obtain ⟨k, h⟩ := awake13
  exact Ev.of winklelaw13_awake.mono h
end Go.Proofs.Ytodidfdfbanliaa.PAll
