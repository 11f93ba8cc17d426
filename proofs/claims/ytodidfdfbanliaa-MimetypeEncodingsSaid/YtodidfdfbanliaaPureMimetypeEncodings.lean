/- MimetypeEncodings: whatever the text, both say the same of how a body was written. -/
import Derived.Test.YtodidfdfbanliaaPAllx0
import Derived.Test.YtodidfdfbanliaaFEnc
import Derived.Test.YtodidfdfbanliaaFAwakeM
import Derived.Test.YtodidfdfbanliaaLMimetypeEncodings
import Derived.Test.YtodidfdfbanliaaHSemT
set_option linter.unusedVariables false
set_option linter.unusedSimpArgs false
namespace Go.Proofs.Ytodidfdfbanliaa.Pure
open Go.RowKit Go.Proofs.Ytodidfdfbanliaa.PAll Go.Proofs.YtodidfdfbanliaaW.PrintWords Go.Proofs.YtodidfdfbanliaaW.PrintLast

theorem awake13_ev : Ev (fun k => winklelaw13_awake.f k) true := by
  obtain ⟨k, h⟩ := awake13
  exact Ev.of winklelaw13_awake.mono h
theorem MimetypeEncodings : winklelaw13_MimetypeEncodings.Pure := by
  intro a0 h
  have h1 := encoding_ev a0 (by omega)
  have : Ev (fun k => winklelaw13_MimetypeEncodings.f k a0) true := by
    unfold winklelaw13_MimetypeEncodings.f
    refine Ev.congr (f := fun k => (winkleref13_Encoding.f k a0).bind fun t390 => (if encodeR a0 = t390 then ((winklelaw13_awake.f k).bind fun t391 => (some t391)) else (some false))) (fun k => by rw [mimetype_Encoding.f, if_pos (by omega), Option.bind_some]) ?_
    refine Ev.bind (f := fun k t390 => _) h1 ?_
    refine Ev.congr (fun k => if_pos rfl) ?_
    exact Ev.bind (f := fun _ t => some t) awake13_ev (Ev.now _)
  exact this.rounds
end Go.Proofs.Ytodidfdfbanliaa.Pure
