/- EntityPlans and EntityFirst, the plain laws, where the fields' bulk is small. -/
import Derived.Test.YtodidfdfbanliaaQEplHPlan
import Derived.Test.YtodidfdfbanliaaQEplHSame
import Derived.Test.YtodidfdfbanliaaQEplLEntityPlans
import Derived.Test.YtodidfdfbanliaaQEplPAllx0
import Derived.Test.YtodidfdfbanliaaQEplPAllx2
import Derived.Test.YtodidfdfbanliaaQEplFPlanM
import Derived.Test.YtodidfdfbanliaaQEplFAwakeE
set_option linter.unusedVariables false
set_option linter.unusedSimpArgs false
namespace Go.Proofs.Ytodidfdfbanliaa.PAll
open Go.RowKit Go.Proofs.YtodidfdfbanliaaW.PrintWords Go.Proofs.YtodidfdfbanliaaW.PrintLast Go.Proofs.YtodidfdfbanliaaW.PrintMore
theorem awake19_ev : Ev (fun k => winklelaw19_awake.f k) true := Ev.of winklelaw19_awake.mono (k := 120) (by decide +kernel)
theorem plans_pure (F : List S42) (hs : ∀ f ∈ F, f.f0.size ≤ 1048576 ∧ f.f1.size ≤ 1048576) (hl : F.length ≤ 1048576) : ∃ k, winklelaw19_EntityPlans.f k F = some true := by
  have p1 := plan_ev F (fun f hf => by have := (hs f hf).1; omega) (fun f hf => by have := (hs f hf).2; omega)
  have p2 := planRef_ev F (by omega) (fun f hf => by have := (hs f hf).1; omega) (fun f hf => by have := (hs f hf).2; omega)
  have : Ev (fun k => winklelaw19_EntityPlans.f k F) true := by
    unfold winklelaw19_EntityPlans.f
    simp only [Option.bind_some, List.length_nil, List.nil_append]
    refine Ev.congr (fun k => if_pos (by omega)) ?_
    refine Ev.bind (f := fun k bt523 => _) p1 ?_
    refine Ev.bind (f := fun k bt527 => _) p2 ?_
    refine Ev.congr (fun k => if_pos (by simp)) ?_
    refine Ev.bind (f := fun k t531 => _) (fields_same F (by omega)) ?_
    refine Ev.congr (fun k => if_pos rfl) ?_
    exact Ev.bind (f := fun _ t => some t) awake19_ev (Ev.now _)
  exact this.rounds
end Go.Proofs.Ytodidfdfbanliaa.PAll
