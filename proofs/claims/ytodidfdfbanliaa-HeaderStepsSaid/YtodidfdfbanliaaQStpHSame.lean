/- The reference's comparisons of equal fields and types. -/
import Derived.Test.YtodidfdfbanliaaQStpFFields
import Derived.Test.YtodidfdfbanliaaQStpHSem1
set_option linter.unusedVariables false
set_option linter.unusedSimpArgs false
namespace Go.Proofs.Ytodidfdfbanliaa.PAll
open Go.RowKit Go.Proofs.YtodidfdfbanliaaW.PrintWords Go.Proofs.YtodidfdfbanliaaW.PrintLast
theorem fields_same_l0 (a : List S42) (hl : a.length ≤ 9223372036854775807) (d : Nat) : ∀ i : Nat, i ≤ a.length → a.length - i = d → Ev (fun k => winkleref12_Fields.l0 k a a (i : Int)) true := by
  induction d with
  | zero =>
    intro i hi hd
    refine Ev.step (f := fun _ => some true) (fun k => ?_) (Ev.now _)
    simp only [winkleref12_Fields.l0]; rw [if_neg (by omega)]
  | succ d ih =>
    intro i hi hd
    refine Ev.step (f := fun k => winkleref12_Fields.l0 k a a ((i + 1 : Nat) : Int)) (fun k => ?_) (ih (i + 1) (by omega) (by omega))
    simp only [winkleref12_Fields.l0]
    rw [if_pos (by omega), if_pos (by omega), if_pos (by omega), wrap_succ i a.length (by omega) (by omega)]
    simp
theorem fields_same (a : List S42) (hl : a.length ≤ 9223372036854775807) : Ev (fun k => winkleref12_Fields.f k a a) true := by
  refine (fields_same_l0 a hl a.length 0 (by omega) (by omega)).congr (fun k => ?_)
  simp [winkleref12_Fields.f]
end Go.Proofs.Ytodidfdfbanliaa.PAll
