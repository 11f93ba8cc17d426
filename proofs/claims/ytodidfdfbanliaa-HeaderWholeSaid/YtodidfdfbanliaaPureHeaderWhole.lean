/- HeaderWhole, the plain law. -/
import Derived.Test.YtodidfdfbanliaaPAllx21
import Derived.Test.YtodidfdfbanliaaHLaw12a
set_option linter.unusedVariables false
namespace Go.Proofs.Ytodidfdfbanliaa.Pure
open Go.RowKit Go.Proofs.Ytodidfdfbanliaa.PAll Go.Proofs.YtodidfdfbanliaaW.PrintWords Go.Proofs.YtodidfdfbanliaaW.PrintLast

theorem HeaderWhole : winklelaw12_HeaderWhole.Pure := by
  intro l0 a1 h1 h2 h3 h4
  obtain ⟨k, hk⟩ := (fields_same (ofR l0 a1).1 (by have := ofR_len l0 a1; omega)).rounds
  have hof : winkleref12_Of.f l0 a1 = some (ofR l0 a1) := rfl
  by_cases hb : a1 < 1 ∨ 65536 < a1
  · have hf : header_Whole.f l0 a1 = some ([], 0, 0, 2) := by unfold header_Whole.f wholeR; rw [if_pos hb]
    refine ⟨1, ?_⟩
    unfold winklelaw12_HeaderWhole.f
    simp only [Option.bind_some, List.length_nil, List.nil_append]
    rw [if_pos (by omega), hf]
    simp only [Option.bind_some]
    by_cases hl : a1 < 1
    · rw [if_pos hl]; rfl
    · rw [if_neg hl, decide_eq_true (show a1 > 65536 by omega)]; rfl
  · have hw := wholeR_ok l0 a1 (by omega) (by omega)
    have hf : header_Whole.f l0 a1 = some ((ofR l0 a1).1, usedOf (ofR l0 a1) l0.length, (ofR l0 a1).2.1, 0) := congrArg some hw
    have hbd := ofR_bounds l0 a1
    have hwr : wrap64 ((ofR l0 a1).2.2 + 1) = (ofR l0 a1).2.2 + 1 := by unfold wrap64; omega
    have hmn : usedOf (ofR l0 a1) l0.length = mn ((ofR l0 a1).2.2 + 1) (l0.length : Int) := by
      unfold usedOf mn
      split <;> split <;> omega
    refine ⟨k + 1, ?_⟩
    unfold winklelaw12_HeaderWhole.f
    simp only [Option.bind_some, List.length_nil, List.nil_append]
    rw [if_pos (by omega), hf]
    simp only [Option.bind_some]
    rw [if_neg (by omega), decide_eq_false (by omega)]
    rw [winklelaw12_HeaderWhole.j0]
    rw [if_neg (by decide), hof]
    simp only [Option.bind_some]
    rw [hk, hwr]
    simp [hmn, winklelaw12_awake.f]
end Go.Proofs.Ytodidfdfbanliaa.Pure
