/- HeaderMost, the plain law. -/
import Derived.Test.YtodidfdfbanliaaPAllx22
import Derived.Test.YtodidfdfbanliaaHLaw12a
set_option linter.unusedVariables false
namespace Go.Proofs.Ytodidfdfbanliaa.Pure
open Go.RowKit Go.Proofs.Ytodidfdfbanliaa.PAll Go.Proofs.YtodidfdfbanliaaW.PrintWords Go.Proofs.YtodidfdfbanliaaW.PrintLast

theorem HeaderMost : winklelaw12_HeaderMost.Pure := by
  intro l0 h1 h2 h3
  have hlen : l0.length ≤ 9223372036854775807 := by unfold maxLen at h1; omega
  obtain ⟨k, hk⟩ := (fields_same (ofR l0 65536).1 (by have := ofR_len l0 65536; omega)).rounds
  have hw := wholeR_ok l0 65536 (by omega) (by omega)
  have hf : header_Whole.f l0 65536 = some ((ofR l0 65536).1, usedOf (ofR l0 65536) l0.length, (ofR l0 65536).2.1, 0) := congrArg some hw
  by_cases hy : (ofR l0 65536).2.1 = 0
  · by_cases h2 : usedOf (ofR l0 65536) l0.length < 2
    · refine ⟨1, ?_⟩
      unfold winklelaw12_HeaderMost.f
      rw [hf]
      simp only [Option.bind_some]
      rw [if_pos hy, decide_eq_true h2]
      rfl
    · have hu1 : usedOf (ofR l0 65536) l0.length ≤ 65536 := by
        have := ofGo_used 65536 l0 [] [] 0 (by omega) hy
        have e : ((0 : Nat) : Int) + (l0.length : Int) = (l0.length : Int) := by omega
        rw [e] at this
        exact this
      have hu2 : usedOf (ofR l0 65536) l0.length ≤ l0.length := by unfold usedOf; split <;> omega
      generalize hu : usedOf (ofR l0 65536) l0.length = u at *
      have e0 : ((0 : Nat) : Int) + (l0.length : Int) = (l0.length : Int) := by omega
      have hsame : ofR l0 u = ofR l0 65536 := ofGo_most 65536 u l0 [] [] 0 hy (by rw [e0]; exact Int.le_of_eq hu)
      have hless : ofR l0 (u - 1) = ([], 31, u - 1) := ofGo_less 65536 (u - 1) l0 [] [] 0 hy (by omega) (by rw [e0]; have : usedOf (ofGo 65536 l0 [] [] 0) l0.length = u := hu; omega)
      have hf1 : header_Whole.f l0 u = some ((ofR l0 65536).1, u, 0, 0) := by
        have := wholeR_ok l0 u (by omega) hu1
        rw [hsame, hu, hy] at this
        exact congrArg some this
      have hf2 : header_Whole.f l0 (u - 1) = some ([], u, 31, 0) := by
        have := wholeR_ok l0 (u - 1) (by omega) (by omega)
        rw [hless] at this
        have e : usedOf (([] : List S42), (31 : Int), u - 1) l0.length = u := by unfold usedOf; simp only []; rw [if_pos (by omega)]; omega
        rw [e] at this
        exact congrArg some this
      have hwr : wrap64 (u - 1) = u - 1 := by unfold wrap64; omega
      refine ⟨k + 1, ?_⟩
      unfold winklelaw12_HeaderMost.f
      rw [hf]
      simp only [Option.bind_some]
      rw [if_pos hy, decide_eq_false h2]
      rw [winklelaw12_HeaderMost.j0]
      rw [if_neg (by decide), hf1, hwr, hf2]
      simp [hk, winklelaw12_awake.f]
  · refine ⟨1, ?_⟩
    unfold winklelaw12_HeaderMost.f
    rw [hf]
    simp only [Option.bind_some]
    rw [if_neg hy]
    rfl
end Go.Proofs.Ytodidfdfbanliaa.Pure
