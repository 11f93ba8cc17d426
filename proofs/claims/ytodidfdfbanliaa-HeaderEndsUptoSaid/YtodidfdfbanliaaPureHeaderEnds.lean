/- HeaderEnds, the plain law, for arguments of small bulk. -/
import Derived.Test.YtodidfdfbanliaaPAllx23
import Derived.Test.YtodidfdfbanliaaHLaw12a
set_option linter.unusedVariables false
namespace Go.Proofs.Ytodidfdfbanliaa.Pure
open Go.RowKit Go.Proofs.Ytodidfdfbanliaa.PAll Go.Proofs.YtodidfdfbanliaaW.PrintWords Go.Proofs.YtodidfdfbanliaaW.PrintLast

theorem HeaderEnds : winklelaw12_HeaderEnds.Pure := by
  intro l0 l1 h1 h2 h3 h4 h5 h6
  have hev := fields_same (ofR l0 65536).1 (by have := ofR_len l0 65536; omega)
  obtain ⟨n, hn⟩ := hev
  have hk1 : winkleref12_Fields.f (n + 2) (ofR l0 65536).1 (ofR l0 65536).1 = some true := hn _ (by omega)
  have hk0 : winkleref12_Fields.f n (ofR l0 65536).1 (ofR l0 65536).1 = some true := hn _ (by omega)
  have hf : header_Whole.f l0 65536 = some ((ofR l0 65536).1, usedOf (ofR l0 65536) l0.length, (ofR l0 65536).2.1, 0) := congrArg some (wholeR_ok l0 65536 (by omega) (by omega))
  have hg : header_Whole.f (l0 ++ l1) 65536 = some ((ofR (l0 ++ l1) 65536).1, usedOf (ofR (l0 ++ l1) 65536) (l0 ++ l1).length, (ofR (l0 ++ l1) 65536).2.1, 0) := congrArg some (wholeR_ok (l0 ++ l1) 65536 (by omega) (by omega))
  have hbd := ofR_bounds l0 65536
  refine ⟨n + 2, ?_⟩
  unfold winklelaw12_HeaderEnds.f
  rw [hf]
  simp only [Option.bind_some, List.length_nil, List.nil_append]
  rw [if_pos (by omega), if_pos (by omega), hg]
  simp only [Option.bind_some]
  by_cases hu : usedOf (ofR l0 65536) l0.length < (l0.length : Int)
  · rw [if_pos hu]
    have hat : (ofR l0 65536).2.2 < (l0.length : Int) := by unfold usedOf at hu; split at hu <;> omega
    have hs := ofR_more l0 l1 65536 hat
    have hus : usedOf (ofR l0 65536) (l0 ++ l1).length = usedOf (ofR l0 65536) l0.length := by
      unfold usedOf; rw [List.length_append, if_pos hat, if_pos (by omega)]
    rw [hs, hus, if_pos rfl, if_pos rfl, hk1]
    simp [winklelaw12_awake.f]
  · rw [if_neg hu]
    have hue : usedOf (ofR l0 65536) l0.length = (l0.length : Int) := by unfold usedOf at hu ⊢; split at hu <;> split <;> omega
    have hj1t : ∀ x9 x10, winklelaw12_HeaderEnds.j0 (n + 2) l0 l1 (ofR l0 65536).1 (usedOf (ofR l0 65536) l0.length) x9 x10 true = some true := fun x9 x10 => by rw [winklelaw12_HeaderEnds.j0]; simp [winklelaw12_awake.f]
    by_cases hy : (ofR l0 65536).2.1 = 0
    · rw [if_pos hy]
      have hmain : (∀ h : l0 ≠ [], l0.getLast h = 10) → winklelaw12_HeaderEnds.j0 (n + 2) l0 l1 (ofR l0 65536).1 (usedOf (ofR l0 65536) l0.length) (ofR (l0 ++ l1) 65536).1 (usedOf (ofR (l0 ++ l1) 65536) (l0 ++ l1).length) (decide ((l0.length : Int) > 60000)) = some true := by
        intro hlast
        by_cases hbig : (l0.length : Int) > 60000
        · rw [decide_eq_true hbig]; exact hj1t _ _
        · rw [decide_eq_false hbig, winklelaw12_HeaderEnds.j0, if_neg (by decide), if_pos hue]
          by_cases hl1 : l1 = []
          · subst hl1
            rw [winklelaw12_HeaderEnds.j1, List.append_nil, if_pos (by simp), if_pos rfl, hk0]
            simp [winklelaw12_awake.f]
          · have hb := ofR_blank l0 65536 hlast (by omega) hy
            have hz : ((l1.length : Int) == 0) = false := beq_eq_false_iff_ne.2 (fun e => hl1 (List.eq_nil_of_length_eq_zero (by omega)))
            have hx : header_Whole.f (l0 ++ [10, 122]) 65536 = some ((ofR l0 65536).1, usedOf (ofR l0 65536) (l0 ++ [10, 122]).length, (ofR l0 65536).2.1, 0) := by
              have := wholeR_ok (l0 ++ [10, 122]) 65536 (by omega) (by omega)
              rw [hb] at this
              exact congrArg some this
            have hlen : (l0 ++ [10, 122]).length = l0.length + 2 := by simp
            have hbo : bytesOf (⟨#[10, 122]⟩ : ByteArray) = [10, 122] := by decide
            have hw1 : wrap64 ((l0.length : Int) + 1) = (l0.length : Int) + 1 := by unfold wrap64; omega
            rw [winklelaw12_HeaderEnds.j1, hz, if_neg (by decide)]
            simp only [Option.bind_some, List.length_nil, List.nil_append]
            rw [if_pos (by omega), if_pos (by omega), hbo, hx]
            simp only [Option.bind_some]
            rw [if_pos hy, hw1]
            have hcases : usedOf (ofR l0 65536) (l0 ++ [10, 122]).length = (l0.length : Int) + 1 ∨ (usedOf (ofR l0 65536) (l0 ++ [10, 122]).length ≠ (l0.length : Int) + 1 ∧ usedOf (ofR l0 65536) (l0 ++ [10, 122]).length = (l0.length : Int)) := by
              rw [hlen]
              unfold usedOf at hue ⊢
              rw [if_pos (by omega)]
              split at hue <;> omega
            rcases hcases with h | ⟨h, h'⟩
            · rw [if_pos h, hk0]; simp [winklelaw12_awake.f]
            · rw [if_neg h, if_pos h', hk0]; simp [winklelaw12_awake.f]
      by_cases hpos : (l0.length : Int) > 0
      · have hw : wrap64 ((l0.length : Int) - 1) = (l0.length : Int) - 1 := by unfold wrap64; omega
        rw [if_pos hpos, hw, if_pos (by omega), if_pos (by omega)]
        have hne : l0 ≠ [] := fun e => by rw [e] at hpos; simp at hpos
        have hrd : rd l0 ((l0.length : Int) - 1) = l0.getLast hne := by
          unfold rd
          rw [show ((l0.length : Int) - 1).toNat = l0.length - 1 from by omega, List.getD_eq_getElem?_getD, List.getElem?_eq_getElem (by omega), List.getLast_eq_getElem]
          rfl
        rw [hrd]
        by_cases h10 : l0.getLast hne = 10
        · rw [if_pos h10]; exact hmain (fun _ => h10)
        · rw [if_neg h10]; exact hj1t _ _
      · rw [if_neg hpos]
        exact hmain (fun h => absurd (List.eq_nil_of_length_eq_zero (by omega)) h)
    · rw [if_neg hy]; exact hj1t _ _
end Go.Proofs.Ytodidfdfbanliaa.Pure
