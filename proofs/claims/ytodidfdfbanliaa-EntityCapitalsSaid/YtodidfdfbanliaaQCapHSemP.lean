/- The plain reader of places: how far it comes. -/
import Derived.Lib.Hide
import Derived.Test.YtodidfdfbanliaaQCapHType
import Derived.Test.YtodidfdfbanliaaQCapHSem1
set_option linter.unusedVariables false
set_option linter.unusedSimpArgs false
namespace Go.Proofs.Ytodidfdfbanliaa.PAll
open Go.RowKit Go.Proofs.YtodidfdfbanliaaW.PrintWords Go.Proofs.YtodidfdfbanliaaW.PrintLast Go.Proofs.YtodidfdfbanliaaW.PrintMore
theorem betGo_fuel (m : Nat) : ∀ (n n' : Nat) (s : ByteArray) (k : Nat), s.size - k ≤ m → s.size + 1 ≤ n + k → s.size + 1 ≤ n' + k → betGo n s k = betGo n' s k := by
  induction m with
  | zero =>
    intro n n' s k hm h h'
    have : ∀ n, betGo n s k = some k := fun n => by
      cases n with
      | zero => rfl
      | succ n => rw [betGo, dif_neg (by omega)]
    rw [this, this]
  | succ m ih =>
    intro n n' s k hm h h'
    by_cases hk : k < s.size
    · obtain ⟨n, rfl⟩ : ∃ x, n = x + 1 := ⟨n - 1, by omega⟩
      obtain ⟨n', rfl⟩ : ∃ x, n' = x + 1 := ⟨n' - 1, by omega⟩
      rw [betGo, betGo, dif_pos hk, dif_pos hk]
      split
      · exact ih _ _ _ _ (by omega) (by omega) (by omega)
      · split
        · cases hc : cmtGo (s.data.toList.drop k) 0 k with
          | none => rfl
          | some j =>
            have := cmt_past _ _ _ _ _ (Nat.le_refl _) hc
            exact ih _ _ _ _ (by omega) (by omega) (by omega)
        · rfl
    · have : ∀ n, betGo n s k = some k := fun n => by
        cases n with
        | zero => rfl
        | succ n => rw [betGo, dif_neg hk]
      rw [this, this]
theorem betP_end (s : ByteArray) (k : Nat) (h : ¬ k < s.size) : betP s k = some k := by
  unfold betP
  cases s.size + 1 - k with
  | zero => rfl
  | succ n => rw [betGo, dif_neg h]
theorem betP_step (s : ByteArray) (k : Nat) (h : k < s.size) : betP s k = if isBl s[k] then betP s (k + 1) else if s[k] = 40 then (cmtGo (s.data.toList.drop k) 0 k).bind (betP s) else some k := by
  have e : betP s k = betGo (s.size - k + 1) s k := betGo_fuel (s.size - k) _ _ s k (by omega) (by omega) (by omega)
  rw [e, betGo, dif_pos h]
  split
  · exact betGo_fuel (s.size - k) _ _ s _ (by omega) (by omega) (by omega)
  · split
    · cases hc : cmtGo (s.data.toList.drop k) 0 k with
      | none => rfl
      | some j =>
        have := cmt_past _ _ _ _ _ (Nat.le_refl _) hc
        exact betGo_fuel (s.size - k) _ _ s _ (by omega) (by omega) (by omega)
    · rfl
end Go.Proofs.Ytodidfdfbanliaa.PAll
