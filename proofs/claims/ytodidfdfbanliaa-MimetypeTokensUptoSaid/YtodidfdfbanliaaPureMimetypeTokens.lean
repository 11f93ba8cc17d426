/- MimetypeTokens, where the texts have at most 2^20 bytes: tokens put together are one, and small letters change no token. -/
import Derived.Test.YtodidfdfbanliaaLMimetypeTokens
import Derived.Test.YtodidfdfbanliaaHSemT
set_option linter.unusedVariables false
set_option linter.unusedSimpArgs false
namespace Go.Proofs.Ytodidfdfbanliaa.Pure
open Go.RowKit Go.Proofs.Ytodidfdfbanliaa.PAll Go.Proofs.YtodidfdfbanliaaW.PrintWords Go.Proofs.YtodidfdfbanliaaW.PrintLast

theorem awake13_ev : Ev (fun k => winklelaw13_awake.f k) true := by
  obtain ⟨k, h⟩ := awake13
  exact Ev.of winklelaw13_awake.mono h
theorem markC_low (c : UInt8) : markC (lowC c) = markC c := by_bytes (p := fun i c => markC (lowC c) = markC c) (by decide +kernel) c
theorem lowC_low (c : UInt8) : lowC (lowC c) = lowC c := by_bytes (p := fun i c => lowC (lowC c) = lowC c) (by decide +kernel) c
theorem lowL_low (l : List UInt8) : lowL (lowL l) = lowL l := by simp [lowL, Function.comp_def, lowC_low]
theorem tokL_low (l : List UInt8) : tokL (lowL l) = tokL l := by
  unfold tokL lowL
  rw [List.all_map, show (markC ∘ lowC) = markC from funext markC_low]
  cases l <;> rfl
theorem tokL_app (a b : List UInt8) (ha : a ≠ []) (hb : b ≠ []) : tokL (a ++ b) = (tokL a && tokL b) := by
  unfold tokL
  cases a with
  | nil => exact absurd rfl ha
  | cons x a =>
    cases b with
    | nil => exact absurd rfl hb
    | cons y b => simp [Bool.and_assoc]
theorem lower_some (a : ByteArray) (h : a.size < 140737488355328) : mimetype_Lower.f a = some (lowB a) := by unfold mimetype_Lower.f; rw [if_pos h]
theorem lowB_size (a : ByteArray) : (lowB a).size = a.size := by
  show (lowL a.data.toList).toArray.size = a.data.size
  simp [lowL]
theorem tokens_j0 (a b : ByteArray) (ha : a.size ≤ 1048576) (hb : b.size ≤ 1048576) : Ev (fun k => winklelaw13_MimetypeTokens.j0 k a b (tokL a.data.toList) false) true := by
  have h1 := lower_some a (by omega)
  have h2 := lower_some (lowB a) (by rw [lowB_size]; omega)
  have h3 := lower_some (a ++ b) (by simp; omega)
  have h4 := lower_some b (by omega)
  have s1 := lowB_size a
  have s2 := lowB_size b
  refine Ev.step (f := fun k => (mimetype_Token.f k (lowB a)).bind fun t467 => (if (t467 == tokL a.data.toList) = true then ((winklelaw13_awake.f k).bind fun t470 => (some t470)) else (some false))) (fun k => ?_) ?_
  · rw [winklelaw13_MimetypeTokens.j0, if_neg (by simp), h1, Option.bind_some, h2, Option.bind_some, if_pos, if_pos (by rw [s1]), h3, h4]
    · congr 1
      funext t467
      rw [if_pos (show a.size + b.size ≤ 9223372036854775807 by omega), Option.bind_some, Option.bind_some, if_pos (show (lowB a).size + (lowB b).size ≤ 9223372036854775807 by omega), if_pos (show (lowB (a ++ b)).toList = (lowB a ++ lowB b).toList by rw [ByteArray.toList_eq, ByteArray.toList_eq]; simp [lowB, lowL])]
    · rw [ByteArray.toList_eq, ByteArray.toList_eq]
      exact lowL_low _
  · refine Ev.bind (f := fun k t467 => _) (mimetype_Token.ev (lowB a) (by omega)) ?_
    refine Ev.congr (fun k => if_pos ?_) (Ev.bind (f := fun _ t => some t) awake13_ev (Ev.now _))
    rw [show (lowB a).data.toList = lowL a.data.toList from rfl, tokL_low]
    exact beq_self_eq_true _
theorem MimetypeTokens : winklelaw13_MimetypeTokens.Pure := by
  intro a b ha hb
  have hJ := tokens_j0 a b ha hb
  have : Ev (fun k => winklelaw13_MimetypeTokens.f k a b) true := by
    unfold winklelaw13_MimetypeTokens.f
    refine Ev.bind (f := fun k t462 => _) (mimetype_Token.ev a (by omega)) ?_
    refine Ev.bind (f := fun k t463 => _) (mimetype_Token.ev b (by omega)) ?_
    by_cases h1 : a.toList = []
    · exact Ev.congr (fun k => if_pos h1) hJ
    · refine Ev.congr (fun k => if_neg h1) ?_
      by_cases h2 : b.toList = []
      · exact Ev.congr (fun k => if_pos h2) hJ
      · refine Ev.congr (fun k => if_neg h2) ?_
        refine Ev.congr (fun k => if_pos (by omega)) ?_
        refine Ev.bind (f := fun k t464 => _) (mimetype_Token.ev (a ++ b) (by simp; omega)) ?_
        rw [ByteArray.toList_eq] at h1 h2
        have e : tokL (a ++ b).data.toList = (tokL a.data.toList && tokL b.data.toList) := by
          rw [← tokL_app _ _ h1 h2]; simp
        rw [e]
        by_cases h3 : tokL a.data.toList = true
        · refine Ev.congr (fun k => if_pos h3) ?_
          rw [h3] at hJ ⊢
          simpa using hJ
        · refine Ev.congr (fun k => if_neg h3) ?_
          have h4 : tokL a.data.toList = false := by simpa using h3
          rw [h4] at hJ ⊢
          simpa using hJ
  exact this.rounds
end Go.Proofs.Ytodidfdfbanliaa.Pure
