/- MimetypeForms, where the text has at most 2^20 bytes: what is read is written in one form, and read back as the same. -/
import Derived.Test.YtodidfdfbanliaaLMimetypeForms
import Derived.Test.YtodidfdfbanliaaHTextM
import Derived.Test.YtodidfdfbanliaaHSame
import Derived.Test.YtodidfdfbanliaaHAwakeM
set_option linter.unusedVariables false
set_option linter.unusedSimpArgs false
namespace Go.Proofs.Ytodidfdfbanliaa.Pure
open Go.RowKit Go.Proofs.Ytodidfdfbanliaa.PAll Go.Proofs.YtodidfdfbanliaaW.PrintWords Go.Proofs.YtodidfdfbanliaaW.PrintLast

theorem ty_some (s : ByteArray) (h : s.size ≤ 4398046511104) : mimetype_Type.f s = some (typeR s) := by unfold mimetype_Type.f; rw [if_pos h]
theorem MimetypeForms : winklelaw13_MimetypeForms.Pure := by
  intro a0 h
  have hT := ty_some a0 (by omega)
  have hA : Ev (fun k => (winklelaw13_awake.f k).bind fun t412 => some t412) true := Ev.bind (f := fun _ t => some t) awake13_ev (Ev.now _)
  have : Ev (fun k => winklelaw13_MimetypeForms.f k a0) true := by
    unfold winklelaw13_MimetypeForms.f
    rw [hT]
    simp only [Option.bind_some]
    unfold typeR
    cases hg : typeGo a0 with
    | none =>
      have e0 : (⟨#[]⟩ : ByteArray).toList = [] := by rw [ByteArray.toList_eq]
      simp only [Bool.false_eq_true, if_false, e0, if_true, List.length_nil]
      exact hA
    | some r =>
      obtain ⟨hm, hu, hl, hp⟩ := type_sizes hg
      have hgood := type_good hg
      have hx := textB_size r.1 r.2.1 r.2.2
      have hpl := parsL_len 1048576 r.2.2 (fun p h2 => ⟨by have := (hp p h2).1; omega, by have := (hp p h2).2; omega⟩)
      have ht := text_ev r.1 r.2.1 r.2.2 (by omega) (by omega) (by omega) (fun p h2 => ⟨by have := (hp p h2).1; omega, by have := (hp p h2).2; omega⟩)
      unfold textR at ht
      rw [if_pos hgood] at ht
      have hX : mimetype_Type.f (textB r.1 r.2.1 r.2.2) = some (r.1, r.2.1, r.2.2, true) := by
        rw [ty_some _ (by omega)]
        unfold typeR
        rw [type_back _ _ _ hgood]
      refine Ev.congr (fun k => if_pos rfl) ?_
      refine Ev.bind (f := fun k bt413 => _) ht ?_
      simp only []
      rw [hX]
      simp only [Option.bind_some]
      refine Ev.bind (f := fun k bt422 => _) ht ?_
      simp only [if_true]
      refine Ev.bind (f := fun k t424 => _) (fields_same r.2.2 (by omega)) ?_
      exact Ev.congr (fun k => if_pos rfl) hA
  exact this.rounds
end Go.Proofs.Ytodidfdfbanliaa.Pure
