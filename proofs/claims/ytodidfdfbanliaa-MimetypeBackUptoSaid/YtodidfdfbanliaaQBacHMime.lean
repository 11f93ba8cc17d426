/- MimetypeBack and MimetypeWrites, the plain laws, where the arguments' bulk is small. -/
import Derived.Lib.Hide
import Derived.Outline
import Derived.Lib.FrozenHead2
import Derived.Lib.ConvBytes
import Derived.Test.YtodidfdfbanliaaQBacHTextM
import Derived.Test.YtodidfdfbanliaaQBacHPure
import Derived.Test.YtodidfdfbanliaaQBacPAllx0
import Derived.Test.YtodidfdfbanliaaQBacHSem1
import Derived.Test.YtodidfdfbanliaaQBacFLow
import Derived.Test.YtodidfdfbanliaaQBacHSemP
import Derived.Test.YtodidfdfbanliaaQBacFParamM
import Derived.Test.YtodidfdfbanliaaQBacHShelf
import Derived.Test.YtodidfdfbanliaaQBacHType
import Derived.Test.YtodidfdfbanliaaQBacHSame
import Derived.Test.YtodidfdfbanliaaQBacHAwakeM
import Derived.Test.YtodidfdfbanliaaQBacLMimetypeBack
import Derived.Test.YtodidfdfbanliaaQBacFFields
import Derived.Test.YtodidfdfbanliaaQBacFText
import Derived.Test.YtodidfdfbanliaaQBacFAwakeM
set_option linter.unusedVariables false
set_option linter.unusedSimpArgs false
namespace Go.Proofs.Ytodidfdfbanliaa.PAll
open Go.RowKit Go.Proofs.YtodidfdfbanliaaW.PrintWords Go.Proofs.YtodidfdfbanliaaW.PrintLast Go.Proofs.YtodidfdfbanliaaW.PrintMore
theorem type_some (s : ByteArray) (h : s.size ≤ 4398046511104) : mimetype_Type.f s = some (typeR s) := by unfold mimetype_Type.f; rw [if_pos h]
theorem awakeM_end : Ev (fun k => (winklelaw13_awake.f k).bind fun t => some t) true := Ev.bind (f := fun _ t => some t) awake13_ev (Ev.now _)
theorem text_bound (m u : ByteArray) (l : List S42) (hm : m.size ≤ 1048576) (hu : u.size ≤ 1048576) (hl : l.length ≤ 1048576) (hp : ∀ f ∈ l, f.f0.size ≤ 1048576 ∧ f.f1.size ≤ 1048576) : (textB m u l).size ≤ 4398046511104 := by
  have h1 := textB_size m u l
  have h2 := parsL_len 1048576 l hp
  omega
theorem back_pure (m u : ByteArray) (l : List S42) (hm : m.size ≤ 1048576) (hu : u.size ≤ 1048576) (hl : l.length ≤ 1048576) (hp : ∀ f ∈ l, f.f0.size ≤ 1048576 ∧ f.f1.size ≤ 1048576) : ∃ k, winklelaw13_MimetypeBack.f k m u l = some true := by
  have ht := text_ev m u l (by omega) (by omega) (by omega) (fun p h2 => ⟨by have := (hp p h2).1; omega, by have := (hp p h2).2; omega⟩)
  have hb := text_bound m u l hm hu hl hp
  have : Ev (fun k => winklelaw13_MimetypeBack.f k m u l) true := by
    unfold winklelaw13_MimetypeBack.f
    refine Ev.bind (f := fun k bt393 => _) ht ?_
    unfold txtR
    by_cases hg : goodT m u l = true
    · rw [if_pos hg]
      have hT : mimetype_Type.f (textB m u l) = some (m, u, l, true) := by
        rw [type_some _ hb]
        unfold typeR
        rw [type_back m u l hg]
      simp only [if_true]
      rw [hT]
      simp only [Option.bind_some, if_true]
      refine Ev.bind (f := fun k t402 => _) (fields_same l (by omega)) ?_
      exact Ev.congr (fun k => if_pos rfl) awakeM_end
    · rw [if_neg hg]
      have e0 : (⟨#[]⟩ : ByteArray).toList = [] := by rw [ByteArray.toList_eq]
      simp only [Bool.false_eq_true, if_false, e0, if_true]
      exact awakeM_end
  exact this.rounds
end Go.Proofs.Ytodidfdfbanliaa.PAll
