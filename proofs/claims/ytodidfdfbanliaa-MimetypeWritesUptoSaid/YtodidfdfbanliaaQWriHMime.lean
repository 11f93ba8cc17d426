/- MimetypeBack and MimetypeWrites, the plain laws, where the arguments' bulk is small. -/
import Derived.Test.YtodidfdfbanliaaQWriHTextM
import Derived.Test.YtodidfdfbanliaaQWriHText
import Derived.Test.YtodidfdfbanliaaQWriHPlan
import Derived.Test.YtodidfdfbanliaaQWriHSame
import Derived.Test.YtodidfdfbanliaaQWriHAwakeM
import Derived.Test.YtodidfdfbanliaaQWriPAllx0
import Derived.Test.YtodidfdfbanliaaQWriFFields
import Derived.Test.YtodidfdfbanliaaQWriFText
import Derived.Test.YtodidfdfbanliaaQWriFAwakeM
import Derived.Test.YtodidfdfbanliaaQWriHType
import Derived.Test.YtodidfdfbanliaaQWriLMimetypeWrites
set_option linter.unusedVariables false
set_option linter.unusedSimpArgs false
namespace Go.Proofs.Ytodidfdfbanliaa.PAll
open Go.RowKit Go.Proofs.YtodidfdfbanliaaW.PrintWords Go.Proofs.YtodidfdfbanliaaW.PrintLast Go.Proofs.YtodidfdfbanliaaW.PrintMore
theorem awakeM_end : Ev (fun k => (winklelaw13_awake.f k).bind fun t => some t) true := Ev.bind (f := fun _ t => some t) awake13_ev (Ev.now _)
theorem txt_same (m u : ByteArray) (l : List S42) : textR m u l = txtR m u l := by
  unfold textR txtR textB textL textTo
  rw [List.take_length]
  have e : textOk m u l = goodT m u l := rfl
  have e2 : l.flatMap paramW = parsL l := rfl
  rw [e, e2]
theorem sum_le (l : List S42) (hp : ∀ f ∈ l, f.f0.size ≤ 1048576 ∧ f.f1.size ≤ 1048576) : (l.map fun f => f.f0.size + 2 * f.f1.size + 5).sum ≤ l.length * 3145733 := by
  induction l with
  | nil => simp
  | cons p l ih =>
    have h1 := hp p (by simp)
    have h2 := ih (fun q hq => hp q (by simp [hq]))
    rw [List.map_cons, List.sum_cons, List.length_cons, Nat.succ_mul]
    omega
theorem writes_pure (m u : ByteArray) (l : List S42) (n : ByteArray) (hm : m.size ≤ 1048576) (hu : u.size ≤ 1048576) (hl : l.length ≤ 1048576) (hp : ∀ f ∈ l, f.f0.size ≤ 1048576 ∧ f.f1.size ≤ 1048576) (hn : n.size ≤ 1048576) : ∃ k, winklelaw13_MimetypeWrites.f k m u l n = some true := by
  have ht := text_ev m u l (by omega) (by omega) (by omega) (fun p h2 => ⟨by have := (hp p h2).1; omega, by have := (hp p h2).2; omega⟩)
  have hs := sum_le l hp
  have hT : winkleref13_Text.f m u l = some (txtR m u l) := by
    unfold winkleref13_Text.f textMax
    rw [if_pos (by omega), txt_same]
  have : Ev (fun k => winklelaw13_MimetypeWrites.f k m u l n) true := by
    unfold winklelaw13_MimetypeWrites.f
    simp only [Option.bind_some, List.length_nil, List.nil_append]
    refine Ev.congr (fun k => if_pos (by omega)) ?_
    refine Ev.bind (f := fun k bt373 => _) ht ?_
    rw [hT]
    simp only [Option.bind_some]
    refine Ev.bind (f := fun k bt377 => _) (paramM_ev m u l n (by omega) (by omega)) ?_
    refine Ev.bind (f := fun k bt379 => _) (paramR13_ev m u l n (by omega) (by omega)) ?_
    simp only [if_true, beq_self_eq_true]
    refine Ev.bind (f := fun k t381 => _) (fields_same l (by omega)) ?_
    exact Ev.congr (fun k => if_pos rfl) awakeM_end
  exact this.rounds
end Go.Proofs.Ytodidfdfbanliaa.PAll
