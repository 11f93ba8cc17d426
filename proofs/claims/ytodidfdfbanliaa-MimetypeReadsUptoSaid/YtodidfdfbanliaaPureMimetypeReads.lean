/- MimetypeReads, where the text has at most 2^20 bytes: both read the same type. -/
import Derived.Test.YtodidfdfbanliaaLMimetypeReads
import Derived.Test.YtodidfdfbanliaaHSemT
import Derived.Test.YtodidfdfbanliaaHSame
import Derived.Test.YtodidfdfbanliaaHAwakeM
set_option linter.unusedVariables false
set_option linter.unusedSimpArgs false
namespace Go.Proofs.Ytodidfdfbanliaa.Pure
open Go.RowKit Go.Proofs.Ytodidfdfbanliaa.PAll Go.Proofs.YtodidfdfbanliaaW.PrintWords Go.Proofs.YtodidfdfbanliaaW.PrintLast

theorem parGo_len (N : Nat) : ∀ (s : ByteArray) (k : Nat) (r : List S42), parGo N s k = some r → r.length ≤ N := by
  induction N with
  | zero => intro s k r h; simp [parGo] at h; subst h; simp
  | succ N ih =>
    intro s k r h
    rw [parGo] at h
    split at h
    · obtain ⟨c, _, h⟩ := Option.bind_eq_some_iff.1 h
      obtain ⟨nm, _, h⟩ := Option.bind_eq_some_iff.1 h
      obtain ⟨f, _, h⟩ := Option.bind_eq_some_iff.1 h
      obtain ⟨v, _, h⟩ := Option.bind_eq_some_iff.1 h
      obtain ⟨q, hq, rfl⟩ := Option.map_eq_some_iff.1 h
      have := ih _ _ _ hq
      simp; omega
    · injection h with h; subst h; simp
theorem typeR_len (s : ByteArray) : (typeR s).2.2.1.length ≤ s.size + 1 := by
  unfold typeR
  cases h : typeGo s with
  | none => simp
  | some r =>
    unfold typeGo at h
    obtain ⟨a, _, h⟩ := Option.bind_eq_some_iff.1 h
    obtain ⟨m, _, h⟩ := Option.bind_eq_some_iff.1 h
    obtain ⟨c, _, h⟩ := Option.bind_eq_some_iff.1 h
    obtain ⟨u, _, h⟩ := Option.bind_eq_some_iff.1 h
    obtain ⟨q, hq, rfl⟩ := Option.map_eq_some_iff.1 h
    have := parGo_len _ _ _ _ hq
    simp only []; omega
theorem same13 (m u : ByteArray) (l : List S42) (hl : l.length ≤ 9223372036854775807) : Ev (fun k => winkleref13_Same.f k m u l m u l) true := by
  refine Ev.congr (f := fun k => (winkleref12_Fields.f k l l).bind fun t296 => some t296) (fun k => ?_) (Ev.bind (f := fun _ t => some t) (fields_same l hl) (Ev.now _))
  unfold winkleref13_Same.f
  rw [if_pos rfl, if_pos rfl]
theorem reads_tail (a0 : ByteArray) (R : ByteArray × ByteArray × List S42 × Bool) (h : a0.size ≤ 1048576) (hT : mimetype_Type.f a0 = some R) (hl : R.2.2.1.length ≤ 9223372036854775807) :
    Ev (fun k => (mimetype_Type.f a0).bind fun bt346 => ((winkleref13_Same.f k bt346.1 bt346.2.1 bt346.2.2.1 R.1 R.2.1 R.2.2.1).bind fun t353 => (if t353 = true then ((mimetype_Token.f k a0).bind fun t354 => ((winkleref13_Token.f k a0).bind fun t355 => (if (t354 == t355) = true then ((mimetype_Lower.f a0).bind fun t356 => ((winkleref13_Lower.f k a0).bind fun t357 => (if t356.toList = t357.toList then ((winklelaw13_awake.f k).bind fun t358 => (some t358)) else (some false)))) else (some false)))) else (some false)))) true := by
  rw [hT]
  simp only [Option.bind_some]
  refine Ev.bind (f := fun k t353 => _) (same13 R.1 R.2.1 R.2.2.1 hl) ?_
  refine Ev.congr (fun k => if_pos rfl) ?_
  refine Ev.bind (f := fun k t354 => _) (mimetype_Token.ev a0 (by omega)) ?_
  refine Ev.bind (f := fun k t355 => _) (winkleref13_Token.ev a0 (by omega)) ?_
  refine Ev.congr (fun k => if_pos (beq_self_eq_true _)) ?_
  have hL : mimetype_Lower.f a0 = some (lowB a0) := by unfold mimetype_Lower.f; rw [if_pos (by omega)]
  rw [hL]
  simp only [Option.bind_some]
  refine Ev.bind (f := fun k t357 => _) (winkleref13_Lower.ev a0 (by omega)) ?_
  refine Ev.congr (fun k => if_pos rfl) ?_
  exact Ev.bind (f := fun _ t => some t) awake13_ev (Ev.now _)
theorem reads_l0 (a0 m u : ByteArray) (R : ByteArray × ByteArray × List S42 × Bool) (h : a0.size ≤ 1048576) (hT : mimetype_Type.f a0 = some R) (hl : R.2.2.1.length ≤ 9223372036854775807) (d : Nat) : ∀ (i : Nat) (l : List S42), l.length ≤ 9223372036854775807 → i ≤ l.length → l.length - i = d →
    Ev (fun k => winklelaw13_MimetypeReads.l0 k a0 (i : Int) m u l R.1 R.2.1 R.2.2.1) true := by
  induction d with
  | zero =>
    intro i l hs hi hd
    refine Ev.step (fun k => ?_) (reads_tail a0 R h hT hl)
    rw [winklelaw13_MimetypeReads.l0, if_neg (by omega)]
  | succ d ih =>
    intro i l hs hi hd
    refine Ev.step (f := fun k => winklelaw13_MimetypeReads.l0 k a0 ((i + 1 : Nat) : Int) m u (l.set i ⟨⟨#[]⟩, ⟨#[]⟩⟩) R.1 R.2.1 R.2.2.1) (fun k => ?_) (ih (i + 1) _ (by simpa using hs) (by simp; omega) (by simp; omega))
    rw [winklelaw13_MimetypeReads.l0, if_pos (by omega), if_pos (by omega), wrap_succ i l.length (by omega) (by omega), Int.toNat_natCast]
theorem MimetypeReads : winklelaw13_MimetypeReads.Pure := by
  intro a0 h
  have ht := type_ev a0 (by omega)
  have hT : mimetype_Type.f a0 = some (typeR a0) := by unfold mimetype_Type.f; rw [if_pos (by omega)]
  have hl : (typeR a0).2.2.1.length ≤ 9223372036854775807 := by have := typeR_len a0; omega
  generalize typeR a0 = R at *
  have : Ev (fun k => winklelaw13_MimetypeReads.f k a0) true := by
    unfold winklelaw13_MimetypeReads.f
    rw [hT]
    simp only [Option.bind_some]
    refine Ev.bind (f := fun k bt337 => _) ht ?_
    refine Ev.congr (fun k => if_neg (by simp)) ?_
    refine Ev.bind (f := fun k t344 => _) (same13 R.1 R.2.1 R.2.2.1 hl) ?_
    refine Ev.step (fun k => ?_) (reads_l0 a0 R.1 R.2.1 R h hT hl R.2.2.1.length 0 R.2.2.1 hl (by omega) (by omega))
    rw [winklelaw13_MimetypeReads.j0, if_neg (by simp)]; rfl
  exact this.rounds
end Go.Proofs.Ytodidfdfbanliaa.Pure
