/- What the reference's Encoding comes to. -/
import Derived.Test.YtodidfdfbanliaaQEplHSemT
import Derived.Test.YtodidfdfbanliaaQEplFEnc
set_option linter.unusedVariables false
set_option linter.unusedSimpArgs false
namespace Go.Proofs.Ytodidfdfbanliaa.PAll
open Go.RowKit Go.Proofs.YtodidfdfbanliaaW.PrintWords Go.Proofs.YtodidfdfbanliaaW.PrintLast Go.Proofs.YtodidfdfbanliaaW.PrintMore
theorem enc_j0_ev (x : ByteArray) (hx : x.size < 140737488355328) (h : x.data.toList ≠ []) : Ev (fun n => winkleref13_Encoding.j0 n x false) (codeOf x) := by
  rw [codeOf_chain x h]
  refine Ev.step (f := fun n => (winkleref13_Lower.f n x).bind fun t388 => (if t388.toList = ([98, 97, 115, 101, 54, 52] : List UInt8) then (some 1) else (if t388.toList = ([113, 117, 111, 116, 101, 100, 45, 112, 114, 105, 110, 116, 97, 98, 108, 101] : List UInt8) then (some 2) else (if t388.toList = ([55, 98, 105, 116] : List UInt8) then (some 0) else (if t388.toList = ([56, 98, 105, 116] : List UInt8) then (some 0) else (if t388.toList = ([98, 105, 110, 97, 114, 121] : List UInt8) then (some 0) else (some 3))))))) (fun n => ?_) ?_
  · rw [winkleref13_Encoding.j0, if_neg (by simp)]
  · refine Ev.bind (f := fun n t388 => _) (winkleref13_Lower.ev x hx) ?_
    rw [ByteArray.toList_eq]
    refine Ev.congr (fun n => ?_) (Ev.now _)
    show _ = some (if lowL x.data.toList = _ then _ else _)
    rw [show (lowB x).data.toList = lowL x.data.toList from rfl]
    repeat' split
    all_goals rfl
theorem encoding_ev (s : ByteArray) (hs : s.size < 140737488355328) : Ev (fun n => winkleref13_Encoding.f n s) (encodeR s) := by
  have h0 := between_ev s (by omega) 0
  rw [fromB_zero] at h0
  unfold winkleref13_Encoding.f encodeR encGo
  cases g0 : betP s 0 with
  | none =>
    rw [g0] at h0
    obtain ⟨x, hx⟩ := h0
    refine Ev.bind (f := fun k bt383 => _) hx ?_
    simpa using Ev.now _
  | some a =>
    rw [g0] at h0
    have ha := betP_le (by omega) g0
    have hsz := fromB_size s a
    refine Ev.bind (f := fun k bt383 => _) h0 ?_
    simp only [if_true, Option.bind_some]
    by_cases hlt : a < s.size
    · rw [if_pos hlt]
      refine Ev.congr (fun n => if_neg (by omega)) ?_
      have h1 := token_ev s (by omega) a ha
      cases g1 : tokGo s a with
      | none =>
        rw [g1] at h1
        obtain ⟨x, y, hx⟩ := h1
        refine Ev.bind (f := fun k bt385 => _) hx ?_
        refine Ev.step (f := fun _ => some 3) (fun n => ?_) (Ev.now _)
        simp only [Bool.false_eq_true, if_false]
        rw [winkleref13_Encoding.j0, if_pos rfl]
      | some m =>
        rw [g1] at h1
        refine Ev.bind (f := fun k bt385 => _) h1 ?_
        simp only [if_true]
        have hm := fromB_size s m.2
        by_cases h2 : m.2 < s.size
        · rw [if_pos h2]
          refine Ev.step (f := fun _ => some 3) (fun n => ?_) (Ev.now _)
          rw [decide_eq_true (by omega), winkleref13_Encoding.j0, if_pos rfl]
        · rw [if_neg h2]
          rw [decide_eq_false (by omega)]
          exact enc_j0_ev m.1 (by have := tokGo_size g1; omega) (tokGo_ne ha g1)
    · rw [if_neg hlt]
      refine Ev.congr (fun n => if_pos (by omega)) ?_
      simp only []
      rw [if_neg hlt]
      exact Ev.now _
end Go.Proofs.Ytodidfdfbanliaa.PAll
