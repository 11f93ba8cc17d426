/- What both sides' Plan comes to: the same. -/
import Derived.Lib.Hide
import Derived.Outline
import Derived.Test.YtodidfdfbanliaaQWriHType
import Derived.Test.YtodidfdfbanliaaQWriHSem1
import Derived.Test.YtodidfdfbanliaaQWriPAllx0
import Derived.Test.YtodidfdfbanliaaQWriFLow
import Derived.Test.YtodidfdfbanliaaQWriFParam
import Derived.Test.YtodidfdfbanliaaQWriFParamM
import Derived.Test.YtodidfdfbanliaaQWriHShelf
set_option linter.unusedVariables false
set_option linter.unusedSimpArgs false
namespace Go.Proofs.Ytodidfdfbanliaa.PAll
open Go.RowKit Go.Proofs.YtodidfdfbanliaaW.PrintWords Go.Proofs.YtodidfdfbanliaaW.PrintLast Go.Proofs.YtodidfdfbanliaaW.PrintMore
def isPar (n : ByteArray) (p : S42) : Bool := p.f0.data.toList == lowL n.data.toList
def paramR (l : List S42) (n : ByteArray) : ByteArray × Bool := match l.find? (isPar n) with | some p => (p.f1, true) | none => (⟨#[]⟩, false)
theorem rdT_at (l : List S42) (k : Nat) (h : k < l.length) : rd_T42 l (k : Int) = l[k] := by
  simp [rd_T42, List.getD_eq_getElem?_getD, List.getElem?_eq_getElem h]
theorem paramR_step (l : List S42) (n : ByteArray) (i : Nat) (h : i < l.length) : paramR (l.drop i) n = if isPar n l[i] = true then (l[i].f1, true) else paramR (l.drop (i + 1)) n := by
  unfold paramR
  rw [List.drop_eq_getElem_cons h, List.find?_cons]
  cases isPar n l[i] <;> simp
theorem isPar_iff (n : ByteArray) (p : S42) : (p.f0.toList = (lowB n).toList) ↔ isPar n p = true := by
  rw [ByteArray.toList_eq, ByteArray.toList_eq, show (lowB n).data.toList = lowL n.data.toList from rfl]
  unfold isPar
  rw [beq_iff_eq]
theorem paramM_l0_ev (l : List S42) (n : ByteArray) (hl : l.length ≤ 9223372036854775807) (d : Nat) : ∀ i : Nat, i ≤ l.length → l.length - i = d →
    Ev (fun k => mimetype_Param.l0 k (lowB n) l (l.length : Int) (i : Int)) (paramR (l.drop i) n) := by
  induction d with
  | zero =>
    intro i hi hd
    rw [List.drop_of_length_le (by omega)]
    refine Ev.step (f := fun _ => some (⟨#[]⟩, false)) (fun k => ?_) (Ev.now _)
    rw [mimetype_Param.l0, if_neg (by omega)]
  | succ d ih =>
    intro i hi hd
    have hlt : i < l.length := by omega
    have hi2 := ih (i + 1) (by omega) (by omega)
    have hW := Lib.hid (wrap_succ i l.length hlt hl)
    rw [paramR_step l n i hlt]
    refine Ev.step (f := fun k => if l[i].f0.toList = (lowB n).toList then some (l[i].f1, true) else mimetype_Param.l0 k (lowB n) l (l.length : Int) ((i + 1 : Nat) : Int)) (fun k => ?_) ?_
    · rw [mimetype_Param.l0, if_pos (by omega), if_pos (by omega), if_pos (by omega), rdT_at l i hlt, hW.out]
    · by_cases h : isPar n l[i] = true
      · rw [if_pos h]; exact Ev.congr (fun k => if_pos ((isPar_iff n l[i]).2 h)) (Ev.now _)
      · rw [if_neg h]; exact Ev.congr (fun k => if_neg (fun e => h ((isPar_iff n l[i]).1 e))) hi2
theorem paramM_ev (m u : ByteArray) (l : List S42) (n : ByteArray) (hl : l.length ≤ 9223372036854775807) (hn : n.size < 140737488355328) : Ev (fun k => mimetype_Param.f k m u l n) (paramR l n) := by
  have h := paramM_l0_ev l n hl l.length 0 (by omega) (by omega)
  rw [List.drop_zero] at h
  refine Ev.congr (fun k => ?_) h
  unfold mimetype_Param.f mimetype_Lower.f
  rw [if_pos hn, Option.bind_some]; rfl
theorem paramR13_l0_ev (m u : ByteArray) (l : List S42) (n : ByteArray) (hl : l.length ≤ 9223372036854775807) (hn : n.size < 140737488355328) (d : Nat) : ∀ i : Nat, i ≤ l.length → l.length - i = d →
    Ev (fun k => winkleref13_Param.l0 k n (i : Int) m u l) (paramR (l.drop i) n) := by
  induction d with
  | zero =>
    intro i hi hd
    rw [List.drop_of_length_le (by omega)]
    refine Ev.step (f := fun _ => some (⟨#[]⟩, false)) (fun k => ?_) (Ev.now _)
    rw [winkleref13_Param.l0, if_neg (by omega)]
  | succ d ih =>
    intro i hi hd
    have hlt : i < l.length := by omega
    have hi2 := ih (i + 1) (by omega) (by omega)
    have hW := Lib.hid (wrap_succ i l.length hlt hl)
    rw [paramR_step l n i hlt]
    refine Ev.step (f := fun k => (winkleref13_Lower.f k n).bind fun t363 => if l[i].f0.toList = t363.toList then some (l[i].f1, true) else winkleref13_Param.l0 k n ((i + 1 : Nat) : Int) m u l) (fun k => ?_) ?_
    · rw [winkleref13_Param.l0, if_pos (by omega), if_pos (by omega), rdT_at l i hlt, hW.out]
    · refine Ev.bind (f := fun k t363 => _) (winkleref13_Lower.ev n hn) ?_
      by_cases h : isPar n l[i] = true
      · rw [if_pos h]; exact Ev.congr (fun k => if_pos ((isPar_iff n l[i]).2 h)) (Ev.now _)
      · rw [if_neg h]; exact Ev.congr (fun k => if_neg (fun e => h ((isPar_iff n l[i]).1 e))) hi2
theorem paramR13_ev (m u : ByteArray) (l : List S42) (n : ByteArray) (hl : l.length ≤ 9223372036854775807) (hn : n.size < 140737488355328) : Ev (fun k => winkleref13_Param.f k m u l n) (paramR l n) := by
  have h := paramR13_l0_ev m u l n hl hn l.length 0 (by omega) (by omega)
  rw [List.drop_zero] at h
  exact h
end Go.Proofs.Ytodidfdfbanliaa.PAll
