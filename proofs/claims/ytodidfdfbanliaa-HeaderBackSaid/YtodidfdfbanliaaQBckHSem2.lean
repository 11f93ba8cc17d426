/- What the reference's Trim, Get, Fields and over come to, in plain words. -/
import Derived.Test.YtodidfdfbanliaaQBckHHead
import Derived.Test.YtodidfdfbanliaaQBckHSem1
import Derived.Test.YtodidfdfbanliaaQBckPAllx0
import Derived.Test.YtodidfdfbanliaaQBckFHead
set_option linter.unusedVariables false
set_option linter.unusedSimpArgs false
namespace Go.Proofs.Ytodidfdfbanliaa.PAll
open Go.RowKit Go.Proofs.YtodidfdfbanliaaW.PrintWords Go.Proofs.YtodidfdfbanliaaW.PrintLast Go.Proofs.YtodidfdfbanliaaW.PrintMore
def rtrimB (s : ByteArray) : ByteArray := ⟨(rtrimL s.data.toList).toArray⟩
theorem toList_snoc2 (t : ByteArray) (h0 : t.size ≠ 0) : t.data.toList = (t.extract 0 (t.size - 1)).data.toList ++ [t[t.size - 1]'(by omega)] := by
  rw [extract_toList, List.drop_zero, getElem_toList]
  have hl : t.data.toList.length = t.size := by simp
  have e : t.data.toList.take (t.size - 1 + 1) = t.data.toList.take (t.size - 1) ++ [t.data.toList[t.size - 1]'(by omega)] := List.take_succ_eq_append_getElem (by omega)
  rw [← e, List.take_of_length_le (by omega)]
theorem winkleref12_Trim.l1_ev (d : Nat) : ∀ s : ByteArray, s.size = d → s.size ≤ 9223372036854775807 → Ev (fun k => winkleref12_Trim.l1 k s) (rtrimB s) := by
  induction d with
  | zero =>
    intro s hd hs
    refine Ev.step (f := fun _ => some (rtrimB s)) (fun k => ?_) (Ev.now _)
    simp only [winkleref12_Trim.l1]; rw [if_neg (by omega)]
    congr 1
    apply ext_toList
    have : s.data.toList = [] := List.eq_nil_of_length_eq_zero (by simpa using hd)
    rw [rtrimB, this]; rfl
  | succ d ih =>
    intro s hd hs
    have hn0 : s.size ≠ 0 := by omega
    have hlt : s.size - 1 < s.size := by omega
    have hw : wrap64 ((s.size : Int) - 1) = ((s.size - 1 : Nat) : Int) := by unfold wrap64; omega
    have hsn := toList_snoc2 s hn0
    have hbi := by_bytes (p := fun i c => isBl c = (decide (i = 9) || decide (i = 32))) (by decide +kernel) (s[s.size - 1]'hlt)
    by_cases hb : isBl (s[s.size - 1]'hlt) = true
    · have e : rtrimB s = rtrimB (s.extract 0 (s.size - 1)) := by
        unfold rtrimB; rw [hsn, rtrimL_snoc_bl _ _ hb]
      refine Ev.step (f := fun k => winkleref12_Trim.l1 k (s.extract 0 (s.size - 1))) (fun k => ?_) (by rw [e]; exact ih _ (by simp; omega) (by simp; omega))
      rw [hb] at hbi
      simp only [winkleref12_Trim.l1]
      rw [if_pos (by omega), hw, if_pos (by omega), if_pos (by omega), bt_nat s _ hlt]
      by_cases h9 : ((s[s.size - 1]'hlt).toNat : Int) = 9
      · rw [if_pos h9, if_pos (by omega)]; rfl
      · rw [if_neg h9, if_pos (by simpa [h9] using hbi), if_pos (by omega)]; rfl
    · have hf : isBl (s[s.size - 1]'hlt) = false := by simpa using hb
      have e : rtrimB s = s := by
        apply ext_toList; unfold rtrimB; rw [hsn, rtrimL_snoc_no _ _ hf]
      rw [hf] at hbi
      have h2 := hbi.symm
      simp only [Bool.or_eq_false_iff, decide_eq_false_iff_not] at h2
      rw [e]
      refine Ev.step (f := fun _ => some s) (fun k => ?_) (Ev.now _)
      simp only [winkleref12_Trim.l1]
      rw [if_pos (by omega), hw, if_pos (by omega), if_pos (by omega), bt_nat s _ hlt, if_neg h2.1, if_neg h2.2]
theorem extract_one (s : ByteArray) : (s.extract 1 s.size).data.toList = s.data.toList.tail := by
  rw [extract_toList, List.take_of_length_le (by simp)]; simp
theorem winkleref12_Trim.ev (d : Nat) : ∀ s : ByteArray, s.size = d → s.size ≤ 9223372036854775807 → Ev (fun k => winkleref12_Trim.f k s) (trimB s) := by
  have hj : ∀ s : ByteArray, s.size ≤ 9223372036854775807 → Ev (fun k => winkleref12_Trim.j1 k s) (rtrimB s) := fun s hs =>
    Ev.step (f := fun k => winkleref12_Trim.l1 k s) (fun k => by simp only [winkleref12_Trim.j1]) (winkleref12_Trim.l1_ev _ s rfl hs)
  unfold winkleref12_Trim.f
  induction d with
  | zero =>
    intro s hd hs
    have e : trimB s = rtrimB s := by
      have : s.data.toList = [] := List.eq_nil_of_length_eq_zero (by simpa using hd)
      unfold trimB rtrimB trimL; rw [this]; rfl
    rw [e]
    refine Ev.step (f := fun k => winkleref12_Trim.j1 k s) (fun k => ?_) (hj s hs)
    simp only [winkleref12_Trim.l0]; rw [if_neg (by omega)]
  | succ d ih =>
    intro s hd hs
    have hlt : 0 < s.size := by omega
    have hc := drop_cons_at s 0 hlt
    rw [List.drop_zero] at hc
    have hbi := by_bytes (p := fun i c => isBl c = (decide (i = 9) || decide (i = 32))) (by decide +kernel) (s[0]'hlt)
    have hbt : bt s 0 = ((s[0]'hlt).toNat : Int) := bt_nat s 0 hlt
    by_cases hb : isBl (s[0]'hlt) = true
    · have e : trimB s = trimB (s.extract 1 s.size) := by
        unfold trimB trimL; rw [extract_one, hc, List.dropWhile_cons_of_pos hb]; rfl
      refine Ev.step (f := fun k => winkleref12_Trim.l0 k (s.extract 1 s.size)) (fun k => ?_) (by rw [e]; exact ih _ (by simp; omega) (by simp; omega))
      rw [hb] at hbi
      simp only [winkleref12_Trim.l0]
      rw [if_pos (by omega), if_pos (by omega), hbt]
      by_cases h9 : ((s[0]'hlt).toNat : Int) = 9
      · rw [if_pos h9, if_pos (by omega)]
      · rw [if_neg h9, if_pos (by simpa [h9] using hbi), if_pos (by omega)]
    · have hf : isBl (s[0]'hlt) = false := by simpa using hb
      have e : trimB s = rtrimB s := by
        unfold trimB rtrimB trimL; rw [hc, List.dropWhile_cons_of_neg (by simpa using hf)]
      rw [hf] at hbi
      have h2 := hbi.symm
      simp only [Bool.or_eq_false_iff, decide_eq_false_iff_not] at h2
      rw [e]
      refine Ev.step (f := fun k => winkleref12_Trim.j1 k s) (fun k => ?_) (hj s hs)
      simp only [winkleref12_Trim.l0]
      rw [if_pos (by omega), if_pos (by omega), hbt, if_neg h2.1, if_neg h2.2]
end Go.Proofs.Ytodidfdfbanliaa.PAll
