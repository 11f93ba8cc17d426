/- The reference's Same and Get, in plain words. -/
import Derived.Test.YtodidfdfbanliaaQEplFGet
import Derived.Test.YtodidfdfbanliaaQEplHGet
import Derived.Test.YtodidfdfbanliaaQEplHSem1
set_option linter.unusedVariables false
namespace Go.Proofs.Ytodidfdfbanliaa.PAll
open Go.RowKit Go.Proofs.YtodidfdfbanliaaW.PrintWords Go.Proofs.YtodidfdfbanliaaW.PrintLast
theorem winkleref12_Same.l0_ev (a b : ByteArray) (ha : a.size ≤ 9223372036854775807) (hb : a.size = b.size) (d : Nat) : ∀ i : Nat, i ≤ a.size → a.size - i = d →
    Ev (fun k => winkleref12_Same.l0 k a b (i : Int)) (sameL (a.data.toList.drop i) (b.data.toList.drop i)) := by
  induction d with
  | zero =>
    intro i hi hd
    refine Ev.step (f := fun _ => some (sameL (a.data.toList.drop i) (b.data.toList.drop i))) (fun k => ?_) (Ev.now _)
    simp only [winkleref12_Same.l0]; rw [if_neg (by omega)]
    rw [List.drop_of_length_le (by simp; omega), List.drop_of_length_le (by simp; omega)]; rfl
  | succ d ih =>
    intro i hi hd
    have hlt : i < a.size := by omega
    have hlt2 : i < b.size := by omega
    refine Ev.step (f := fun k => if ((lowC a[i]).toNat : Int) = ((lowC b[i]).toNat : Int) then winkleref12_Same.l0 k a b ((i + 1 : Nat) : Int) else some false) (fun k => ?_) ?_
    · simp only [winkleref12_Same.l0]
      rw [if_pos (by omega), if_pos (by omega), bt_nat a i hlt, bt_nat b i hlt2, winkleref12_Low.is, winkleref12_Low.is, wrap_succ i a.size hlt (by omega), Option.bind_some, if_pos (by omega), Option.bind_some]
    · rw [drop_cons_at a i hlt, drop_cons_at b i hlt2]
      simp only [u8_low_or]
      by_cases h : lowC a[i] = lowC b[i]
      · have e : sameL (a[i] :: a.data.toList.drop (i + 1)) (b[i] :: b.data.toList.drop (i + 1)) = sameL (a.data.toList.drop (i + 1)) (b.data.toList.drop (i + 1)) := by simp [sameL, lowL, h]
        simp only [h, if_true, e]
        exact ih (i + 1) (by omega) (by omega)
      · have e : sameL (a[i] :: a.data.toList.drop (i + 1)) (b[i] :: b.data.toList.drop (i + 1)) = false := by simp [sameL, lowL, h]
        simp only [h, if_false, e]
        exact Ev.now false
theorem winkleref12_Same.ev (a b : ByteArray) (ha : a.size ≤ 9223372036854775807) : Ev (fun k => winkleref12_Same.f k a b) (sameL a.data.toList b.data.toList) := by
  unfold winkleref12_Same.f
  by_cases h : a.size = b.size
  · refine Ev.congr (f := fun k => winkleref12_Same.l0 k a b 0) (fun k => if_pos (by omega)) ?_
    simpa using winkleref12_Same.l0_ev a b ha h a.size 0 (by omega) (by omega)
  · rw [sameL_len a b h]
    exact Ev.congr (f := fun k => some false) (fun k => if_neg (by omega)) (Ev.now false)
theorem winkleref12_Get.l0_ev (l : List S42) (a : ByteArray) (hl : l.length ≤ 9223372036854775807) (hs : ∀ f ∈ l, f.f0.size ≤ 9223372036854775807) (d : Nat) : ∀ i : Nat, i ≤ l.length → l.length - i = d →
    Ev (fun k => winkleref12_Get.l0 k l a (i : Int)) (getL (l.drop i) a) := by
  induction d with
  | zero =>
    intro i hi hd
    refine Ev.step (f := fun _ => some (getL (l.drop i) a)) (fun k => ?_) (Ev.now _)
    simp only [winkleref12_Get.l0]; rw [if_neg (by omega), List.drop_of_length_le (by omega)]; rfl
  | succ d ih =>
    intro i hi hd
    have hlt : i < l.length := by omega
    have hrd : rd_T42 l (i : Int) = l[i] := by simp [rd_T42, List.getD_eq_getElem?_getD, hlt]
    have e0 : getL (l.drop i) a = if isName a l[i] = true then (l[i].f1, true) else getL (l.drop (i + 1)) a := by
      rw [List.drop_eq_getElem_cons hlt]
      unfold getL
      rw [List.find?_cons]
      cases isName a l[i] <;> rfl
    refine Ev.step (f := fun k => (winkleref12_Same.f k l[i].f0 a).bind fun t => if t = true then some (l[i].f1, true) else winkleref12_Get.l0 k l a ((i + 1 : Nat) : Int)) (fun k => ?_) ?_
    · simp only [winkleref12_Get.l0]
      rw [if_pos (by omega), if_pos (by omega), hrd, wrap_succ i l.length hlt (by omega)]
    · refine Ev.bind (winkleref12_Same.ev l[i].f0 a (hs _ (List.getElem_mem _))) ?_
      rw [e0]
      show Ev (fun k => if isName a l[i] = true then some (l[i].f1, true) else winkleref12_Get.l0 k l a ((i + 1 : Nat) : Int)) _
      by_cases h : isName a l[i] = true
      · simp only [h, if_true]
        exact Ev.now _
      · simp only [h]
        exact ih (i + 1) (by omega) (by omega)
theorem winkleref12_Get.ev (l : List S42) (a : ByteArray) (hl : l.length ≤ 9223372036854775807) (hs : ∀ f ∈ l, f.f0.size ≤ 9223372036854775807) : Ev (fun k => winkleref12_Get.f k l a) (getL l a) := by
  have := winkleref12_Get.l0_ev l a hl hs l.length 0 (by omega) (by omega)
  simpa [winkleref12_Get.f] using this
end Go.Proofs.Ytodidfdfbanliaa.PAll
