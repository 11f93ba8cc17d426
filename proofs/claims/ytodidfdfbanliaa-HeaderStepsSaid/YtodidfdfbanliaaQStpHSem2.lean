/- What the reference's Trim, Get, Fields and over come to, in plain words. -/
import Derived.Test.YtodidfdfbanliaaQStpHHead
import Derived.Test.YtodidfdfbanliaaQStpHSem1
import Derived.Test.YtodidfdfbanliaaQStpPAllx0
import Derived.Test.YtodidfdfbanliaaQStpFHead
import Derived.Test.YtodidfdfbanliaaQStpFRun
set_option linter.unusedVariables false
set_option linter.unusedSimpArgs false
namespace Go.Proofs.Ytodidfdfbanliaa.PAll
open Go.RowKit Go.Proofs.YtodidfdfbanliaaW.PrintWords Go.Proofs.YtodidfdfbanliaaW.PrintLast
def rtrimB (s : ByteArray) : ByteArray := ⟨(rtrimL s.data.toList).toArray⟩
theorem toList_snoc2 (t : ByteArray) (h0 : t.size ≠ 0) : t.data.toList = (t.extract 0 (t.size - 1)).data.toList ++ [t[t.size - 1]'(by omega)] := by
  rw [extract_toList, List.drop_zero, getElem_toList]
  have hl : t.data.toList.length = t.size := by simp
  have e : t.data.toList.take (t.size - 1 + 1) = t.data.toList.take (t.size - 1) ++ [t.data.toList[t.size - 1]'(by omega)] := List.take_succ_eq_append_getElem (by omega)
  rw [← e, List.take_of_length_le (by omega)]
theorem winkleref12_Trim.l1_ev (d : Nat) : ∀ s : ByteArray, s.size = d → s.size ≤ 9223372036854775807 → Ev (fun k => winkleref12_Trim.l1 k s) (rtrimB s) := by
  induction d with
  | zero =>
    intro s hd hs
    refine Ev.step (f := fun _ => some (rtrimB s)) (fun k => ?_) (Ev.now _)
    simp only [winkleref12_Trim.l1]; rw [if_neg (by omega)]
    congr 1
    apply ext_toList
    have : s.data.toList = [] := List.eq_nil_of_length_eq_zero (by simpa using hd)
    rw [rtrimB, this]; rfl
  | succ d ih =>
    intro s hd hs
    have hn0 : s.size ≠ 0 := by omega
    have hlt : s.size - 1 < s.size := by omega
    have hw : wrap64 ((s.size : Int) - 1) = ((s.size - 1 : Nat) : Int) := by unfold wrap64; omega
    have hsn := toList_snoc2 s hn0
    have hbi := by_bytes (p := fun i c => isBl c = (decide (i = 9) || decide (i = 32))) (by decide +kernel) (s[s.size - 1]'hlt)
    by_cases hb : isBl (s[s.size - 1]'hlt) = true
    · have e : rtrimB s = rtrimB (s.extract 0 (s.size - 1)) := by
        unfold rtrimB; rw [hsn, rtrimL_snoc_bl _ _ hb]
      refine Ev.step (f := fun k => winkleref12_Trim.l1 k (s.extract 0 (s.size - 1))) (fun k => ?_) (by rw [e]; exact ih _ (by simp; omega) (by simp; omega))
      rw [hb] at hbi
      simp only [winkleref12_Trim.l1]
      rw [if_pos (by omega), hw, if_pos (by omega), if_pos (by omega), bt_nat s _ hlt]
      by_cases h9 : ((s[s.size - 1]'hlt).toNat : Int) = 9
      · rw [if_pos h9, if_pos (by omega)]; rfl
      · rw [if_neg h9, if_pos (by simpa [h9] using hbi), if_pos (by omega)]; rfl
    · have hf : isBl (s[s.size - 1]'hlt) = false := by simpa using hb
      have e : rtrimB s = s := by
        apply ext_toList; unfold rtrimB; rw [hsn, rtrimL_snoc_no _ _ hf]
      rw [hf] at hbi
      have h2 := hbi.symm
      simp only [Bool.or_eq_false_iff, decide_eq_false_iff_not] at h2
      rw [e]
      refine Ev.step (f := fun _ => some s) (fun k => ?_) (Ev.now _)
      simp only [winkleref12_Trim.l1]
      rw [if_pos (by omega), hw, if_pos (by omega), if_pos (by omega), bt_nat s _ hlt, if_neg h2.1, if_neg h2.2]
theorem extract_one (s : ByteArray) : (s.extract 1 s.size).data.toList = s.data.toList.tail := by
  rw [extract_toList, List.take_of_length_le (by simp)]; simp
theorem winkleref12_Trim.ev (d : Nat) : ∀ s : ByteArray, s.size = d → s.size ≤ 9223372036854775807 → Ev (fun k => winkleref12_Trim.f k s) (trimB s) := by
  have hj : ∀ s : ByteArray, s.size ≤ 9223372036854775807 → Ev (fun k => winkleref12_Trim.j1 k s) (rtrimB s) := fun s hs =>
    Ev.step (f := fun k => winkleref12_Trim.l1 k s) (fun k => by simp only [winkleref12_Trim.j1]) (winkleref12_Trim.l1_ev _ s rfl hs)
  unfold winkleref12_Trim.f
  induction d with
  | zero =>
    intro s hd hs
    have e : trimB s = rtrimB s := by
      have : s.data.toList = [] := List.eq_nil_of_length_eq_zero (by simpa using hd)
      unfold trimB rtrimB trimL; rw [this]; rfl
    rw [e]
    refine Ev.step (f := fun k => winkleref12_Trim.j1 k s) (fun k => ?_) (hj s hs)
    simp only [winkleref12_Trim.l0]; rw [if_neg (by omega)]
  | succ d ih =>
    intro s hd hs
    have hlt : 0 < s.size := by omega
    have hc := drop_cons_at s 0 hlt
    rw [List.drop_zero] at hc
    have hbi := by_bytes (p := fun i c => isBl c = (decide (i = 9) || decide (i = 32))) (by decide +kernel) (s[0]'hlt)
    have hbt : bt s 0 = ((s[0]'hlt).toNat : Int) := bt_nat s 0 hlt
    by_cases hb : isBl (s[0]'hlt) = true
    · have e : trimB s = trimB (s.extract 1 s.size) := by
        unfold trimB trimL; rw [extract_one, hc, List.dropWhile_cons_of_pos hb]; rfl
      refine Ev.step (f := fun k => winkleref12_Trim.l0 k (s.extract 1 s.size)) (fun k => ?_) (by rw [e]; exact ih _ (by simp; omega) (by simp; omega))
      rw [hb] at hbi
      simp only [winkleref12_Trim.l0]
      rw [if_pos (by omega), if_pos (by omega), hbt]
      by_cases h9 : ((s[0]'hlt).toNat : Int) = 9
      · rw [if_pos h9, if_pos (by omega)]
      · rw [if_neg h9, if_pos (by simpa [h9] using hbi), if_pos (by omega)]
    · have hf : isBl (s[0]'hlt) = false := by simpa using hb
      have e : trimB s = rtrimB s := by
        unfold trimB rtrimB trimL; rw [hc, List.dropWhile_cons_of_neg (by simpa using hf)]
      rw [hf] at hbi
      have h2 := hbi.symm
      simp only [Bool.or_eq_false_iff, decide_eq_false_iff_not] at h2
      rw [e]
      refine Ev.step (f := fun k => winkleref12_Trim.j1 k s) (fun k => ?_) (hj s hs)
      simp only [winkleref12_Trim.l0]
      rw [if_pos (by omega), if_pos (by omega), hbt, if_neg h2.1, if_neg h2.2]
theorem rdS_at (l : List S42) (k : Nat) (h : k < l.length) : rd_T42 l (k : Int) = l[k] := by
  simp [rd_T42, List.getD_eq_getElem?_getD, List.getElem?_eq_getElem h]
/-- The values trimmed up to place i. -/
def trimTo (fs : List S42) (i : Nat) : List S42 := fs.mapIdx fun j f => if j < i then ⟨f.f0, trimB f.f1⟩ else f
theorem trimTo_zero (fs : List S42) : trimTo fs 0 = fs := by unfold trimTo; apply List.ext_getElem <;> simp
theorem trimTo_all (fs : List S42) : trimTo fs fs.length = trimF fs := by
  unfold trimTo trimF; apply List.ext_getElem
  · simp
  · intro i h1 h2
    have : i < fs.length := by simpa using h1
    simp [this]
theorem trimTo_set (fs : List S42) (i : Nat) (h : i < fs.length) : (trimTo fs i).set i ⟨fs[i].f0, trimB fs[i].f1⟩ = trimTo fs (i + 1) := by
  apply List.ext_getElem
  · simp [trimTo]
  · intro j h1 h2
    by_cases e : i = j
    · subst e; simp [trimTo]
    · simp only [trimTo, List.getElem_set, e, if_false, List.getElem_mapIdx]
      have : (j < i) ↔ (j < i + 1) := by omega
      simp only [this]
theorem winkleref12_Run_over.ev (fs : List S42) (a b : Int) (hl : fs.length ≤ 9223372036854775807) (hs : ∀ f ∈ fs, f.f1.size ≤ 9223372036854775807) : Ev (fun k => winkleref12_Run_over.f k fs a b) (trimF fs, a, b) := by
  have h : ∀ d : Nat, ∀ i : Nat, i ≤ fs.length → fs.length - i = d → Ev (fun k => winkleref12_Run_over.l0 k (i : Int) (trimTo fs i) a b) (trimF fs, a, b) := by
    intro d
    induction d with
    | zero =>
      intro i hi hd
      have hlen : (trimTo fs i).length = fs.length := by simp [trimTo]
      refine Ev.step (f := fun _ => some (trimF fs, a, b)) (fun k => ?_) (Ev.now _)
      simp only [winkleref12_Run_over.l0]; rw [if_neg (by omega)]
      rw [show i = fs.length from by omega, trimTo_all]
    | succ d ih =>
      intro i hi hd
      have hlen : (trimTo fs i).length = fs.length := by simp [trimTo]
      have hlt : i < fs.length := by omega
      have hat : rd_T42 (trimTo fs i) (i : Int) = fs[i] := by rw [rdS_at _ _ (by omega)]; simp [trimTo]
      refine Ev.step (f := fun k => (winkleref12_Trim.f k fs[i].f1).bind fun t => winkleref12_Run_over.l0 k ((i + 1 : Nat) : Int) ((trimTo fs i).set i ⟨fs[i].f0, t⟩) a b) (fun k => ?_) ?_
      · simp only [winkleref12_Run_over.l0]
        rw [if_pos (by omega), if_pos (by omega), hat, wrap_succ i fs.length hlt hl]; rfl
      · refine Ev.bind (f := fun k t => winkleref12_Run_over.l0 k ((i + 1 : Nat) : Int) ((trimTo fs i).set i ⟨fs[i].f0, t⟩) a b) (winkleref12_Trim.ev _ _ rfl (hs _ (List.getElem_mem hlt))) ?_
        rw [trimTo_set fs i hlt]
        exact ih (i + 1) (by omega) (by omega)
  have := h fs.length 0 (by omega) (by omega)
  rw [trimTo_zero] at this
  exact this
theorem over_calls (w w0 : World) (v : Value) (fs : List S42) (a b : Int) (hB : Below w0.heap.size w0 w) (hO : OwnF w w0.heap.size v fs) (hl : fs.length ≤ 9223372036854775807) (hs : ∀ f ∈ fs, f.f1.size ≤ 9223372036854775807) :
    Calls Try.prog 58 #[.agg #[v, .int .i64 a, .int .i64 b]] w fun e w' => ∃ v', e = .returned (.agg #[v', .int .i64 a, .int .i64 b]) ∧ OwnF w' w0.heap.size v' (trimF fs) ∧ Below w0.heap.size w0 w' ∧ Kept w w' (fun k => v.ownBlock = some k) := by
  obtain ⟨k, hk⟩ := (winkleref12_Run_over.ev fs a b hl hs).rounds
  refine (winkleref12_Run_over.calls k (fun k => v.ownBlock = some k) v fs a b _ _ _ w0 w hB (hO.toR _ (fun k hk => hk)) hk).mono ?_
  rintro e w' ⟨v', rfl, h1, h2, h3⟩
  exact ⟨v', rfl, OwnF.ofR h1, h2, h3⟩
end Go.Proofs.Ytodidfdfbanliaa.PAll
