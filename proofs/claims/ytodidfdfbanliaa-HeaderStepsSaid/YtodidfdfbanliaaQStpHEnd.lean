/- A header's reader: End, Fields. -/
import Derived.Test.YtodidfdfbanliaaQStpHPut
set_option linter.unusedVariables false
set_option linter.unusedSimpArgs false
namespace Go.Proofs.Ytodidfdfbanliaa.PAll
open Go.RowKit Go.Proofs.YtodidfdfbanliaaW.PrintWords Go.Proofs.YtodidfdfbanliaaW.PrintLast
set_option maxHeartbeats 1000000 in
set_option maxRecDepth 100000 in
theorem end_done (base b : Nat) (most n : Int) (vl : Value) (L : List Int) (vf : Value) (fs : List S42) (why : Int) (w : World) (hR : RdAt w base b most n vl L vf fs true why) :
    Calls Try.prog 37 #[.pointer (some ⟨b, 0, none⟩)] w fun e w' => e = .returned (.int .i64 why) ∧ RdAt w' base b most n vl L vf fs true why ∧ Below base w w' := by
  have c4 := hR.cell4
  have c5 := hR.cell5
  have HR := Lib.hid hR
  clear hR
  go_enter Try.func37, Try.ntmps37
  go_wp2
  go_ret
  exact ⟨rfl, HR.out, Below.refl _ _⟩
set_option maxHeartbeats 1000000 in
set_option maxRecDepth 100000 in
theorem end_why (base b : Nat) (most n : Int) (vl : Value) (L : List Int) (vf : Value) (fs : List S42) (why : Int) (hw : why ≠ 0) (w : World) (hR : RdAt w base b most n vl L vf fs false why) :
    Calls Try.prog 37 #[.pointer (some ⟨b, 0, none⟩)] w fun e w' => e = .returned (.int .i64 why) ∧ RdAt w' base b most n vl L vf fs false why ∧ Below base w w' := by
  have c4 := hR.cell4
  have c5 := hR.cell5
  have tw : (why != 0) = true := by rw [bne_iff_ne]; exact hw
  have HR := Lib.hid hR
  clear hR hw
  go_enter Try.func37, Try.ntmps37
  go_wp2
  go_ret
  exact ⟨rfl, HR.out, Below.refl _ _⟩
set_option maxHeartbeats 1000000 in
set_option maxRecDepth 100000 in
theorem end_none (base b : Nat) (most n : Int) (vl : Value) (vf : Value) (fs : List S42) (w : World) (hR : RdAt w base b most n vl [] vf fs false 0) (hsz : ∀ f ∈ fs, f.f1.size ≤ 9223372036854775807) :
    Calls Try.prog 37 #[.pointer (some ⟨b, 0, none⟩)] w fun e w' => e = .returned (.int .i64 0) ∧ RdAt w' base b most n vl [] vf (trimF fs) true 0 ∧ Below base w w' := by
  have c2 := hR.cell2
  have c4 := hR.cell4
  have c5 := hR.cell5
  obtain ⟨A, c, hv⟩ := hR.2.2.1.form
  rw [hv] at c2
  have HC := Lib.hid (finish_calls base b most n vl [] vf fs false 0 w hR hsz)
  clear hR hv hsz
  go_enter Try.func37, Try.ntmps37
  go_wp2_with (fail)
  refine HC.out.mono ?_
  rintro e w3 ⟨rfl, hF, hG⟩
  have HF := Lib.hid hF
  have HG := Lib.hid hG
  have e5 := hF.cell5
  clear hF hG HC
  go_wp2
  go_ret
  exact ⟨rfl, HF.out, HG.out⟩
set_option maxHeartbeats 1000000 in
set_option maxRecDepth 100000 in
theorem end_line (base b : Nat) (most n : Int) (vl : Value) (L : List Int) (vf : Value) (fs : List S42) (w : World) (hL : L ≠ []) (hlen : L.length ≤ 65536) (hR : RdAt w base b most n vl L vf fs false 0) (h64 : fs.length ≤ 64) (hsz : ∀ f ∈ fs, f.f1.size + L.length ≤ 9223372036854775807)
    (hall : ∀ f ∈ (lineR fs (strOfNums L)).1, f.f1.size ≤ 9223372036854775807) :
    Calls Try.prog 37 #[.pointer (some ⟨b, 0, none⟩)] w fun e w' => e = .returned (.int .i64 (lineR fs (strOfNums L)).2) ∧ (∃ vl' vf', RdAt w' base b most n vl' [] vf' (if (lineR fs (strOfNums L)).2 = 0 then trimF (lineR fs (strOfNums L)).1 else (lineR fs (strOfNums L)).1) (decide ((lineR fs (strOfNums L)).2 = 0)) (lineR fs (strOfNums L)).2) ∧ Below base w w' := by
  have c2 := hR.cell2
  have c4 := hR.cell4
  have c5 := hR.cell5
  obtain ⟨A, c, hv⟩ := hR.2.2.1.form
  rw [hv] at c2
  have hpos : (0 : Int) < (L.length : Int) := by have : L.length ≠ 0 := fun e => hL (List.eq_nil_of_length_eq_zero e); omega
  have HC := Lib.hid (take_calls base b most n vl L vf fs false w hL (by omega) hR h64 (fun hne => by
    have hl : fs.length ≠ 0 := fun e => hne (List.eq_nil_of_length_eq_zero e)
    refine hsz _ ?_
    rw [List.getD_eq_getElem?_getD, List.getElem?_eq_getElem (by omega)]; exact List.getElem_mem _))
  clear hR hv hsz hL
  generalize lineR fs (strOfNums L) = q at *
  obtain ⟨fs', why⟩ := q
  go_enter Try.func37, Try.ntmps37
  go_wp2_with (fail)
  refine HC.out.mono ?_
  rintro e w3 ⟨rfl, vl3, vf3, hF, hG⟩
  have HF := Lib.hid hF
  have HG := Lib.hid hG
  have e5 := hF.cell5
  clear hG HC HF
  change ∀ f ∈ fs', f.f1.size ≤ 9223372036854775807 at hall
  change w3.cell? _ = some (.int .i64 why) at e5
  change RdAt w3 base b most n vl3 [] vf3 fs' false why at hF
  by_cases hw : why = 0
  · subst hw
    have HC2 := Lib.hid (finish_calls base b most n vl3 [] vf3 fs' false 0 w3 hF hall)
    clear hF hall
    go_wp2_with (fail)
    refine HC2.out.mono ?_
    rintro e w4 ⟨rfl, hF4, hG4⟩
    have HF4 := Lib.hid hF4
    have HG4 := Lib.hid (HG.out.trans hG4)
    have e54 := hF4.cell5
    clear hF4 hG4 HC2
    go_wp2
    go_ret
    exact ⟨rfl, ⟨_, _, HF4.out⟩, HG4.out⟩
  · have tw : (why == 0) = false := beq_eq_false_iff_ne.2 hw
    have HF3 := Lib.hid hF
    clear hF hall
    go_wp2
    go_ret
    refine ⟨rfl, ⟨vl3, vf3, ?_⟩, HG.out⟩
    first | exact HF3.out | (rw [if_neg hw, decide_eq_false hw]; exact HF3.out)
set_option maxHeartbeats 1000000 in
set_option maxRecDepth 100000 in
theorem clone_calls (base : Nat) (v : Value) (fs : List S42) (h64 : fs.length ≤ 64) (w : World) (hO : OwnF w base v fs) :
    Calls Try.prog 67 #[v] w fun e w' => ∃ v', e = .returned v' ∧ OwnF w' w.heap.size v' fs ∧ Below w.heap.size w w' := by
  obtain ⟨A, c, rfl⟩ := hO.form
  cases A with
  | none =>
    have hz : fs = [] := by
      rcases hO.2 with ⟨hv, h0⟩ | ⟨g, cap, cur, hv, _⟩
      · exact List.eq_nil_of_length_eq_zero h0
      · injection hv with hv; cases hv
    subst hz
    clear hO
    have hn := fun W => Lib.run_eql_slice_nil (P := Try.prog) W 23 42 none 0 c 0 0 Try.underlying23
    go_enter Try.func67, Try.ntmps67
    go_wp2
    go_ret
    exact ⟨_, rfl, OwnF.nil _ _, Below.refl _ _⟩
  | some a =>
    have ha : ∃ g, a = ⟨g, 0, none⟩ := by
      rcases hO.2 with ⟨hv, h0⟩ | ⟨g, cap, cur, hv, _⟩
      · cases hv
      · injection hv with hv; injection hv with hv; exact ⟨g, hv⟩
    obtain ⟨g, rfl⟩ := ha
    have hn : ∀ W, (binOp .eql 23 (.slice (some ⟨g, 0, none⟩) fs.length c) (.slice none 0 0)).run Try.prog W = .ok (.bool false) W := fun W => Lib.run_eql_slice_nil (P := Try.prog) W 23 42 (some ⟨g, 0, none⟩) fs.length c 0 0 Try.underlying23
    obtain ⟨i0, hi, hz0, hz1, hz2⟩ := info_parts info42
    have ha : Below w.heap.size w (w.alloc (.cells #[] 42)) := (Below.refl _ w).alloc (Nat.le_refl _) _
    have ho0 : (w.alloc (.cells #[] 42)).ownsRow w.heap.size 42 2 (.slice (some ⟨w.heap.size, 0, none⟩) 0 0) 0 [] := owns_start (Nat.le_refl _) (heap_alloc_new w _) (by decide) rfl
    have hO1 : OwnF (w.alloc (.cells #[] 42)) base (.slice (some ⟨g, 0, none⟩) fs.length c) fs := hO.below ha
    have hone : ∀ u ∈ fcells fs, u.oneCell' = true := by
      intro u hu
      simp only [fcells, List.mem_flatMap] at hu
      obtain ⟨f, _, hu⟩ := hu
      simp at hu
      rcases hu with rfl | rfl <;> rfl
    have HN := Lib.hid hone
    have HW := Lib.hid (World.ownsRow.cells hO1 (g := g) rfl)
    have HO0 := Lib.hid ho0
    have HA := Lib.hid ha
    clear hO hO1 ho0 ha hone
    go_enter Try.func67, Try.ntmps67
    go_wp2_with (at_builtin; go_loud (refine wpList_append_own_at (w.alloc (.cells #[] 42)) rfl _ _ 23 rfl w.heap.size 42 i0 _ 2 32 Try.underlying23 hi hz0 hz1 hz2 rfl (by decide) _ 0 [] rfl HO0.out ⟨g, 0, none⟩ fs.length c (fcells fs) rfl (fcells_length fs) HW.out HN.out (by unfold maxLen; omega) (by omega) (by simp) ?_; intro v1 w1 hown hg _ hat; rw [Nat.zero_add, List.nil_append] at hown; have HO1 := Lib.hid (show OwnF w1 w.heap.size v1 fs from hown); have HB1 := Lib.hid (HA.out.grown hg (by simp) (fun k hk => (HO0.out.lt k hk).1)); clear hown hg hat))
    go_wp2
    go_ret
    exact ⟨_, rfl, HO1.out, HB1.out⟩
set_option maxHeartbeats 1000000 in
set_option maxRecDepth 100000 in
theorem fields_done (base b : Nat) (most n : Int) (vl : Value) (L : List Int) (vf : Value) (fs : List S42) (why : Int) (h64 : fs.length ≤ 64) (w : World) (hR : RdAt w base b most n vl L vf fs true why) :
    Calls Try.prog 36 #[.pointer (some ⟨b, 0, none⟩)] w fun e w' => ∃ v', e = .returned v' ∧ OwnF w' w.heap.size v' fs ∧ Below w.heap.size w w' := by
  have c3 := hR.cell3
  have c4 := hR.cell4
  obtain ⟨A, c, hv⟩ := hR.2.2.2.form
  rw [hv] at c3
  have HC := Lib.hid (clone_calls base vf fs h64 w hR.2.2.2)
  rw [hv] at HC
  clear hR hv
  go_enter Try.func36, Try.ntmps36
  go_wp2_with (fail)
  refine HC.out.mono ?_
  rintro e w3 ⟨v3, rfl, hF, hG⟩
  have HF := Lib.hid hF
  have HG := Lib.hid hG
  clear hF hG HC
  go_wp2
  go_ret
  exact ⟨_, rfl, HF.out, HG.out⟩
set_option maxHeartbeats 1000000 in
set_option maxRecDepth 100000 in
theorem fields_not (base b : Nat) (most n : Int) (vl : Value) (L : List Int) (vf : Value) (fs : List S42) (why : Int) (w : World) (hR : RdAt w base b most n vl L vf fs false why) :
    Calls Try.prog 36 #[.pointer (some ⟨b, 0, none⟩)] w fun e w' => e = .returned (.slice none 0 0) ∧ Below w.heap.size w w' := by
  have c4 := hR.cell4
  clear hR
  go_enter Try.func36, Try.ntmps36
  go_wp2
  go_ret
  exact ⟨rfl, Below.refl _ _⟩
end Go.Proofs.Ytodidfdfbanliaa.PAll
