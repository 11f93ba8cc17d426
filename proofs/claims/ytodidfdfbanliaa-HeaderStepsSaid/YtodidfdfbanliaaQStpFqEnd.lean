/- The reader's contracts once more, with blocks that stay as they are (HFrame); copied by mk_fq.py out of HEnd. -/
import Derived.Test.YtodidfdfbanliaaQStpFqPut
import Derived.Test.YtodidfdfbanliaaQStpHEnd
set_option linter.unusedVariables false
set_option linter.unusedSimpArgs false
namespace Go.Proofs.Ytodidfdfbanliaa.PAll.Fq
open Go.RowKit Go.Proofs.YtodidfdfbanliaaW.PrintWords Go.Proofs.YtodidfdfbanliaaW.PrintLast Go.Proofs.Ytodidfdfbanliaa.PAll
set_option maxHeartbeats 1000000 in
set_option maxRecDepth 100000 in
theorem end_done {ps : List (Nat × Obj)} (base b : Nat) (most n : Int) (vl : Value) (L : List Int) (vf : Value) (fs : List S42) (why : Int) (w : World) (hR : RdQ ps w base b most n vl L vf fs true why) :
    Calls Try.prog 37 #[.pointer (some ⟨b, 0, none⟩)] w fun e w' => e = .returned (.int .i64 why) ∧ RdQ ps w' base b most n vl L vf fs true why ∧ Below base w w' := by
  have c4 := hR.cell4
  have c5 := hR.cell5
  have HR := Lib.hid hR
  clear hR
  go_enter Try.func37, Try.ntmps37
  go_wp2
  go_ret
  exact ⟨rfl, HR.out, Below.refl _ _⟩
set_option maxHeartbeats 1000000 in
set_option maxRecDepth 100000 in
theorem end_why {ps : List (Nat × Obj)} (base b : Nat) (most n : Int) (vl : Value) (L : List Int) (vf : Value) (fs : List S42) (why : Int) (hw : why ≠ 0) (w : World) (hR : RdQ ps w base b most n vl L vf fs false why) :
    Calls Try.prog 37 #[.pointer (some ⟨b, 0, none⟩)] w fun e w' => e = .returned (.int .i64 why) ∧ RdQ ps w' base b most n vl L vf fs false why ∧ Below base w w' := by
  have c4 := hR.cell4
  have c5 := hR.cell5
  have tw : (why != 0) = true := by rw [bne_iff_ne]; exact hw
  have HR := Lib.hid hR
  clear hR hw
  go_enter Try.func37, Try.ntmps37
  go_wp2
  go_ret
  exact ⟨rfl, HR.out, Below.refl _ _⟩
set_option maxHeartbeats 1000000 in
set_option maxRecDepth 100000 in
theorem end_none {ps : List (Nat × Obj)} (base b : Nat) (most n : Int) (vl : Value) (vf : Value) (fs : List S42) (w : World) (hR : RdQ ps w base b most n vl [] vf fs false 0) (hsz : ∀ f ∈ fs, f.f1.size ≤ 9223372036854775807) :
    Calls Try.prog 37 #[.pointer (some ⟨b, 0, none⟩)] w fun e w' => e = .returned (.int .i64 0) ∧ RdQ ps w' base b most n vl [] vf (trimF fs) true 0 ∧ Below base w w' := by
  have c2 := hR.cell2
  have c4 := hR.cell4
  have c5 := hR.cell5
  obtain ⟨A, c, hv⟩ := hR.2.2.1.form
  rw [hv] at c2
  have HC := Lib.hid (finish_calls base b most n vl [] vf fs false 0 w hR hsz)
  clear hR hv hsz
  go_enter Try.func37, Try.ntmps37
  go_wp2_with (fail)
  refine HC.out.mono ?_
  rintro e w3 ⟨rfl, hF, hG⟩
  have HF := Lib.hid hF
  have HG := Lib.hid hG
  have e5 := hF.cell5
  clear hF hG HC
  go_wp2
  go_ret
  exact ⟨rfl, HF.out, HG.out⟩
set_option maxHeartbeats 1000000 in
set_option maxRecDepth 100000 in
theorem end_line {ps : List (Nat × Obj)} (base b : Nat) (most n : Int) (vl : Value) (L : List Int) (vf : Value) (fs : List S42) (w : World) (hL : L ≠ []) (hlen : L.length ≤ 65536) (hR : RdQ ps w base b most n vl L vf fs false 0) (h64 : fs.length ≤ 64) (hsz : ∀ f ∈ fs, f.f1.size + L.length ≤ 9223372036854775807)
    (hall : ∀ f ∈ (lineR fs (strOfNums L)).1, f.f1.size ≤ 9223372036854775807) :
    Calls Try.prog 37 #[.pointer (some ⟨b, 0, none⟩)] w fun e w' => e = .returned (.int .i64 (lineR fs (strOfNums L)).2) ∧ (∃ vl' vf', RdQ ps w' base b most n vl' [] vf' (if (lineR fs (strOfNums L)).2 = 0 then trimF (lineR fs (strOfNums L)).1 else (lineR fs (strOfNums L)).1) (decide ((lineR fs (strOfNums L)).2 = 0)) (lineR fs (strOfNums L)).2) ∧ Below base w w' := by
  have c2 := hR.cell2
  have c4 := hR.cell4
  have c5 := hR.cell5
  obtain ⟨A, c, hv⟩ := hR.2.2.1.form
  rw [hv] at c2
  have hpos : (0 : Int) < (L.length : Int) := by have : L.length ≠ 0 := fun e => hL (List.eq_nil_of_length_eq_zero e); omega
  have HC := Lib.hid (take_calls base b most n vl L vf fs false w hL (by omega) hR h64 (fun hne => by
    have hl : fs.length ≠ 0 := fun e => hne (List.eq_nil_of_length_eq_zero e)
    refine hsz _ ?_
    rw [List.getD_eq_getElem?_getD, List.getElem?_eq_getElem (by omega)]; exact List.getElem_mem _))
  clear hR hv hsz hL
  generalize lineR fs (strOfNums L) = q at *
  obtain ⟨fs', why⟩ := q
  go_enter Try.func37, Try.ntmps37
  go_wp2_with (fail)
  refine HC.out.mono ?_
  rintro e w3 ⟨rfl, vl3, vf3, hF, hG⟩
  have HF := Lib.hid hF
  have HG := Lib.hid hG
  have e5 := hF.cell5
  clear hG HC HF
  change ∀ f ∈ fs', f.f1.size ≤ 9223372036854775807 at hall
  change w3.cell? _ = some (.int .i64 why) at e5
  change RdQ ps w3 base b most n vl3 [] vf3 fs' false why at hF
  by_cases hw : why = 0
  · subst hw
    have HC2 := Lib.hid (finish_calls base b most n vl3 [] vf3 fs' false 0 w3 hF hall)
    clear hF hall
    go_wp2_with (fail)
    refine HC2.out.mono ?_
    rintro e w4 ⟨rfl, hF4, hG4⟩
    have HF4 := Lib.hid hF4
    have HG4 := Lib.hid (HG.out.trans hG4)
    have e54 := hF4.cell5
    clear hF4 hG4 HC2
    go_wp2
    go_ret
    exact ⟨rfl, ⟨_, _, HF4.out⟩, HG4.out⟩
  · have tw : (why == 0) = false := beq_eq_false_iff_ne.2 hw
    have HF3 := Lib.hid hF
    clear hF hall
    go_wp2
    go_ret
    refine ⟨rfl, ⟨vl3, vf3, ?_⟩, HG.out⟩
    first | exact HF3.out | (rw [if_neg hw, decide_eq_false hw]; exact HF3.out)
end Go.Proofs.Ytodidfdfbanliaa.PAll.Fq
