/- The reader's contracts once more, with blocks that stay as they are (HFrame); copied by mk_fq.py out of HReset. -/
import Derived.Test.YtodidfdfbanliaaQStpFqEnd
import Derived.Test.YtodidfdfbanliaaQStpHReset
set_option linter.unusedVariables false
set_option linter.unusedSimpArgs false
namespace Go.Proofs.Ytodidfdfbanliaa.PAll.Fq
open Go.RowKit Go.Proofs.YtodidfdfbanliaaW.PrintWords Go.Proofs.YtodidfdfbanliaaW.PrintLast Go.Proofs.Ytodidfdfbanliaa.PAll
set_option maxHeartbeats 1000000 in
set_option maxRecDepth 100000 in
theorem put_done_ {ps : List (Nat × Obj)} (base b : Nat) (most n : Int) (vl : Value) (L : List Int) (vf : Value) (fs : List S42) (why : Int) (c : Int) (w : World) (hR : RdQ ps w base b most n vl L vf fs true why) :
    Calls Try.prog 34 #[.pointer (some ⟨b, 0, none⟩), .int .u8 c] w fun e w' => e = .returned (.tuple #[.bool true, .int .i64 why]) ∧ RdQ ps w' base b most n vl L vf fs true why ∧ Below base w w' := by
  have c4 := hR.cell4
  have c5 := hR.cell5
  have HR := Lib.hid hR
  clear hR
  go_enter Try.func34, Try.ntmps34
  go_wp2
  go_region
  go_wp2
  go_ret2
  exact ⟨rfl, HR.out.drew, (Below.refl base w).drew⟩
set_option maxHeartbeats 1000000 in
set_option maxRecDepth 100000 in
theorem put_stopped {ps : List (Nat × Obj)} (base b : Nat) (most n : Int) (vl : Value) (L : List Int) (vf : Value) (fs : List S42) (why : Int) (hw : why ≠ 0) (c : Int) (w : World) (hR : RdQ ps w base b most n vl L vf fs false why) :
    Calls Try.prog 34 #[.pointer (some ⟨b, 0, none⟩), .int .u8 c] w fun e w' => e = .returned (.tuple #[.bool false, .int .i64 why]) ∧ RdQ ps w' base b most n vl L vf fs false why ∧ Below base w w' := by
  have c4 := hR.cell4
  have c5 := hR.cell5
  have tw : (why != 0) = true := by rw [bne_iff_ne]; exact hw
  have HR := Lib.hid hR
  clear hR hw
  go_enter Try.func34, Try.ntmps34
  go_wp2
  go_region
  go_wp2
  go_ret2
  exact ⟨rfl, HR.out.drew, (Below.refl base w).drew⟩
end Go.Proofs.Ytodidfdfbanliaa.PAll.Fq
