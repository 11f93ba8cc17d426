/- (*Run).line of the reference: one more line of a header (lineR), into a run that the call itself made. -/
import Derived.Lib.Hide
import Derived.Lib.OthersKept
import Derived.Deep.RegionHeld3
import Derived.Deep.AppendLies
import Derived.Deep.DrawnRows
import Derived.StillTailTactics
import Derived.Test.YtodidfdfbanliaaQCapHFields
import Derived.Test.YtodidfdfbanliaaQCapHSem1
import Derived.Test.YtodidfdfbanliaaQCapPAllx0
set_option linter.unusedVariables false
set_option linter.unusedSimpArgs false
namespace Go.Proofs.Ytodidfdfbanliaa.PAll
open Go.RowKit Go.Proofs.YtodidfdfbanliaaW.PrintWords Go.Proofs.YtodidfdfbanliaaW.PrintLast Go.Proofs.YtodidfdfbanliaaW.PrintMore
theorem OwnF.setOther {w : World} {base b : Nat} {v : Value} {fs : List S42} (h : OwnF w base v fs) (hne : v.ownBlock ≠ some b) (j : Nat) (u : Value) : OwnF (w.setCell ⟨b, j, none⟩ u) base v fs :=
  h.kept (row := some b) ⟨rfl, rfl, rfl, by simp [World.setCell], fun k hk hkb => Below.heap_setCell _ _ _ _ (fun e => hkb (by rw [e]))⟩ (.inr hne)
theorem isBl_int (c : UInt8) : isBl c = (decide ((c.toNat : Int) = 9) || decide ((c.toNat : Int) = 32)) :=
  by_bytes (p := fun i c => isBl c = (decide (i = 9) || decide (i = 32))) (by decide +kernel) c
end Go.Proofs.Ytodidfdfbanliaa.PAll
