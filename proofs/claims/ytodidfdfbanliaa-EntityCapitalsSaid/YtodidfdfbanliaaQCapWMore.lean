/- Words and contracts that this claim uses. -/
import Derived.Test.YtodidfdfbanliaaQCapWWords
import Derived.Test.YtodidfdfbanliaaQCapWLast
namespace Go.Proofs.YtodidfdfbanliaaW.PrintMore
open Go.RowKit Go.Proofs.YtodidfdfbanliaaW.PrintWords
namespace Kd
open Go.Proofs.YtodidfdfbanliaaW.PrintWords.Kd
end Kd
namespace Kd
open Go.Proofs.YtodidfdfbanliaaW.PrintWords.Kd
end Kd
end Go.Proofs.YtodidfdfbanliaaW.PrintMore
namespace Go.Proofs.YtodidfdfbanliaaW.PrintWords
open Go.RowKit
section
variable {P : Program} {ops : Array Oper} {rest : List Oper} {o : Oper} {a : Act} {Q : Exit → Act → World → Prop} {W : World}
/-- The operation is a call of this function (a cheap look ahead of a dear step). -/
theorem gate_callee {f : FuncId} {as : Array Operand} {ts : Array TypeId} (_ho : o.op = .call { callee := .value (.func f), args := as, argTypes := ts }) (h : wpList P ops Q (o :: rest) a W) : wpList P ops Q (o :: rest) a W := h
end
/-- It says x = x, and that is its use: 'rw [drewN_self w]' fails where the world was not drawn, and the row behind it is skipped. -/
theorem drewN_self (w : World) (n : Nat) : w.drewN n = w.drewN n := rfl
namespace Kd
end Kd
end Go.Proofs.YtodidfdfbanliaaW.PrintWords
namespace Go.Proofs.YtodidfdfbanliaaW.PrintWords
open Go.RowKit
namespace Kd
end Kd
end Go.Proofs.YtodidfdfbanliaaW.PrintWords
