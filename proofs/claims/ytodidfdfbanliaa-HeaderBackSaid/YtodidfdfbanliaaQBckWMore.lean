/- Words and contracts that this claim uses. -/
import Derived.Test.YtodidfdfbanliaaQBckWWords
import Derived.Test.YtodidfdfbanliaaQBckWLast
import Derived.Test.YtodidfdfbanliaaQBckWShare
namespace Go.Proofs.YtodidfdfbanliaaW.PrintMore
open Go.RowKit Go.Proofs.YtodidfdfbanliaaW.PrintWords
namespace Kd
open Go.Proofs.YtodidfdfbanliaaW.PrintWords.Kd
end Kd
namespace Kd
open Go.Proofs.YtodidfdfbanliaaW.PrintWords.Kd
end Kd
end Go.Proofs.YtodidfdfbanliaaW.PrintMore
namespace Go.Proofs.YtodidfdfbanliaaW.PrintWords
open Go.RowKit
section
variable {P : Program} {ops : Array Oper} {rest : List Oper} {o : Oper} {a : Act} {Q : Exit → Act → World → Prop} {W : World}
/-- The operation is a call of this function (a cheap look ahead of a dear step). -/
theorem gate_callee {f : FuncId} {as : Array Operand} {ts : Array TypeId} (_ho : o.op = .call { callee := .value (.func f), args := as, argTypes := ts }) (h : wpList P ops Q (o :: rest) a W) : wpList P ops Q (o :: rest) a W := h
/-- The operation is a builtin over these places. -/
theorem gate_builtin {b : Builtin} {xs : Array Operand} {ts : Array TypeId} (_ho : o.op = .call { callee := .builtin b, args := xs, argTypes := ts }) (h : wpList P ops Q (o :: rest) a W) : wpList P ops Q (o :: rest) a W := h
end
namespace Kd
end Kd
end Go.Proofs.YtodidfdfbanliaaW.PrintWords
namespace Go.Proofs.YtodidfdfbanliaaW.PrintWords
open Go.RowKit
namespace Kd
/-- A row that is only read, told by its value: its form, its length, what it leads to (in ok). e and base say nothing; they make it as the others are. -/
def V {α : Type} (d : Kd α) (_e : Nat) (W : World) (_base : Nat) (ok : Nat → Prop) (v : Value) (xs : List α) : Prop := ∃ A c, v = .slice A xs.length c ∧ xs.length ≤ c ∧ F d W ok A xs.length xs
end Kd
end Go.Proofs.YtodidfdfbanliaaW.PrintWords
