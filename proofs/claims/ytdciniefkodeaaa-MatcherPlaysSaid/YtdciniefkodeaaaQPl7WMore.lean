/- Words and contracts that this claim uses. -/
import Derived.Test.YtdciniefkodeaaaQPl7WWords
import Derived.Test.YtdciniefkodeaaaQPl7WLast
import Derived.Test.YtdciniefkodeaaaQPl7WApart
namespace Go.Proofs.YtdciniefkodeaaaW.PrintMore
open Go.RowKit Go.Proofs.YtdciniefkodeaaaW.PrintWords
namespace Kd
open Go.Proofs.YtdciniefkodeaaaW.PrintWords.Kd
end Kd
namespace Kd
open Go.Proofs.YtdciniefkodeaaaW.PrintWords.Kd
end Kd
/-- 'max' and 'min' of two whole numbers. -/
theorem max2_int (k k' : IntKind) (x y : Int) : Builtin.max2 (.int k x) (.int k' y) = pure (.int k (if x < y then y else x)) := by simp only [Builtin.max2, gt_iff_lt]
theorem min2_int (k k' : IntKind) (x y : Int) : Builtin.min2 (.int k x) (.int k' y) = pure (.int k (if y < x then y else x)) := by simp only [Builtin.min2]
theorem max_two (ats : Array TypeId) (ty : TypeId) (a b : Value) : Builtin.max_ ats ty #[a, b] = (Builtin.max2 a b >>= fun s => pure s) := by simp only [Builtin.max_, List.foldlM_cons, List.foldlM_nil]
theorem min_two (ats : Array TypeId) (ty : TypeId) (a b : Value) : Builtin.min_ ats ty #[a, b] = (Builtin.min2 a b >>= fun s => pure s) := by simp only [Builtin.min_, List.foldlM_cons, List.foldlM_nil]
end Go.Proofs.YtdciniefkodeaaaW.PrintMore
namespace Go.Proofs.YtdciniefkodeaaaW.PrintWords
open Go.RowKit
section
variable {P : Program} {ops : Array Oper} {rest : List Oper} {o : Oper} {a : Act} {Q : Exit → Act → World → Prop} {W : World}
/-- The operation is a builtin over these places. -/
theorem gate_builtin {b : Builtin} {xs : Array Operand} {ts : Array TypeId} (_ho : o.op = .call { callee := .builtin b, args := xs, argTypes := ts }) (h : wpList P ops Q (o :: rest) a W) : wpList P ops Q (o :: rest) a W := h
end
namespace Kd
end Kd
end Go.Proofs.YtdciniefkodeaaaW.PrintWords
namespace Go.Proofs.YtdciniefkodeaaaW.PrintWords
open Go.RowKit
namespace Kd
end Kd
end Go.Proofs.YtdciniefkodeaaaW.PrintWords
