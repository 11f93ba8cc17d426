/- An argument that is a slice of fields, opened. -/
import Derived.Deep.SlicePairs
import Derived.ChangeArms
import Derived.SizedLaws
import Derived.Test.YtodidfdfbanliaaQWriPAllx0
set_option linter.unusedVariables false
namespace Go.Proofs.Ytodidfdfbanliaa.PAll
open Go.ChangeShapes Go.WideShapes Go.RowKit Go.Proofs.YtodidfdfbanliaaW.PrintWords
def strV : Value → ByteArray
  | .string s => s
  | _ => ⟨#[]⟩
end Go.Proofs.Ytodidfdfbanliaa.PAll
