/- An argument that is a slice of byte slices, opened; its sizes. -/
import Derived.Deep.Matrix
import Derived.SizedLaws
import Derived.Test.YtdciniefkodeaaaQAl7HAwake6
set_option linter.unusedVariables false
namespace Go.Proofs.Ytdciniefkodeaaa.PAll
open Go.ChangeShapes Go.WideShapes Go.RowKit Go.Proofs.YtdciniefkodeaaaW.PrintWords
theorem wf_byte {x : Int} (h : (Lit.int .u8 x).wf = true) : 0 ≤ x ∧ x ≤ 255 := by
  have e1 : IntKind.u8.min = 0 := rfl
  have e2 : IntKind.u8.max = 255 := rfl
  simp [Lit.wf] at h
  omega
end Go.Proofs.Ytdciniefkodeaaa.PAll
