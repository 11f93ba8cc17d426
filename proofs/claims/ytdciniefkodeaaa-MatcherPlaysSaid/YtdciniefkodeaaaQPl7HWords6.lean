/- PatternsWords, walked. -/
import Derived.Deep.RegionHeld3
import Derived.Test.YtdciniefkodeaaaQPl7HRun6
set_option linter.unusedVariables false
set_option linter.unusedSimpArgs false
namespace Go.Proofs.Ytdciniefkodeaaa.PAll
open Go.Sort Go.RowKit Go.Proofs.YtdciniefkodeaaaW.PrintWords Go.Proofs.YtdciniefkodeaaaW.PrintLast Go.Proofs.YtdciniefkodeaaaW.PrintMore
theorem lsuf_step1 {T : List Wd} {x : Wd} {a : Nat} (ha : a < x.length) (hn : x.drop a ∉ T) : lsuf T (x.drop a) = lsuf T (x.drop (a + 1)) := by
  rw [List.drop_eq_getElem_cons ha] at hn ⊢
  rw [lsuf, if_neg hn]
theorem own_bytes_reads {w : World} {base : Nat} {v : Value} {xs : Wd} (h : OwnB w base v xs) : ∃ A c, v = .slice A xs.length c ∧ xs.length ≤ c ∧ (Kd.int .u8).C w A xs.length xs :=
  Kd.R_reads (Kd.R_of_own (h1 := fun _ => rfl) (ok := fun _ => True) h (fun _ _ => trivial))
end Go.Proofs.Ytdciniefkodeaaa.PAll
