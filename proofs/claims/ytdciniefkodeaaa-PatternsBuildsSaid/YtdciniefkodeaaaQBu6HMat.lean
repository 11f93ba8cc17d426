/- The matcher's methods, walked. -/
import Derived.Deep.RegionHeld3
import Derived.Test.YtdciniefkodeaaaQBu6HRun6
set_option linter.unusedVariables false
set_option linter.unusedSimpArgs false
namespace Go.Proofs.Ytdciniefkodeaaa.PAll
open Go.Sort Go.RowKit Go.Proofs.YtdciniefkodeaaaW.PrintWords Go.Proofs.YtdciniefkodeaaaW.PrintLast Go.Proofs.YtdciniefkodeaaaW.PrintMore
theorem grown_set0 {w : World} (bm j : Nat) (u : Value) : w.grownBy (w.setCell ⟨bm, j, none⟩ u) (some bm) :=
  ⟨rfl, rfl, rfl, by simp [World.setCell], fun k hk hne => Below.heap_setCell w ⟨bm, j, none⟩ u k (fun e => hne (by rw [e]))⟩
end Go.Proofs.Ytdciniefkodeaaa.PAll
