/- The hits of a longer text; small arguments. -/
import Derived.Test.YtdciniefkodeaaaQAl7HSame7
import Derived.Test.YtdciniefkodeaaaQAl7HWords6
set_option linter.unusedVariables false
set_option linter.unusedSimpArgs false
namespace Go.Proofs.Ytdciniefkodeaaa.PAll
open Go.Sort Go.RowKit Go.Proofs.YtdciniefkodeaaaW.PrintWords Go.Proofs.YtdciniefkodeaaaW.PrintLast Go.Proofs.YtdciniefkodeaaaW.PrintMore
theorem ps_ofU {w : World} {A : Option Addr} {c : Nat} {ps : List Wd} (h1 : (Kd.slice 5 (Kd.int .u8)).C w A ps.length ps) (h2 : ps.length ≤ c) (h3 : BytesOk ps) (h4 : ps.length ≤ 1048576) (h5 : ∀ p ∈ ps, p.length ≤ 1048576) : PsAt w A c ps :=
  ⟨h1, h2, h3, by omega, fun p hp => by have := h5 p hp; omega⟩
theorem tx_ofU {w : World} {A : Option Addr} {c : Nat} {x : Wd} (h1 : (Kd.int .u8).C w A x.length x) (h2 : x.length ≤ c) (h3 : ∀ b ∈ x, 0 ≤ b ∧ b ≤ 255) (h4 : x.length ≤ 1048576) : TxAt w A c x := ⟨h1, h2, h3, by omega⟩
end Go.Proofs.Ytdciniefkodeaaa.PAll
