/- PatternsTurned, walked. -/
import Derived.Test.YtdciniefkodeaaaQBu6HRun6
import Derived.Test.YtdciniefkodeaaaQBu6HWords6
import Derived.Test.YtdciniefkodeaaaQBu6HLay
set_option linter.unusedVariables false
set_option linter.unusedSimpArgs false
namespace Go.Proofs.Ytdciniefkodeaaa.PAll
open Go.Sort Go.RowKit Go.Proofs.YtdciniefkodeaaaW.PrintWords Go.Proofs.YtdciniefkodeaaaW.PrintLast Go.Proofs.YtdciniefkodeaaaW.PrintMore
abbrev kB : Kd Wd := Kd.slice 5 (Kd.int .u8)
/-- Copy, with its result as one's own. -/
theorem copyS_ctr {w : World} {A : Option Addr} {c n : Nat} {ps : List Wd} (h : PsAt w A c ps) (hn : n = ps.length) : Calls Try.prog 18 #[.slice A n c] w fun e w' => ∃ A' c', e = .returned (.slice A' n c') ∧ Kd.S kB 32 w' w.heap.size (fun _ => True) (.slice A' n c') ps ∧ PsAt w' A' c' ps ∧ Below w.heap.size w w' := by
  subst hn
  refine (winkleref06_Copy.calls (ps.length + 1) A c ps ps w h.reads h.cap (copy_is ps h.size h.each _ (Nat.lt_succ_self _))).mono ?_
  rintro e w' ⟨v, rfl, hS, hB⟩
  obtain ⟨A', c', rfl, hc, hC⟩ := Kd.R_reads (Kd.S_R hS)
  exact ⟨A', c', rfl, hS, ⟨hC, hc, h.bytes, h.size, h.each⟩, hB⟩
end Go.Proofs.Ytdciniefkodeaaa.PAll
