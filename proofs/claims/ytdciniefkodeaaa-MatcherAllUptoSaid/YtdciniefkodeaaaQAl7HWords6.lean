/- PatternsWords, walked. -/
import Derived.Deep.RegionHeld3
import Derived.Test.YtdciniefkodeaaaQAl7HRun6
set_option linter.unusedVariables false
set_option linter.unusedSimpArgs false
namespace Go.Proofs.Ytdciniefkodeaaa.PAll
open Go.Sort Go.RowKit Go.Proofs.YtdciniefkodeaaaW.PrintWords Go.Proofs.YtdciniefkodeaaaW.PrintLast Go.Proofs.YtdciniefkodeaaaW.PrintMore
theorem mid_tx {A : Option Addr} {x : Wd} {c lo hi : Nat} (h1 : lo ≤ hi) (h2 : hi ≤ x.length) (h3 : x.length ≤ c) : ∃ A' : Option Addr, (∀ W : World, (Instr.slice 32 (.slice A x.length c) (some (.int .i64 (lo : Int))) (some (.int .i64 (hi : Int))) none).run Try.prog W = .ok (.slice A' ((x.take hi).drop lo).length (c - lo)) W) ∧
    (∀ W : World, (Kd.int .u8).C W A x.length x → (Kd.int .u8).C W A' ((x.take hi).drop lo).length ((x.take hi).drop lo)) ∧ ((x.take hi).drop lo).length ≤ c - lo ∧ ((x.take hi).drop lo).length = hi - lo := by
  obtain ⟨i0, hi0, _, hsz, _⟩ := info_parts info5
  obtain ⟨A', q1, q2, q3⟩ := print_mid_of (P := Try.prog) (Value.int .u8) (0 : Int) 32 5 .i64 .i64 Try.underlying32 hi0 hsz A c x (lo : Int) (hi : Int) (by omega) (by omega) (by omega) h3
  rw [Int.toNat_natCast, Int.toNat_natCast] at q1 q2 q3
  refine ⟨A', q1, fun W h => Kd.C_of_reads (h1 := fun _ => rfl) (q2 W (Kd.reads_of_C h)), q3, ?_⟩
  rw [List.length_drop, List.length_take]; omega
theorem own_bytes_reads {w : World} {base : Nat} {v : Value} {xs : Wd} (h : OwnB w base v xs) : ∃ A c, v = .slice A xs.length c ∧ xs.length ≤ c ∧ (Kd.int .u8).C w A xs.length xs :=
  Kd.R_reads (Kd.R_of_own (h1 := fun _ => rfl) (ok := fun _ => True) h (fun _ _ => trivial))
end Go.Proofs.Ytdciniefkodeaaa.PAll
