/- PatternsFails, walked. -/
import Derived.Test.YtdciniefkodeaaaQBu6HWords6
set_option linter.unusedVariables false
set_option linter.unusedSimpArgs false
namespace Go.Proofs.Ytdciniefkodeaaa.PAll
open Go.Sort Go.RowKit Go.Proofs.YtdciniefkodeaaaW.PrintWords Go.Proofs.YtdciniefkodeaaaW.PrintLast Go.Proofs.YtdciniefkodeaaaW.PrintMore
theorem drop_tx {A : Option Addr} {x : Wd} {c lo : Nat} (h1 : lo ≤ x.length) (h3 : x.length ≤ c) : ∃ A' : Option Addr, (∀ W : World, (Instr.slice 32 (.slice A x.length c) (some (.int .i64 (lo : Int))) none none).run Try.prog W = .ok (.slice A' (x.drop lo).length (c - lo)) W) ∧
    (∀ W : World, (Kd.int .u8).C W A x.length x → (Kd.int .u8).C W A' (x.drop lo).length (x.drop lo)) ∧ (x.drop lo).length ≤ c - lo := by
  obtain ⟨i0, hi0, _, hsz, _⟩ := info_parts info5
  obtain ⟨A', q1, q2, q3⟩ := print_drop_of (P := Try.prog) (Value.int .u8) (0 : Int) 32 5 .i64 Try.underlying32 hi0 hsz A c x (lo : Int) (by omega) (by omega) h3
  rw [Int.toNat_natCast] at q1 q2 q3
  exact ⟨A', q1, fun W h => Kd.C_of_reads (h1 := fun _ => rfl) (q2 W (Kd.reads_of_C h)), q3⟩
end Go.Proofs.Ytdciniefkodeaaa.PAll
