/- The closure that link hands to the sort: it compares two states by depth. -/
import Derived.Lib.Hide
import Derived.Test.YtdciniefkodeaaaQPl7HSort4
set_option linter.unusedVariables false
set_option linter.unusedSimpArgs false
namespace Go.Proofs.Ytdciniefkodeaaa.PAll
open Go.Sort Go.RowKit
set_option maxHeartbeats 1000000 in
theorem cmp_calls (W : World) (bx pa gn n cn x y : Nat) (dx dy : Int) (h1 : W.cell? ⟨bx, 0, none⟩ = some (.pointer (some ⟨pa, 0, none⟩))) (h2 : W.cell? ⟨pa, 0, none⟩ = some (.slice (some ⟨gn, 0, none⟩) n cn))
    (hx : x < n) (hy : y < n) (h3 : W.cell? ⟨gn, x * 5 + 2, none⟩ = some (.int .i64 dx)) (h4 : W.cell? ⟨gn, y * 5 + 2, none⟩ = some (.int .i64 dy)) (b1 : 0 ≤ dx ∧ dx ≤ 4096) (b2 : 0 ≤ dy ∧ dy ≤ 4096) :
    Calls Try.prog 60 #[.int .i64 (x : Int), .int .i64 (y : Int), .pointer (some ⟨bx, 0, none⟩)] W fun e w' => e = .returned (.int .i64 (dx - dy)) ∧ ∃ q, w' = W.drewN q := by
  have hxz : (x : Int) < (n : Int) := by omega
  have hyz : (y : Int) < (n : Int) := by omega
  go_enter Try.func60, Try.ntmps60
  go_wp2_with fail
  go_quiet (fail)
  go_wp2
  go_ret
  exact ⟨rfl, _, rfl⟩
end Go.Proofs.Ytdciniefkodeaaa.PAll
