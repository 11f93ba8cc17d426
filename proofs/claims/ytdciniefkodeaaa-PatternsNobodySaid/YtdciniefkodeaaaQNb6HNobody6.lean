/- A machine that is not there has no states. -/
import Derived.Test.YtdciniefkodeaaaQNb6HAwake6
set_option linter.unusedVariables false
set_option linter.unusedSimpArgs false
namespace Go.Proofs.Ytdciniefkodeaaa.PAll
open Go.Sort Go.RowKit Go.Proofs.YtdciniefkodeaaaW.PrintWords Go.Proofs.YtdciniefkodeaaaW.PrintLast Go.Proofs.YtdciniefkodeaaaW.PrintMore
set_option maxHeartbeats 4000000 in
set_option maxRecDepth 1000000 in
theorem nobody6_walk (s b : Int) (w : World) : Calls Try.prog 11 #[.int .i64 s, .int .u8 b] w fun e w' => e = .returned (.bool true) ∧ Below w.heap.size w w' := by
  go_enter Try.func11, Try.ntmps11
  go_wp2_with fail
  refine (patterns_none _).mono ?_
  rintro e w1 ⟨rfl, q1, rfl⟩
  go_wp2_with fail
  refine (longest_none _).mono ?_
  rintro e w1 ⟨rfl, q2, rfl⟩
  go_wp2_with fail
  refine (states_none _).mono ?_
  rintro e w1 ⟨rfl, q3, rfl⟩
  go_wp2_with fail
  refine (next_none _ _ _).mono ?_
  rintro e w1 ⟨rfl, q4, rfl⟩
  go_wp2_with fail
  refine (fail_none _ _).mono ?_
  rintro e w1 ⟨rfl, q5, rfl⟩
  go_wp2_with fail
  refine (depth_none _ _).mono ?_
  rintro e w1 ⟨rfl, q6, rfl⟩
  go_wp2_with fail
  refine (word_none _ _).mono ?_
  rintro e w1 ⟨rfl, q7, rfl⟩
  go_wp2_with fail
  refine (out_none _ _).mono ?_
  rintro e w1 ⟨rfl, q8, rfl⟩
  go_wp2_with fail
  refine (awake6_calls _).mono ?_
  rintro e w1 ⟨rfl, hb⟩
  have HB := Lib.hid hb
  clear hb
  go_wp2
  go_ret
  exact ⟨rfl, (below_drewN' (Below.refl w.heap.size w) (q1 + q2 + q3 + q4 + q5 + q6 + q7 + q8)).trans (show Below w.heap.size (w.drewN (q1 + q2 + q3 + q4 + q5 + q6 + q7 + q8)) w1 from HB.out)⟩
end Go.Proofs.Ytdciniefkodeaaa.PAll
