/- A matcher that is not there finds nothing. -/
import Derived.Test.YtdciniefkodeaaaQNb7HAwake7W
set_option linter.unusedVariables false
set_option linter.unusedSimpArgs false
namespace Go.Proofs.Ytdciniefkodeaaa.PAll
open Go.Sort Go.RowKit Go.Proofs.YtdciniefkodeaaaW.PrintWords Go.Proofs.YtdciniefkodeaaaW.PrintLast Go.Proofs.YtdciniefkodeaaaW.PrintMore
theorem below_next {w0 w w' : World} (h : Below w0.heap.size w0 w) (hb : Below w.heap.size w w') : Below w0.heap.size w0 w' := h.trans (hb.mono h.size)
set_option maxHeartbeats 4000000 in
set_option maxRecDepth 1000000 in
theorem nobody7_walk (b s t : Int) (w : World) : Calls Try.prog 15 #[.int .u8 b, .int .i64 s, .int .i64 t] w fun e w' => e = .returned (.bool true) ∧ Below w.heap.size w w' := by
  go_enter Try.func15, Try.ntmps15
  go_wp2_with fail
  refine (reset_none _).mono ?_
  rintro e w1 ⟨rfl, hd⟩
  have B1 := Lib.hid (below_of_drew hd)
  clear hd
  go_wp2_with fail
  refine (new_none _).mono ?_
  rintro e w2 ⟨rfl, hd⟩
  have B2 := Lib.hid (below_next B1.out (below_of_drew hd))
  clear hd B1
  go_wp2_with fail
  refine (all_none _ _ _ _ _).mono ?_
  rintro e w3 ⟨rfl, hb⟩
  have B3 := Lib.hid (below_next (B2.out.alloc B2.out.size _) hb)
  clear hb B2
  go_wp2_with fail
  refine (step_none _ _).mono ?_
  rintro e w4 ⟨rfl, hd⟩
  have B4 := Lib.hid (below_next B3.out (below_of_drew hd))
  clear hd B3
  go_wp2_with fail
  refine (state_none _).mono ?_
  rintro e w5 ⟨rfl, hd⟩
  have B5 := Lib.hid (below_next B4.out (below_of_drew hd))
  clear hd B4
  go_wp2_with fail
  refine (at_none _).mono ?_
  rintro e w6 ⟨rfl, hd⟩
  have B6 := Lib.hid (below_next B5.out (below_of_drew hd))
  clear hd B5
  go_wp2_with fail
  refine (set_none _ _ _).mono ?_
  rintro e w7 ⟨rfl, hd⟩
  have B7 := Lib.hid (below_next B6.out (below_of_drew hd))
  clear hd B6
  go_wp2_with fail
  refine (awake7_calls _).mono ?_
  rintro e w8 ⟨rfl, hb⟩
  have B8 := Lib.hid (below_next B7.out hb)
  clear hb B7
  go_wp2
  go_ret
  exact ⟨rfl, B8.out⟩
end Go.Proofs.Ytdciniefkodeaaa.PAll
