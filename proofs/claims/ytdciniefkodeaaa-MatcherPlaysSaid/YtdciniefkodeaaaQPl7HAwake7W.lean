/- Layer 7's awake answers yes. -/
import Derived.Test.YtdciniefkodeaaaQPl7HAwake7
set_option linter.unusedVariables false
set_option linter.unusedSimpArgs false
namespace Go.Proofs.Ytdciniefkodeaaa.PAll
open Go.Sort Go.RowKit Go.Proofs.YtdciniefkodeaaaW.PrintWords Go.Proofs.YtdciniefkodeaaaW.PrintLast Go.Proofs.YtdciniefkodeaaaW.PrintMore
def awh : List (Int × Int) := [(0, 4), (1, 4), (3, 6)]
def awhC : Array Value := #[.int .i64 0, .slice none 0 0, .int .i64 4, .int .i64 1, .slice none 0 0, .int .i64 4, .int .i64 3, .slice none 0 0, .int .i64 6]
theorem awh_lit (w : World) : (w.alloc (.cells awhC 49)).ownsRow w.heap.size 49 3 (.slice (some ⟨w.heap.size, 0, none⟩) 3 3) awh.length (flatH awh) :=
  World.ownsRow_lit (base := w.heap.size) (e := 49) (size := 3) w awhC 3 (Nat.le_refl _) (by decide) rfl
set_option maxHeartbeats 4000000 in
set_option maxRecDepth 1000000 in
theorem awake7_calls (w : World) : Calls Try.prog 32 #[] w fun e w' => e = .returned (.bool true) ∧ Below w.heap.size w w' := by
  obtain ⟨c1, c2, c3, c4⟩ := aw_conv w
  obtain ⟨s1, s2, s3, s4⟩ := aw_size w
  have HB := Lib.hid (aw_build w)
  go_enter Try.func32, Try.ntmps32
  go_wp2_with fail
  refine HB.out.mono ?_
  rintro e w1 ⟨hb1, pa, rfl, hm1⟩
  have B1 := Lib.hid hb1
  have M1 := Lib.hid hm1
  have cx := awx_conv w1
  clear hb1 hm1 c1 c2 c3 c4 s1 s2 s3 s4 HB
  have hbx := (Below.refl w1.heap.size w1).alloc (Nat.le_refl _) (.cells awxc 5 (6, 7))
  have KA := all_calls (w1.alloc (.cells awxc 5 (6, 7))) pa awps (some ⟨w1.heap.size, 0, none⟩) 6 awx 9 (M1.out.below hbx) (awx_reads w1) (by decide)
  have HKA := Lib.hid KA
  have HBX := Lib.hid hbx
  clear KA hbx
  go_wp2_with fail
  refine HKA.out.mono ?_
  rintro e w2 ⟨hb2, v, rfl, ho⟩
  rw [awx_all] at ho ⊢
  have B2 := Lib.hid (B1.out.trans ((HBX.out.trans (hb2.mono HBX.out.size)).mono B1.out.size))
  have HO := Lib.hid ho
  have KN := Lib.hid (new_calls w2 pa)
  clear hb2 ho HKA HBX cx
  go_wp2_with fail
  refine KN.out.mono ?_
  rintro e w3 ⟨bm, rfl, _, _, hb3⟩
  have B3 := Lib.hid (B2.out.trans (hb3.mono B2.out.size))
  have hr := hits_reads (own_move HO.out (w1 := w3) fun k e => hb3.block k (own_lt HO.out k e)) (by decide)
  obtain ⟨A, c, hv, hc, hC⟩ := hr
  obtain ⟨A2, c2, hv2, hc2, hC2⟩ := hits_reads (awh_lit w3) (by decide)
  have hC' := Kd.C_below hC ((Below.refl w3.heap.size w3).alloc (Nat.le_refl _) (.cells awhC 49))
  have KS := winkleref07_Same.calls 20 A c (awh.map toS) A2 c2 (awh.map toS) true (w3.alloc (.cells awhC 49)) hC' hc hC2 hc2 (by kernel_rfl)
  have hv : v = .slice A 3 c := hv
  have hv2 : (.slice (some ⟨w3.heap.size, 0, none⟩) 3 3 : Value) = .slice A2 3 c2 := hv2
  have KS : Calls Try.prog 34 #[.slice A 3 c, .slice A2 3 c2] (w3.alloc (.cells awhC 49)) _ := KS
  have HKS := Lib.hid KS
  subst hv
  clear hC hC' hC2 hc hc2 KS hb3 HO KN
  injection hv2 with e1 e2 e3
  rw [← e1, ← e3] at HKS
  clear e1 e2 e3
  unfold awhC at HKS
  go_wp2_with fail
  refine HKS.out.mono ?_
  rintro e w4 ⟨rfl, hb4⟩
  have B4 := Lib.hid ((B3.out.alloc B3.out.size (.cells awhC 49)).trans (hb4.mono (by have := B3.out.size; simp; omega)))
  clear hb4 HKS
  go_wp2
  go_ret
  exact ⟨rfl, B4.out⟩
end Go.Proofs.Ytdciniefkodeaaa.PAll
