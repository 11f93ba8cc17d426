/- Layer 12's awake answers yes. -/
import Derived.Lib.SmallJoins
import Derived.Test.YtodidfdfbanliaaQStpHLaw12a
import Derived.Test.YtodidfdfbanliaaQStpHGet
import Derived.Test.YtodidfdfbanliaaQStpHBytes
set_option linter.unusedVariables false
set_option linter.unusedSimpArgs false
namespace Go.Proofs.Ytodidfdfbanliaa.PAll
open Go.RowKit Go.Proofs.YtodidfdfbanliaaW.PrintWords Go.Proofs.YtodidfdfbanliaaW.PrintLast
def aw12 : List S42 := [⟨⟨#[65]⟩, ⟨#[49, 32, 50]⟩⟩, ⟨⟨#[98]⟩, ⟨#[]⟩⟩]
def aw12s : List UInt8 := [65, 58, 32, 49, 13, 10, 32, 50, 13, 10, 98, 58, 10, 10, 120]
def aw12c : Array Value := #[.int .u8 65, .int .u8 58, .int .u8 32, .int .u8 49, .int .u8 13, .int .u8 10, .int .u8 32, .int .u8 50, .int .u8 13, .int .u8 10, .int .u8 98, .int .u8 58, .int .u8 10, .int .u8 10, .int .u8 120]
theorem aw12_get : header_Get.f aw12 ⟨#[97]⟩ = some (⟨#[49, 32, 50]⟩, true) := by kernel_rfl
theorem aw12_lit (w : World) (base : Nat) (hb : base ≤ w.heap.size) : OwnF (w.alloc (.cells #[.string ⟨#[65]⟩, .string ⟨#[49, 32, 50]⟩, .string ⟨#[98]⟩, .string ⟨#[]⟩] 42)) base (.slice (some ⟨w.heap.size, 0, none⟩) 2 2) aw12 :=
  World.ownsRow_lit (base := base) (e := 42) (size := 2) w #[.string ⟨#[65]⟩, .string ⟨#[49, 32, 50]⟩, .string ⟨#[98]⟩, .string ⟨#[]⟩] 2 hb (by decide) rfl
theorem aw12_reads (w : World) : Kd.C (Kd.int .u8) (w.alloc (.cells aw12c 5 (15, 16))) (some ⟨w.heap.size, 0, none⟩) 15 [65, 58, 32, 49, 13, 10, 32, 50, 13, 10, 98, 58, 10, 10, 120] := by
  have h : BytesAt (w.alloc (.cells aw12c 5 (15, 16))) w.heap.size 15 aw12s := by
    refine ⟨aw12c, heap_alloc_new w _, rfl, by decide, fun i hi => ?_⟩
    have : ∀ i, (hi : i < aw12s.length) → aw12c[i]? = some (.int .u8 (aw12s[i].toNat : Int)) := by
      intro i hi
      match i, hi with
      | 0, _ => rfl | 1, _ => rfl | 2, _ => rfl | 3, _ => rfl | 4, _ => rfl | 5, _ => rfl | 6, _ => rfl | 7, _ => rfl | 8, _ => rfl | 9, _ => rfl | 10, _ => rfl | 11, _ => rfl | 12, _ => rfl | 13, _ => rfl | 14, _ => rfl
    exact this i hi
  exact h.reads (by decide)
def winklelaw12_awake.f : Option Bool := some true
set_option maxHeartbeats 4000000 in
set_option maxRecDepth 100000 in
theorem winklelaw12_awake.calls (r : Bool) (w : World) (h : winklelaw12_awake.f = some r) :
    Calls Try.prog 22 #[] w fun e w' => e = .returned (.bool r) ∧ Below w.heap.size w w' := by
  obtain rfl : true = r := Option.some.inj h
  clear h
  have hcv : (convert 22 22 (.slice (some ⟨w.heap.size, 0, none⟩) 15 15)).run Try.prog (w.alloc (.cells #[.int .u8 65, .int .u8 58, .int .u8 32, .int .u8 49, .int .u8 13, .int .u8 10, .int .u8 32, .int .u8 50, .int .u8 13, .int .u8 10, .int .u8 98, .int .u8 58, .int .u8 10, .int .u8 10, .int .u8 120] 5)) = .ok (.slice (some ⟨w.heap.size, 0, none⟩) 15 15) (w.alloc (.cells aw12c 5 (15, 16))) :=
    Joins.run_convert_bytes_const_at w 22 5 aw12c 15 15 w.heap.size rfl Try.underlying22 Try.underlying5
  have HW := Lib.hid (header_Whole.calls (some ⟨w.heap.size, 0, none⟩) 15 [65, 58, 32, 49, 13, 10, 32, 50, 13, 10, 98, 58, 10, 10, 120] 99 aw12 14 0 0 _ (aw12_reads w) (by decide) (congrArg some whole_lit))
  have HB0 := Lib.hid (show Below w.heap.size w (w.alloc (.cells aw12c 5 (15, 16))) from (Below.refl _ w).alloc (Nat.le_refl _) _)
  go_enter Try.func22, Try.ntmps22
  go_wp2_with (fail)
  refine HW.out.mono ?_
  rintro e w1 ⟨v1, rfl, hr, hb⟩
  have hb1 := HB0.out.trans (hb.mono HB0.out.size)
  obtain ⟨A, c, rfl, hc, hC⟩ := Kd.R_reads hr
  have HG := Lib.hid (header_Get.calls A c aw12 ⟨#[97]⟩ _ _ w1 hC hc aw12_get)
  have HB1 := Lib.hid hb1
  have HC1 := Lib.hid hC
  clear hr hb hb1 hC hcv HW HB0
  go_wp2_with (fail)
  refine HG.out.mono ?_
  rintro e w2 ⟨rfl, hb2⟩
  have hC2 := Kd.C_below HC1.out hb2
  have hb3 := HB1.out.trans (hb2.mono HB1.out.size)
  have hr2 := (aw12_lit w2 w2.heap.size (Nat.le_refl _)).toR (fun _ => True) (fun _ _ => trivial)
  obtain ⟨q1, q2, hC3⟩ := Kd.R_reads' (A := some ⟨w2.heap.size, 0, none⟩) (n := 2) (c := 2) hr2
  obtain ⟨k, hk⟩ := (fields_same aw12 (by decide)).rounds
  have HF := Lib.hid (winkleref12_Fields.calls k A c aw12 (some ⟨w2.heap.size, 0, none⟩) 2 aw12 true _ (Kd.C_alloc hC2 _) hc hC3 (by decide) hk)
  have HB2 := Lib.hid hb3
  clear q1 q2 hC2 hb3 hr2 hC3 hb2 HG HC1 HB1 hk
  go_wp2_with (fail)
  refine HF.out.mono ?_
  rintro e w3 ⟨rfl, ⟨nd, rfl⟩⟩
  go_wp2
  go_ret
  exact ⟨rfl, pw_below_drewN (HB2.out.alloc HB2.out.size _) nd⟩
end Go.Proofs.Ytodidfdfbanliaa.PAll
