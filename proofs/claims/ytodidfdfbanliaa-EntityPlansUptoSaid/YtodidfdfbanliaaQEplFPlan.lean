/- Words and contracts that this claim uses. -/
import Derived.Test.YtodidfdfbanliaaQEplPAllx0
import Derived.Test.YtodidfdfbanliaaQEplFGet
import Derived.Test.YtodidfdfbanliaaQEplFRead
import Derived.Test.YtodidfdfbanliaaQEplFParam
import Derived.Test.YtodidfdfbanliaaQEplFEnc
import Derived.Test.YtodidfdfbanliaaQEplFValid
namespace Go.Proofs.Ytodidfdfbanliaa.PAll
open Go.RowKit Go.Proofs.YtodidfdfbanliaaW.PrintWords Go.Proofs.YtodidfdfbanliaaW.PrintLast Go.Proofs.YtodidfdfbanliaaW.PrintMore
set_option linter.unusedVariables false
set_option linter.unusedSimpArgs false
mutual
def winkleref19_Plan.j0 : Nat → List (S42) → Int → Int → ByteArray → Int → Option (Int × Int × ByteArray × Int)
  | 0, _, _, _, _, _ => none
  | k + 1, x0, x494000, x494001, x494002, x494003 => if x494000 = 3 then (some (x494000, 1, x494002, x494003)) else ((winkleref12_Get.f k x0 (⟨#[67, 111, 110, 116, 101, 110, 116, 45, 84, 121, 112, 101]⟩ : ByteArray)).bind fun bt497 => (if bt497.2 = true then ((winkleref13_Type.f k bt497.1).bind fun bt499 => (if bt499.2.2.2 = true then (winkleref19_Plan.j1 k bt499.2.2.2 (bt499.1.toList == ([109, 117, 108, 116, 105, 112, 97, 114, 116] : List UInt8)) x494000 2 x494002 x494003 bt499.1 bt499.2.1 bt499.2.2.1) else (winkleref19_Plan.j1 k bt499.2.2.2 false x494000 2 x494002 x494003 bt499.1 bt499.2.1 bt499.2.2.1))) else (some (x494000, 2, x494002, x494003))))
def winkleref19_Plan.j1 : Nat → Bool → Bool → Int → Int → ByteArray → Int → ByteArray → ByteArray → List (S42) → Option (Int × Int × ByteArray × Int)
  | 0, _, _, _, _, _, _, _, _, _ => none
  | k + 1, x7, x43, x494000, x494001, x494002, x494003, x506000, x506001, x506002 => if x43 = true then ((winkleref13_Param.f k x506000 x506001 x506002 (⟨#[98, 111, 117, 110, 100, 97, 114, 121]⟩ : ByteArray)).bind fun bt506 => (if bt506.2 = true then ((winkleref14_Valid.f k bt506.1).bind fun t508 => (winkleref19_Plan.j2 k x7 bt506.1 (!t508) x494000 x494001 x494002 x494003 x506000 x506001 x506002)) else (winkleref19_Plan.j2 k x7 bt506.1 true x494000 x494001 x494002 x494003 x506000 x506001 x506002))) else (if x7 = true then (if x506000.toList = ([109, 101, 115, 115, 97, 103, 101] : List UInt8) then (if x506001.toList = ([114, 102, 99, 56, 50, 50] : List UInt8) then (some (x494000, 3, x494002, x494003)) else (some (x494000, x494001, x494002, x494003))) else (some (x494000, x494001, x494002, x494003))) else (some (x494000, x494001, x494002, x494003)))
def winkleref19_Plan.j2 : Nat → Bool → ByteArray → Bool → Int → Int → ByteArray → Int → ByteArray → ByteArray → List (S42) → Option (Int × Int × ByteArray × Int)
  | 0, _, _, _, _, _, _, _, _, _, _ => none
  | k + 1, x7, x8, x55, x494000, x494001, x494002, x494003, x506000, x506001, x506002 => if x55 = true then (some (0, 0, (⟨#[]⟩ : ByteArray), 32)) else (if x7 = true then (if x506000.toList = ([109, 101, 115, 115, 97, 103, 101] : List UInt8) then (if x506001.toList = ([114, 102, 99, 56, 50, 50] : List UInt8) then (some (x494000, 3, x8, x494003)) else (some (x494000, 4, x8, x494003))) else (some (x494000, 4, x8, x494003))) else (some (x494000, 4, x8, x494003)))
end
def winkleref19_Plan.f (k : Nat) (l0 : List (S42)) : Option (Int × Int × ByteArray × Int) := (winkleref12_Get.f k l0 (⟨#[67, 111, 110, 116, 101, 110, 116, 45, 84, 114, 97, 110, 115, 102, 101, 114, 45, 69, 110, 99, 111, 100, 105, 110, 103]⟩ : ByteArray)).bind fun bt494 => (if bt494.2 = true then ((winkleref13_Encoding.f k bt494.1).bind fun t496 => (winkleref19_Plan.j0 k l0 t496 0 (⟨#[]⟩ : ByteArray) 0)) else (winkleref19_Plan.j0 k l0 0 0 (⟨#[]⟩ : ByteArray) 0))
set_option maxHeartbeats 8000000 in
set_option maxRecDepth 100000 in
theorem winkleref19_Plan.calls (k : Nat) (A0 : Option Addr) (c0 : Nat) (l0 : List (S42)) (r1 : Int) (r2 : Int) (r3 : ByteArray) (r4 : Int) (w : World) (hr0 : Kd.C k42 w A0 l0.length l0) (hc0 : l0.length ≤ c0) (h : winkleref19_Plan.f k l0 = some (r1, r2, r3, r4)) :
    Calls Try.prog 55 #[.slice A0 l0.length c0] w fun e w' => e = .returned (.agg #[.int .i64 r1, .int .i64 r2, .string r3, .int .i64 r4]) ∧ Below w.heap.size w w' := by
  have hu71 := Try.underlying71
  have hu57 := Try.underlying57
  have HR0 := Aside0.mk hr0
  have HC0 := Aside0.mk hc0
  clear hr0 hc0
  have HB := Aside0.mk (Below.refl w.heap.size w)
  have H : ((winkleref12_Get.f k l0 (⟨#[67, 111, 110, 116, 101, 110, 116, 45, 84, 114, 97, 110, 115, 102, 101, 114, 45, 69, 110, 99, 111, 100, 105, 110, 103]⟩ : ByteArray)).bind fun bt494 => (if bt494.2 = true then ((winkleref13_Encoding.f k bt494.1).bind fun t496 => (winkleref19_Plan.j0 k l0 t496 0 (⟨#[]⟩ : ByteArray) 0)) else (winkleref19_Plan.j0 k l0 0 0 (⟨#[]⟩ : ByteArray) 0))) = some (r1, r2, r3, r4) := h
  clear h
  replace H := Option.bind_eq_some_iff.mp H
  obtain ⟨⟨t494, t495⟩, A20, H⟩ := H
  replace H : (if t495 = true then ((winkleref13_Encoding.f k t494).bind fun t496 => (winkleref19_Plan.j0 k l0 t496 0 (⟨#[]⟩ : ByteArray) 0)) else (winkleref19_Plan.j0 k l0 0 0 (⟨#[]⟩ : ByteArray) 0)) = some (r1, r2, r3, r4) := H
  have A2 := Aside0.mk A20
  clear A20
  have HC3 := Aside0.mk H
  clear H
  go_enter Try.func55, Try.ntmps55
  go_upto_if 15 with (first | ((with_reducible refine gate_dst (N := 2) rfl ?_); refine box_event ?hg (N := 2) ?hd (cs := #[.int .i64 0, .int .i64 0, .string (⟨#[]⟩ : ByteArray), .int .i64 0]) (t := 71) ?hr ?_; (case hd => rfl); (case hg => rfl); (case hr => first | (go_simp; done) | (go_simp; rfl)); intro gb492 hg w4 hbox hb; have n0_ := Aside0.mk (below_step (by repeat (first | (with_reducible first | exact HB.out | apply below_alloc | apply pw_below_drewN | apply below_drew1) | exact HB.out)) hb); have n1_ := Aside0.mk (hbox); have n2_ := Aside0.mk ((by rw [hg]; exact (below_size (by repeat (first | (with_reducible first | exact HB.out | apply below_alloc | apply pw_below_drewN | apply below_drew1) | exact HB.out))) : w.heap.size ≤ gb492)); have n3_ := Aside0.mk ((by rw [hg]; exact (below_size (by repeat (first | (with_reducible first | exact HB.out | apply below_alloc | apply pw_below_drewN | apply below_drew1) | exact HB.out))) : w.heap.size ≤ gb492)); clear HB; have HB := n0_; have BK492 := n1_; have GW492 := n2_; have GE492 := n3_; clear n0_ n1_ n2_ n3_; clear hb hbox hg) | ((with_reducible refine gate_dst (N := 3) rfl ?_); refine box_event ?hg (N := 3) ?hd (cs := #[.int .i64 0, .int .i64 0, .string (⟨#[]⟩ : ByteArray), .int .i64 0]) (t := 71) ?hr ?_; (case hd => rfl); (case hg => rfl); (case hr => first | (go_simp; done) | (go_simp; rfl)); intro gb493 hg w5 hbox hb; have n0_ := Aside0.mk (blk_below (g := gb492) (o := .cells #[.int .i64 0, .int .i64 0, .string (⟨#[]⟩ : ByteArray), .int .i64 0] 71 (0, 0)) (by (with_reducible repeat (first | refine blk_drewN ?_ _ | refine blk_drew ?_ | refine blk_alloc ?_ _)); exact BK492.out) hb); have n1_ := Aside0.mk (below_step (by repeat (first | (with_reducible first | exact HB.out | apply below_alloc | apply pw_below_drewN | apply below_drew1 | refine below_set ?_ GE492.out) | exact HB.out)) hb); have n2_ := Aside0.mk (hbox); have n3_ := Aside0.mk ((by rw [hg]; exact (below_size (by repeat (first | (with_reducible first | exact HB.out | apply below_alloc | apply pw_below_drewN | apply below_drew1 | refine below_set ?_ GE492.out) | exact HB.out))) : w.heap.size ≤ gb493)); have n4_ := Aside0.mk ((by rw [hg]; exact (below_size (by repeat (first | (with_reducible first | exact HB.out | apply below_alloc | apply pw_below_drewN | apply below_drew1 | refine below_set ?_ GE492.out) | exact HB.out))) : w.heap.size ≤ gb493)); have n5_ := Aside0.mk ((by rw [hg]; exact Nat.ne_of_lt (blk_lt (g := gb492) (o := .cells #[.int .i64 0, .int .i64 0, .string (⟨#[]⟩ : ByteArray), .int .i64 0] 71 (0, 0)) (by (with_reducible repeat (first | refine blk_drewN ?_ _ | refine blk_drew ?_ | refine blk_alloc ?_ _)); exact BK492.out)) : gb492 ≠ gb493)); have n6_ := Aside0.mk ((by rw [hg]; exact Nat.ne_of_gt (blk_lt (g := gb492) (o := .cells #[.int .i64 0, .int .i64 0, .string (⟨#[]⟩ : ByteArray), .int .i64 0] 71 (0, 0)) (by (with_reducible repeat (first | refine blk_drewN ?_ _ | refine blk_drew ?_ | refine blk_alloc ?_ _)); exact BK492.out)) : gb493 ≠ gb492)); clear BK492; clear HB; have BK492 := n0_; have HB := n1_; have BK493 := n2_; have GW493 := n3_; have GE493 := n4_; have NB492_493 := n5_; have NB493_492 := n6_; clear n0_ n1_ n2_ n3_ n4_ n5_ n6_; clear hb hbox hg) | ((with_reducible refine gate_callee (f := 26) rfl ?_); refine goesL_ (some 12) rfl rfl Try.func26 (by kernel_rfl) rfl #[.slice A0 l0.length c0, .string (⟨#[67, 111, 110, 116, 101, 110, 116, 45, 84, 114, 97, 110, 115, 102, 101, 114, 45, 69, 110, 99, 111, 100, 105, 110, 103]⟩ : ByteArray)] rfl (by (try simp only [List.map_toArray, List.map_cons, List.map_nil]); first | done | rfl | (simp only [List.length_drop, List.length_take]; rfl)) ?_; (with_reducible refine (winkleref12_Get.calls k _ _ l0 (⟨#[67, 111, 110, 116, 101, 110, 116, 45, 84, 114, 97, 110, 115, 102, 101, 114, 45, 69, 110, 99, 111, 100, 105, 110, 103]⟩ : ByteArray) t494 t495 _ ?side1 ?side2 A2.out).mono ?_); (case side1 => repeat (first | exact (Kd.C_below HR0.out HB.out) | (with_reducible refine Kd.C_alloc ?_ _) | (with_reducible refine Kd.C_drewN ?_ _) | (with_reducible refine Kd.C_drew ?_))); (case side2 => exact HC0.out); rintro e w' ⟨rfl, ⟨nd, rfl⟩⟩; refine ⟨_, rfl, ?_⟩))
  (try simp only [Act.put, List.setIfInBounds_toArray, List.set_cons_zero, List.set_cons_succ])
  go_cut [] (fun wc => ∃ (kq : Nat) (x494000_2 : Int), Aside0 (winkleref19_Plan.j0 kq l0 x494000_2 0 (⟨#[]⟩ : ByteArray) 0 = some (r1, r2, r3, r4)) ∧ Aside0 (kq ≤ k) ∧ Aside0 (wc.heap[gb492]? = some (.cells #[.int .i64 0, .int .i64 0, .string (⟨#[]⟩ : ByteArray), .int .i64 0] 71 (0, 0))) ∧ Aside0 (wc.heap[gb493]? = some (.cells #[.int .i64 x494000_2, .int .i64 0, .string (⟨#[]⟩ : ByteArray), .int .i64 0] 71 (0, 0))) ∧ Aside0 (Below w.heap.size w wc))
  case first =>
    have H := HC3.out
    clear HC3
    by_cases c6 : t495 = true
    · subst c6
      have H1 : ((winkleref13_Encoding.f k t494).bind fun t496 => (winkleref19_Plan.j0 k l0 t496 0 (⟨#[]⟩ : ByteArray) 0)) = some (r1, r2, r3, r4) := by rw [if_pos rfl] at H; exact H
      clear H
      have H := H1
      clear H1
      replace H := Option.bind_eq_some_iff.mp H
      obtain ⟨t496, A70, H⟩ := H
      replace H : (winkleref19_Plan.j0 k l0 t496 0 (⟨#[]⟩ : ByteArray) 0) = some (r1, r2, r3, r4) := H
      have A7 := Aside0.mk A70
      clear A70
      have H' := Aside0.mk H
      clear H
      go_wp2_with (first | ((with_reducible refine gate_callee (f := 51) rfl ?_); refine goesL_ (some 17) rfl rfl Try.func51 (by kernel_rfl) rfl #[.string t494] rfl (by (try simp only [List.map_toArray, List.map_cons, List.map_nil]); first | done | rfl | (simp only [List.length_drop, List.length_take]; rfl)) ?_; (with_reducible refine (winkleref13_Encoding.calls k t494 t496 _ A7.out).mono ?_); rintro e w8 ⟨rfl, hb⟩; refine ⟨_, rfl, ?_⟩; have n0_ := Aside0.mk (blk_below (g := gb492) (o := .cells #[.int .i64 0, .int .i64 0, .string (⟨#[]⟩ : ByteArray), .int .i64 0] 71 (0, 0)) (by (with_reducible repeat (first | refine blk_drewN ?_ _ | refine blk_drew ?_ | refine blk_alloc ?_ _)); exact BK492.out) hb); have n1_ := Aside0.mk (blk_below (g := gb493) (o := .cells #[.int .i64 0, .int .i64 0, .string (⟨#[]⟩ : ByteArray), .int .i64 0] 71 (0, 0)) (by (with_reducible repeat (first | refine blk_drewN ?_ _ | refine blk_drew ?_ | refine blk_alloc ?_ _)); exact BK493.out) hb); have n2_ := Aside0.mk (below_step (by repeat (first | (with_reducible first | exact HB.out | apply below_alloc | apply pw_below_drewN | apply below_drew1 | refine below_set ?_ GE492.out | refine below_set ?_ GE493.out) | exact HB.out)) hb); clear BK492; clear BK493; clear HB; have BK492 := n0_; have BK493 := n1_; have HB := n2_; clear n0_ n1_ n2_; (try clear hb); (try clear hb2); (try clear hk); (try clear hi); have hnb9 := NB493_492.out; have hnc9 := NB492_493.out; have hcz10_0 : w8.cell? ⟨gb493, 0, none⟩ = some (.int .i64 0) := (blk_cell BK493.out 0).trans rfl; have hcz10_1 : w8.cell? ⟨gb493, 1, none⟩ = some (.int .i64 0) := (blk_cell BK493.out 1).trans rfl; have hcz10_2 : w8.cell? ⟨gb493, 2, none⟩ = some (.string (⟨#[]⟩ : ByteArray)) := (blk_cell BK493.out 2).trans rfl; have hcz10_3 : w8.cell? ⟨gb493, 3, none⟩ = some (.int .i64 0) := (blk_cell BK493.out 3).trans rfl; have hfz10_0 := blk_frozen BK493.out 0; have hfz10_1 := blk_frozen BK493.out 1; have hfz10_2 := blk_frozen BK493.out 2; have hfz10_3 := blk_frozen BK493.out 3))
      go_meet
      case rel => exact ⟨_, (t496), H', ⟨by first | omega | exact Nat.le_refl _⟩, ⟨by (with_reducible repeat (first | refine blk_drewN ?_ _ | refine blk_drew ?_ | refine blk_alloc ?_ _)); refine blk_far ?_ NB492_493.out _; (with_reducible repeat (first | refine blk_drewN ?_ _ | refine blk_drew ?_ | refine blk_alloc ?_ _)); exact BK492.out⟩, ⟨by (with_reducible repeat (first | refine blk_drewN ?_ _ | refine blk_drew ?_ | refine blk_alloc ?_ _)); refine blk_put (cs := #[.int .i64 0, .int .i64 0, .string (⟨#[]⟩ : ByteArray), .int .i64 0]) ?_ 0 _ rfl; (with_reducible repeat (first | refine blk_drewN ?_ _ | refine blk_drew ?_ | refine blk_alloc ?_ _)); exact BK493.out⟩, ⟨by repeat (first | (with_reducible first | exact HB.out | apply below_alloc | apply pw_below_drewN | apply below_drew1 | refine below_set ?_ GE492.out | refine below_set ?_ GE493.out) | exact HB.out)⟩⟩
    · replace c6 := Bool.eq_false_iff.mpr c6
      subst c6
      have H1 : (winkleref19_Plan.j0 k l0 0 0 (⟨#[]⟩ : ByteArray) 0) = some (r1, r2, r3, r4) := by rw [if_neg (show ¬ (false = true) by decide)] at H; exact H
      clear H
      have H := H1
      clear H1
      have H' := Aside0.mk H
      clear H
      go_wp2
      go_meet
      case rel => exact ⟨_, (0), H', ⟨by first | omega | exact Nat.le_refl _⟩, ⟨by (with_reducible repeat (first | refine blk_drewN ?_ _ | refine blk_drew ?_ | refine blk_alloc ?_ _)); exact BK492.out⟩, ⟨by (with_reducible repeat (first | refine blk_drewN ?_ _ | refine blk_drew ?_ | refine blk_alloc ?_ _)); exact BK493.out⟩, ⟨by repeat (first | (with_reducible first | exact HB.out | apply below_alloc | apply pw_below_drewN | apply below_drew1 | refine below_set ?_ GE492.out | refine below_set ?_ GE493.out) | exact HB.out)⟩⟩
  case rest =>
    clear HC3
    try clear c2
    try clear p2
    try clear c5
    try clear c6
    try clear c9
    try clear hcz10_0
    try clear hcz10_1
    try clear hcz10_2
    try clear hcz10_3
    try clear hfz10_0
    try clear hfz10_1
    try clear hfz10_2
    try clear hfz10_3
    obtain ⟨kq, x494000_2, HA, HJ2, BK492, BK493, HB⟩ := hcut
    cases kq with
    | zero => exact absurd HA.out (by simp [winkleref19_Plan.j0])
    | succ kj2 =>
      have H := HA.out
      clear HA
      simp only [winkleref19_Plan.j0] at H
      by_cases c11 : x494000_2 = 3
      · rw [if_pos c11] at H
        have c11b0 : (x494000_2 == 3) = true := beq_iff_eq.mpr c11
        have c11b1 : (x494000_2 != 3) = false := bne_eq_false_iff_eq.mpr c11
        clear c11
        simp only [Option.some.injEq, Prod.mk.injEq] at H
        obtain ⟨rfl, rfl, rfl, rfl⟩ := H
        have hnb12 := NB493_492.out
        have hnc12 := NB492_493.out
        have hcz13_0 : wc.cell? ⟨gb493, 0, none⟩ = some (.int .i64 x494000_2) := (blk_cell BK493.out 0).trans rfl
        have hcz13_1 : wc.cell? ⟨gb493, 1, none⟩ = some (.int .i64 0) := (blk_cell BK493.out 1).trans rfl
        have hcz13_2 : wc.cell? ⟨gb493, 2, none⟩ = some (.string (⟨#[]⟩ : ByteArray)) := (blk_cell BK493.out 2).trans rfl
        have hcz13_3 : wc.cell? ⟨gb493, 3, none⟩ = some (.int .i64 0) := (blk_cell BK493.out 3).trans rfl
        have hfz13_0 := blk_frozen BK493.out 0
        have hfz13_1 := blk_frozen BK493.out 1
        have hfz13_2 := blk_frozen BK493.out 2
        have hfz13_3 := blk_frozen BK493.out 3
        have hcz14_0 : wc.cell? ⟨gb492, 0, none⟩ = some (.int .i64 0) := (blk_cell BK492.out 0).trans rfl
        have hcz14_1 : wc.cell? ⟨gb492, 1, none⟩ = some (.int .i64 0) := (blk_cell BK492.out 1).trans rfl
        have hcz14_2 : wc.cell? ⟨gb492, 2, none⟩ = some (.string (⟨#[]⟩ : ByteArray)) := (blk_cell BK492.out 2).trans rfl
        have hcz14_3 : wc.cell? ⟨gb492, 3, none⟩ = some (.int .i64 0) := (blk_cell BK492.out 3).trans rfl
        have hfz14_0 := blk_frozen BK492.out 0
        have hfz14_1 := blk_frozen BK492.out 1
        have hfz14_2 := blk_frozen BK492.out 2
        have hfz14_3 := blk_frozen BK492.out 3
        go_wp2
        refine bodyPost_ret (results_cell_row rfl _ _ gb492 71 #[.int .i64 x494000_2, .int .i64 1, .string (⟨#[]⟩ : ByteArray), .int .i64 0] (0, 0) _ rfl (by (with_reducible repeat (first | refine blk_drewN ?_ _ | refine blk_drew ?_ | refine blk_alloc ?_ _)); refine blk_put (cs := #[.int .i64 x494000_2, .int .i64 1, .string (⟨#[]⟩ : ByteArray), .int .i64 0]) ?_ 3 _ rfl; (with_reducible repeat (first | refine blk_drewN ?_ _ | refine blk_drew ?_ | refine blk_alloc ?_ _)); refine blk_put (cs := #[.int .i64 x494000_2, .int .i64 1, .string (⟨#[]⟩ : ByteArray), .int .i64 0]) ?_ 2 _ rfl; (with_reducible repeat (first | refine blk_drewN ?_ _ | refine blk_drew ?_ | refine blk_alloc ?_ _)); refine blk_put (cs := #[.int .i64 x494000_2, .int .i64 0, .string (⟨#[]⟩ : ByteArray), .int .i64 0]) ?_ 1 _ rfl; (with_reducible repeat (first | refine blk_drewN ?_ _ | refine blk_drew ?_ | refine blk_alloc ?_ _)); refine blk_put (cs := #[.int .i64 0, .int .i64 0, .string (⟨#[]⟩ : ByteArray), .int .i64 0]) ?_ 0 _ rfl; (with_reducible repeat (first | refine blk_drewN ?_ _ | refine blk_drew ?_ | refine blk_alloc ?_ _)); refine blk_far ?_ NB492_493.out _; (with_reducible repeat (first | refine blk_drewN ?_ _ | refine blk_drew ?_ | refine blk_alloc ?_ _)); exact BK492.out) Try.underlying71 rfl (by kernel_rfl)) rfl ?_
        exact ⟨by first | rfl | (simp [errW_none, errW_some] <;> rfl) | (simp [*, errW_none, errW_some] <;> rfl), by repeat (first | (with_reducible first | exact HB.out | apply below_alloc | apply pw_below_drewN | apply below_drew1 | refine below_set ?_ GE492.out | refine below_set ?_ GE493.out) | exact HB.out)⟩
      · rw [if_neg c11] at H
        have c11b0 : (x494000_2 == 3) = false := beq_eq_false_iff_ne.mpr c11
        have c11b1 : (x494000_2 != 3) = true := bne_iff_ne.mpr c11
        replace H := Option.bind_eq_some_iff.mp H
        obtain ⟨⟨t497, t498⟩, A150, H⟩ := H
        replace H : (if t498 = true then ((winkleref13_Type.f kj2 t497).bind fun bt499 => (if bt499.2.2.2 = true then (winkleref19_Plan.j1 kj2 bt499.2.2.2 (bt499.1.toList == ([109, 117, 108, 116, 105, 112, 97, 114, 116] : List UInt8)) x494000_2 2 (⟨#[]⟩ : ByteArray) 0 bt499.1 bt499.2.1 bt499.2.2.1) else (winkleref19_Plan.j1 kj2 bt499.2.2.2 false x494000_2 2 (⟨#[]⟩ : ByteArray) 0 bt499.1 bt499.2.1 bt499.2.2.1))) else (some (x494000_2, 2, (⟨#[]⟩ : ByteArray), 0))) = some (r1, r2, r3, r4) := H
        have A15 := Aside0.mk A150
        clear A150
        by_cases c16 : t498 = true
        · subst c16
          have H1 : ((winkleref13_Type.f kj2 t497).bind fun bt499 => (if bt499.2.2.2 = true then (winkleref19_Plan.j1 kj2 bt499.2.2.2 (bt499.1.toList == ([109, 117, 108, 116, 105, 112, 97, 114, 116] : List UInt8)) x494000_2 2 (⟨#[]⟩ : ByteArray) 0 bt499.1 bt499.2.1 bt499.2.2.1) else (winkleref19_Plan.j1 kj2 bt499.2.2.2 false x494000_2 2 (⟨#[]⟩ : ByteArray) 0 bt499.1 bt499.2.1 bt499.2.2.1))) = some (r1, r2, r3, r4) := by rw [if_pos rfl] at H; exact H
          clear H
          have H := H1
          clear H1
          replace H := Option.bind_eq_some_iff.mp H
          obtain ⟨⟨t499, t500, t501, t504⟩, A170, H⟩ := H
          replace H : (if t504 = true then (winkleref19_Plan.j1 kj2 t504 (t499.toList == ([109, 117, 108, 116, 105, 112, 97, 114, 116] : List UInt8)) x494000_2 2 (⟨#[]⟩ : ByteArray) 0 t499 t500 t501) else (winkleref19_Plan.j1 kj2 t504 false x494000_2 2 (⟨#[]⟩ : ByteArray) 0 t499 t500 t501)) = some (r1, r2, r3, r4) := H
          have A17 := Aside0.mk A170
          clear A170
          have HC18 := Aside0.mk H
          clear H
          have hnb19 := NB493_492.out
          have hnc19 := NB492_493.out
          have hcz20_0 : wc.cell? ⟨gb493, 0, none⟩ = some (.int .i64 x494000_2) := (blk_cell BK493.out 0).trans rfl
          have hcz20_1 : wc.cell? ⟨gb493, 1, none⟩ = some (.int .i64 0) := (blk_cell BK493.out 1).trans rfl
          have hcz20_2 : wc.cell? ⟨gb493, 2, none⟩ = some (.string (⟨#[]⟩ : ByteArray)) := (blk_cell BK493.out 2).trans rfl
          have hcz20_3 : wc.cell? ⟨gb493, 3, none⟩ = some (.int .i64 0) := (blk_cell BK493.out 3).trans rfl
          have hfz20_0 := blk_frozen BK493.out 0
          have hfz20_1 := blk_frozen BK493.out 1
          have hfz20_2 := blk_frozen BK493.out 2
          have hfz20_3 := blk_frozen BK493.out 3
          go_upto_region 13 with (first | ((with_reducible refine gate_callee (f := 26) rfl ?_); refine goesL_ (some 27) rfl rfl Try.func26 (by kernel_rfl) rfl #[.slice A0 l0.length c0, .string (⟨#[67, 111, 110, 116, 101, 110, 116, 45, 84, 121, 112, 101]⟩ : ByteArray)] rfl (by (try simp only [List.map_toArray, List.map_cons, List.map_nil]); first | done | rfl | (simp only [List.length_drop, List.length_take]; rfl)) ?_; (with_reducible refine (winkleref12_Get.calls kj2 _ _ l0 (⟨#[67, 111, 110, 116, 101, 110, 116, 45, 84, 121, 112, 101]⟩ : ByteArray) t497 true _ ?side1 ?side2 A15.out).mono ?_); (case side1 => exact Kd.C_below HR0.out (by repeat (first | (with_reducible first | exact HB.out | apply below_alloc | apply pw_below_drewN | apply below_drew1 | refine below_set ?_ GE492.out | refine below_set ?_ GE493.out) | exact HB.out))); (case side2 => exact HC0.out); rintro e w' ⟨rfl, ⟨nd, rfl⟩⟩; refine ⟨_, rfl, ?_⟩) | ((with_reducible refine gate_callee (f := 39) rfl ?_); refine goesL_ (some 35) rfl rfl Try.func39 (by kernel_rfl) rfl #[.string t497] rfl (by (try simp only [List.map_toArray, List.map_cons, List.map_nil]); first | done | rfl | (simp only [List.length_drop, List.length_take]; rfl)) ?_; (with_reducible refine (winkleref13_Type.calls kj2 t497 t499 t500 t501 t504 _ A17.out).mono ?_); rintro e w21 ⟨v502, rfl, ho0, hb⟩; refine ⟨_, rfl, ?_⟩; have n0_ := Aside0.mk (Kd.R_lower ho0 (below_size (by repeat (first | (with_reducible first | exact HB.out | apply below_alloc | apply pw_below_drewN | apply below_drew1 | refine below_set ?_ GE492.out | refine below_set ?_ GE493.out) | exact HB.out)))); have n1_ := Aside0.mk (blk_below (g := gb492) (o := .cells #[.int .i64 0, .int .i64 0, .string (⟨#[]⟩ : ByteArray), .int .i64 0] 71 (0, 0)) (by (with_reducible repeat (first | refine blk_drewN ?_ _ | refine blk_drew ?_ | refine blk_alloc ?_ _)); refine blk_far ?_ NB492_493.out _; (with_reducible repeat (first | refine blk_drewN ?_ _ | refine blk_drew ?_ | refine blk_alloc ?_ _)); exact BK492.out) hb); have n2_ := Aside0.mk (blk_below (g := gb493) (o := .cells #[.int .i64 x494000_2, .int .i64 2, .string (⟨#[]⟩ : ByteArray), .int .i64 0] 71 (0, 0)) (by (with_reducible repeat (first | refine blk_drewN ?_ _ | refine blk_drew ?_ | refine blk_alloc ?_ _)); refine blk_put (cs := #[.int .i64 x494000_2, .int .i64 0, .string (⟨#[]⟩ : ByteArray), .int .i64 0]) ?_ 1 _ rfl; (with_reducible repeat (first | refine blk_drewN ?_ _ | refine blk_drew ?_ | refine blk_alloc ?_ _)); exact BK493.out) hb); have n3_ := Aside0.mk (below_step (by repeat (first | (with_reducible first | exact HB.out | apply below_alloc | apply pw_below_drewN | apply below_drew1 | refine below_set ?_ GE492.out | refine below_set ?_ GE493.out) | exact HB.out)) hb); clear BK492; clear BK493; clear HB; have HO503 := n0_; have BK492 := n1_; have BK493 := n2_; have HB := n3_; clear n0_ n1_ n2_ n3_; (try clear hb); (try clear hb2); (try clear hk); (try clear hi); (try clear ho0)) | ((with_reducible refine gate_dst (N := 6) rfl ?_); refine box_event ?hg (N := 6) ?hd (cs := #[.string (⟨#[]⟩ : ByteArray), .string (⟨#[]⟩ : ByteArray), .slice none 0 0]) (t := 57) ?hr ?_; (case hd => rfl); (case hg => rfl); (case hr => first | (go_simp; done) | (go_simp; rfl)); intro gb505 hg w22 hbox hb; have n0_ := Aside0.mk (Kd.R_below (by (with_reducible repeat (first | apply Kd.R_alloc | apply Kd.R_drewN | apply Kd.R_drew)); exact HO503.out) hb); have n1_ := Aside0.mk (blk_below (g := gb492) (o := .cells #[.int .i64 0, .int .i64 0, .string (⟨#[]⟩ : ByteArray), .int .i64 0] 71 (0, 0)) (by (with_reducible repeat (first | refine blk_drewN ?_ _ | refine blk_drew ?_ | refine blk_alloc ?_ _)); exact BK492.out) hb); have n2_ := Aside0.mk (blk_below (g := gb493) (o := .cells #[.int .i64 x494000_2, .int .i64 2, .string (⟨#[]⟩ : ByteArray), .int .i64 0] 71 (0, 0)) (by (with_reducible repeat (first | refine blk_drewN ?_ _ | refine blk_drew ?_ | refine blk_alloc ?_ _)); exact BK493.out) hb); have n3_ := Aside0.mk (below_step (by repeat (first | (with_reducible first | exact HB.out | apply below_alloc | apply pw_below_drewN | apply below_drew1 | refine below_set ?_ GE492.out | refine below_set ?_ GE493.out) | exact HB.out)) hb); have n4_ := Aside0.mk (hbox); have n5_ := Aside0.mk ((by rw [hg]; exact (below_size (by repeat (first | (with_reducible first | exact HB.out | apply below_alloc | apply pw_below_drewN | apply below_drew1 | refine below_set ?_ GE492.out | refine below_set ?_ GE493.out) | exact HB.out))) : w.heap.size ≤ gb505)); have n6_ := Aside0.mk ((by rw [hg]; exact (below_size (by repeat (first | (with_reducible first | exact HB.out | apply below_alloc | apply pw_below_drewN | apply below_drew1 | refine below_set ?_ GE492.out | refine below_set ?_ GE493.out) | exact HB.out))) : w.heap.size ≤ gb505)); have n7_ := Aside0.mk ((by rw [hg]; exact Nat.ne_of_lt (blk_lt (g := gb492) (o := .cells #[.int .i64 0, .int .i64 0, .string (⟨#[]⟩ : ByteArray), .int .i64 0] 71 (0, 0)) (by (with_reducible repeat (first | refine blk_drewN ?_ _ | refine blk_drew ?_ | refine blk_alloc ?_ _)); exact BK492.out)) : gb492 ≠ gb505)); have n8_ := Aside0.mk ((by rw [hg]; exact Nat.ne_of_gt (blk_lt (g := gb492) (o := .cells #[.int .i64 0, .int .i64 0, .string (⟨#[]⟩ : ByteArray), .int .i64 0] 71 (0, 0)) (by (with_reducible repeat (first | refine blk_drewN ?_ _ | refine blk_drew ?_ | refine blk_alloc ?_ _)); exact BK492.out)) : gb505 ≠ gb492)); have n9_ := Aside0.mk ((by rw [hg]; exact Nat.ne_of_lt (blk_lt (g := gb493) (o := .cells #[.int .i64 x494000_2, .int .i64 2, .string (⟨#[]⟩ : ByteArray), .int .i64 0] 71 (0, 0)) (by (with_reducible repeat (first | refine blk_drewN ?_ _ | refine blk_drew ?_ | refine blk_alloc ?_ _)); exact BK493.out)) : gb493 ≠ gb505)); have n10_ := Aside0.mk ((by rw [hg]; exact Nat.ne_of_gt (blk_lt (g := gb493) (o := .cells #[.int .i64 x494000_2, .int .i64 2, .string (⟨#[]⟩ : ByteArray), .int .i64 0] 71 (0, 0)) (by (with_reducible repeat (first | refine blk_drewN ?_ _ | refine blk_drew ?_ | refine blk_alloc ?_ _)); exact BK493.out)) : gb505 ≠ gb493)); clear HO503; clear BK492; clear BK493; clear HB; have HO503 := n0_; have BK492 := n1_; have BK493 := n2_; have HB := n3_; have BK505 := n4_; have GW505 := n5_; have GE505 := n6_; have NB492_505 := n7_; have NB505_492 := n8_; have NB493_505 := n9_; have NB505_493 := n10_; clear n0_ n1_ n2_ n3_ n4_ n5_ n6_ n7_ n8_ n9_ n10_; clear hb hbox hg; have hnb23 := NB505_492.out; have hnc23 := NB492_505.out; have hnb24 := NB505_493.out; have hnc24 := NB493_505.out; have hcz25_0 : w22.cell? ⟨gb505, 0, none⟩ = some (.string (⟨#[]⟩ : ByteArray)) := (blk_cell BK505.out 0).trans rfl; have hcz25_1 : w22.cell? ⟨gb505, 1, none⟩ = some (.string (⟨#[]⟩ : ByteArray)) := (blk_cell BK505.out 1).trans rfl; have hcz25_2 : w22.cell? ⟨gb505, 2, none⟩ = some (.slice none 0 0) := (blk_cell BK505.out 2).trans rfl; have hfz25_0 := blk_frozen BK505.out 0; have hfz25_1 := blk_frozen BK505.out 1; have hfz25_2 := blk_frozen BK505.out 2; obtain ⟨Ao26, co26, eo26⟩ := Kd.R_slice HO503.out; subst eo26))
          (try simp only [Act.put, List.setIfInBounds_toArray, List.set_cons_zero, List.set_cons_succ])
          go_cut [43] (fun v43 wc => ∃ (kq : Nat) (x43_17 : Bool), v43 = .bool x43_17 ∧ Aside0 (winkleref19_Plan.j1 kq t504 x43_17 x494000_2 2 (⟨#[]⟩ : ByteArray) 0 t499 t500 t501 = some (r1, r2, r3, r4)) ∧ Aside0 (kq ≤ kj2) ∧ Aside0 (Kd.R k42 42 wc w.heap.size (fun _ => True) (.slice Ao26 t501.length co26) t501) ∧ Aside0 (wc.heap[gb492]? = some (.cells #[.int .i64 0, .int .i64 0, .string (⟨#[]⟩ : ByteArray), .int .i64 0] 71 (0, 0))) ∧ Aside0 (wc.heap[gb493]? = some (.cells #[.int .i64 x494000_2, .int .i64 2, .string (⟨#[]⟩ : ByteArray), .int .i64 0] 71 (0, 0))) ∧ Aside0 (wc.heap[gb505]? = some (.cells #[.string t499, .string t500, (.slice Ao26 t501.length co26)] 57 (0, 0))) ∧ Aside0 (Below w.heap.size w wc))
          case first =>
            have H := HC18.out
            clear HC18
            by_cases c27 : t504 = true
            · subst c27
              have H1 : (winkleref19_Plan.j1 kj2 true (t499.toList == ([109, 117, 108, 116, 105, 112, 97, 114, 116] : List UInt8)) x494000_2 2 (⟨#[]⟩ : ByteArray) 0 t499 t500 t501) = some (r1, r2, r3, r4) := by rw [if_pos rfl] at H; exact H
              clear H
              have H := H1
              clear H1
              have H' := Aside0.mk H
              clear H
              have hnb28 := NB505_492.out
              have hnc28 := NB492_505.out
              have hnb29 := NB505_493.out
              have hnc29 := NB493_505.out
              have hcz30_0 : w22.cell? ⟨gb505, 0, none⟩ = some (.string (⟨#[]⟩ : ByteArray)) := (blk_cell BK505.out 0).trans rfl
              have hcz30_1 : w22.cell? ⟨gb505, 1, none⟩ = some (.string (⟨#[]⟩ : ByteArray)) := (blk_cell BK505.out 1).trans rfl
              have hcz30_2 : w22.cell? ⟨gb505, 2, none⟩ = some (.slice none 0 0) := (blk_cell BK505.out 2).trans rfl
              have hfz30_0 := blk_frozen BK505.out 0
              have hfz30_1 := blk_frozen BK505.out 1
              have hfz30_2 := blk_frozen BK505.out 2
              go_wp2
              go_meet
              case rel => exact ⟨_, ((t499.toList == ([109, 117, 108, 116, 105, 112, 97, 114, 116] : List UInt8))), (by first | rfl | (simp; done) | (simp [*]; done) | (simp [isEmpty_bne]; done)), H', ⟨by have := HJ2.out; first | omega | exact Nat.le_refl _⟩, ⟨by (with_reducible repeat (first | apply Kd.R_alloc | apply Kd.R_drewN | apply Kd.R_drew)); exact Kd.R_mono (Kd.R_far (p := ⟨gb505, 2, none⟩) (Kd.R_far (p := ⟨gb505, 1, none⟩) (Kd.R_far (p := ⟨gb505, 0, none⟩) (Kd.R_types HO503.out BK505.out (by decide)) (fun _ hk => hk.2) (.string t499)) (fun _ hk => hk.2) (.string t500)) (fun _ hk => hk.2) (.slice Ao26 t501.length co26)) (fun _ hk => trivial)⟩, ⟨by (with_reducible repeat (first | refine blk_drewN ?_ _ | refine blk_drew ?_ | refine blk_alloc ?_ _)); refine blk_far ?_ NB492_505.out _; (with_reducible repeat (first | refine blk_drewN ?_ _ | refine blk_drew ?_ | refine blk_alloc ?_ _)); refine blk_far ?_ NB492_505.out _; (with_reducible repeat (first | refine blk_drewN ?_ _ | refine blk_drew ?_ | refine blk_alloc ?_ _)); refine blk_far ?_ NB492_505.out _; (with_reducible repeat (first | refine blk_drewN ?_ _ | refine blk_drew ?_ | refine blk_alloc ?_ _)); exact BK492.out⟩, ⟨by (with_reducible repeat (first | refine blk_drewN ?_ _ | refine blk_drew ?_ | refine blk_alloc ?_ _)); refine blk_far ?_ NB493_505.out _; (with_reducible repeat (first | refine blk_drewN ?_ _ | refine blk_drew ?_ | refine blk_alloc ?_ _)); refine blk_far ?_ NB493_505.out _; (with_reducible repeat (first | refine blk_drewN ?_ _ | refine blk_drew ?_ | refine blk_alloc ?_ _)); refine blk_far ?_ NB493_505.out _; (with_reducible repeat (first | refine blk_drewN ?_ _ | refine blk_drew ?_ | refine blk_alloc ?_ _)); exact BK493.out⟩, ⟨by (with_reducible repeat (first | refine blk_drewN ?_ _ | refine blk_drew ?_ | refine blk_alloc ?_ _)); refine blk_put (cs := #[.string t499, .string t500, .slice none 0 0]) ?_ 2 _ rfl; (with_reducible repeat (first | refine blk_drewN ?_ _ | refine blk_drew ?_ | refine blk_alloc ?_ _)); refine blk_put (cs := #[.string t499, .string (⟨#[]⟩ : ByteArray), .slice none 0 0]) ?_ 1 _ rfl; (with_reducible repeat (first | refine blk_drewN ?_ _ | refine blk_drew ?_ | refine blk_alloc ?_ _)); refine blk_put (cs := #[.string (⟨#[]⟩ : ByteArray), .string (⟨#[]⟩ : ByteArray), .slice none 0 0]) ?_ 0 _ rfl; (with_reducible repeat (first | refine blk_drewN ?_ _ | refine blk_drew ?_ | refine blk_alloc ?_ _)); exact BK505.out⟩, ⟨by repeat (first | (with_reducible first | exact HB.out | apply below_alloc | apply pw_below_drewN | apply below_drew1 | refine below_set ?_ GE492.out | refine below_set ?_ GE493.out | refine below_set ?_ GE505.out) | exact HB.out)⟩⟩
            · replace c27 := Bool.eq_false_iff.mpr c27
              subst c27
              have H1 : (winkleref19_Plan.j1 kj2 false false x494000_2 2 (⟨#[]⟩ : ByteArray) 0 t499 t500 t501) = some (r1, r2, r3, r4) := by rw [if_neg (show ¬ (false = true) by decide)] at H; exact H
              clear H
              have H := H1
              clear H1
              have H' := Aside0.mk H
              clear H
              go_wp2
              go_meet
              case rel => exact ⟨_, (false), (by first | rfl | (simp; done) | (simp [*]; done) | (simp [isEmpty_bne]; done)), H', ⟨by have := HJ2.out; first | omega | exact Nat.le_refl _⟩, ⟨by (with_reducible repeat (first | apply Kd.R_alloc | apply Kd.R_drewN | apply Kd.R_drew)); exact Kd.R_mono (Kd.R_far (p := ⟨gb505, 2, none⟩) (Kd.R_far (p := ⟨gb505, 1, none⟩) (Kd.R_far (p := ⟨gb505, 0, none⟩) (Kd.R_types HO503.out BK505.out (by decide)) (fun _ hk => hk.2) (.string t499)) (fun _ hk => hk.2) (.string t500)) (fun _ hk => hk.2) (.slice Ao26 t501.length co26)) (fun _ hk => trivial)⟩, ⟨by (with_reducible repeat (first | refine blk_drewN ?_ _ | refine blk_drew ?_ | refine blk_alloc ?_ _)); refine blk_far ?_ NB492_505.out _; (with_reducible repeat (first | refine blk_drewN ?_ _ | refine blk_drew ?_ | refine blk_alloc ?_ _)); refine blk_far ?_ NB492_505.out _; (with_reducible repeat (first | refine blk_drewN ?_ _ | refine blk_drew ?_ | refine blk_alloc ?_ _)); refine blk_far ?_ NB492_505.out _; (with_reducible repeat (first | refine blk_drewN ?_ _ | refine blk_drew ?_ | refine blk_alloc ?_ _)); exact BK492.out⟩, ⟨by (with_reducible repeat (first | refine blk_drewN ?_ _ | refine blk_drew ?_ | refine blk_alloc ?_ _)); refine blk_far ?_ NB493_505.out _; (with_reducible repeat (first | refine blk_drewN ?_ _ | refine blk_drew ?_ | refine blk_alloc ?_ _)); refine blk_far ?_ NB493_505.out _; (with_reducible repeat (first | refine blk_drewN ?_ _ | refine blk_drew ?_ | refine blk_alloc ?_ _)); refine blk_far ?_ NB493_505.out _; (with_reducible repeat (first | refine blk_drewN ?_ _ | refine blk_drew ?_ | refine blk_alloc ?_ _)); exact BK493.out⟩, ⟨by (with_reducible repeat (first | refine blk_drewN ?_ _ | refine blk_drew ?_ | refine blk_alloc ?_ _)); refine blk_put (cs := #[.string t499, .string t500, .slice none 0 0]) ?_ 2 _ rfl; (with_reducible repeat (first | refine blk_drewN ?_ _ | refine blk_drew ?_ | refine blk_alloc ?_ _)); refine blk_put (cs := #[.string t499, .string (⟨#[]⟩ : ByteArray), .slice none 0 0]) ?_ 1 _ rfl; (with_reducible repeat (first | refine blk_drewN ?_ _ | refine blk_drew ?_ | refine blk_alloc ?_ _)); refine blk_put (cs := #[.string (⟨#[]⟩ : ByteArray), .string (⟨#[]⟩ : ByteArray), .slice none 0 0]) ?_ 0 _ rfl; (with_reducible repeat (first | refine blk_drewN ?_ _ | refine blk_drew ?_ | refine blk_alloc ?_ _)); exact BK505.out⟩, ⟨by repeat (first | (with_reducible first | exact HB.out | apply below_alloc | apply pw_below_drewN | apply below_drew1 | refine below_set ?_ GE492.out | refine below_set ?_ GE493.out | refine below_set ?_ GE505.out) | exact HB.out)⟩⟩
          case rest =>
            clear HC18
            try clear c1
            try clear c2
            try clear p2
            try clear c3
            try clear c5
            try clear c6
            try clear c9
            try clear c11
            try clear c11b0
            try clear c11b1
            try clear c12
            try clear c16
            try clear c19
            try clear c23
            try clear c24
            try clear c26
            try clear c27
            try clear c28
            try clear c29
            try clear hcz10_0
            try clear hcz10_1
            try clear hcz10_2
            try clear hcz10_3
            try clear hcz13_0
            try clear hcz13_1
            try clear hcz13_2
            try clear hcz13_3
            try clear hcz14_0
            try clear hcz14_1
            try clear hcz14_2
            try clear hcz14_3
            try clear hcz20_0
            try clear hcz20_1
            try clear hcz20_2
            try clear hcz20_3
            try clear hcz25_0
            try clear hcz25_1
            try clear hcz25_2
            try clear hcz30_0
            try clear hcz30_1
            try clear hcz30_2
            try clear hfz10_0
            try clear hfz10_1
            try clear hfz10_2
            try clear hfz10_3
            try clear hfz13_0
            try clear hfz13_1
            try clear hfz13_2
            try clear hfz13_3
            try clear hfz14_0
            try clear hfz14_1
            try clear hfz14_2
            try clear hfz14_3
            try clear hfz20_0
            try clear hfz20_1
            try clear hfz20_2
            try clear hfz20_3
            try clear hfz25_0
            try clear hfz25_1
            try clear hfz25_2
            try clear hfz30_0
            try clear hfz30_1
            try clear hfz30_2
            try clear p2
            obtain ⟨kq, x43_17, rfl, HA, HJ17, HO_506002, BK492, BK493, BK505, HB⟩ := hcut
            cases kq with
            | zero => exact absurd HA.out (by simp [winkleref19_Plan.j1])
            | succ kj17 =>
              have H := HA.out
              clear HA
              simp only [winkleref19_Plan.j1] at H
              by_cases c31 : x43_17 = true
              · subst c31
                have H1 : ((winkleref13_Param.f kj17 t499 t500 t501 (⟨#[98, 111, 117, 110, 100, 97, 114, 121]⟩ : ByteArray)).bind fun bt506 => (if bt506.2 = true then ((winkleref14_Valid.f kj17 bt506.1).bind fun t508 => (winkleref19_Plan.j2 kj17 t504 bt506.1 (!t508) x494000_2 2 (⟨#[]⟩ : ByteArray) 0 t499 t500 t501)) else (winkleref19_Plan.j2 kj17 t504 bt506.1 true x494000_2 2 (⟨#[]⟩ : ByteArray) 0 t499 t500 t501))) = some (r1, r2, r3, r4) := by rw [if_pos rfl] at H; exact H
                clear H
                have H := H1
                clear H1
                replace H := Option.bind_eq_some_iff.mp H
                obtain ⟨⟨t506, t507⟩, A320, H⟩ := H
                replace H : (if t507 = true then ((winkleref14_Valid.f kj17 t506).bind fun t508 => (winkleref19_Plan.j2 kj17 t504 t506 (!t508) x494000_2 2 (⟨#[]⟩ : ByteArray) 0 t499 t500 t501)) else (winkleref19_Plan.j2 kj17 t504 t506 true x494000_2 2 (⟨#[]⟩ : ByteArray) 0 t499 t500 t501)) = some (r1, r2, r3, r4) := H
                have A32 := Aside0.mk A320
                clear A320
                have HC33 := Aside0.mk H
                clear H
                have hnb34 := NB505_492.out
                have hnc34 := NB492_505.out
                have hnb35 := NB505_493.out
                have hnc35 := NB493_505.out
                have hcz36_0 : wc.cell? ⟨gb505, 0, none⟩ = some (.string t499) := (blk_cell BK505.out 0).trans rfl
                have hcz36_1 : wc.cell? ⟨gb505, 1, none⟩ = some (.string t500) := (blk_cell BK505.out 1).trans rfl
                have hcz36_2 : wc.cell? ⟨gb505, 2, none⟩ = some (.slice Ao26 t501.length co26) := (blk_cell BK505.out 2).trans rfl
                have hfz36_0 := blk_frozen BK505.out 0
                have hfz36_1 := blk_frozen BK505.out 1
                have hfz36_2 := blk_frozen BK505.out 2
                go_upto_region 15 with (first | ((with_reducible refine gate_callee (f := 49) rfl ?_); refine goesL_ (some 46) rfl rfl Try.func49 (by kernel_rfl) rfl #[.agg #[.string t499, .string t500, .slice Ao26 t501.length co26], .string (⟨#[98, 111, 117, 110, 100, 97, 114, 121]⟩ : ByteArray)] rfl (by (try simp only [List.map_toArray, List.map_cons, List.map_nil]); first | done | rfl | (simp only [List.length_drop, List.length_take]; rfl)) ?_; (with_reducible refine (winkleref13_Param.calls kj17 t499 t500 _ _ t501 (⟨#[98, 111, 117, 110, 100, 97, 114, 121]⟩ : ByteArray) t506 t507 _ ?side1 ?side2 A32.out).mono ?_); (case side1 => repeat (first | exact (Kd.R_reads' HO_506002.out).2.2 | (with_reducible refine Kd.C_alloc ?_ _) | (with_reducible refine Kd.C_drewN ?_ _) | (with_reducible refine Kd.C_drew ?_))); (case side2 => exact (Kd.R_reads' HO_506002.out).2.1); rintro e w37 ⟨rfl, hb⟩; refine ⟨_, rfl, ?_⟩; have n0_ := Aside0.mk (Kd.R_below (by (with_reducible repeat (first | apply Kd.R_alloc | apply Kd.R_drewN | apply Kd.R_drew)); exact HO_506002.out) hb); have n1_ := Aside0.mk (blk_below (g := gb492) (o := .cells #[.int .i64 0, .int .i64 0, .string (⟨#[]⟩ : ByteArray), .int .i64 0] 71 (0, 0)) (by (with_reducible repeat (first | refine blk_drewN ?_ _ | refine blk_drew ?_ | refine blk_alloc ?_ _)); exact BK492.out) hb); have n2_ := Aside0.mk (blk_below (g := gb493) (o := .cells #[.int .i64 x494000_2, .int .i64 2, .string (⟨#[]⟩ : ByteArray), .int .i64 0] 71 (0, 0)) (by (with_reducible repeat (first | refine blk_drewN ?_ _ | refine blk_drew ?_ | refine blk_alloc ?_ _)); exact BK493.out) hb); have n3_ := Aside0.mk (blk_below (g := gb505) (o := .cells #[.string t499, .string t500, .slice Ao26 t501.length co26] 57 (0, 0)) (by (with_reducible repeat (first | refine blk_drewN ?_ _ | refine blk_drew ?_ | refine blk_alloc ?_ _)); exact BK505.out) hb); have n4_ := Aside0.mk (below_step (by repeat (first | (with_reducible first | exact HB.out | apply below_alloc | apply pw_below_drewN | apply below_drew1 | refine below_set ?_ GE492.out | refine below_set ?_ GE493.out | refine below_set ?_ GE505.out) | exact HB.out)) hb); clear HO_506002; clear BK492; clear BK493; clear BK505; clear HB; have HO_506002 := n0_; have BK492 := n1_; have BK493 := n2_; have BK505 := n3_; have HB := n4_; clear n0_ n1_ n2_ n3_ n4_; (try clear hb); (try clear hb2); (try clear hk); (try clear hi)))
                (try simp only [Act.put, List.setIfInBounds_toArray, List.set_cons_zero, List.set_cons_succ])
                go_cut [55] (fun v55 wc => ∃ (kq : Nat) (x55_32 : Bool), v55 = .bool x55_32 ∧ Aside0 (winkleref19_Plan.j2 kq t504 t506 x55_32 x494000_2 2 (⟨#[]⟩ : ByteArray) 0 t499 t500 t501 = some (r1, r2, r3, r4)) ∧ Aside0 (kq ≤ kj17) ∧ Aside0 (Kd.R k42 42 wc w.heap.size (fun _ => True) (.slice Ao26 t501.length co26) t501) ∧ Aside0 (wc.heap[gb492]? = some (.cells #[.int .i64 0, .int .i64 0, .string (⟨#[]⟩ : ByteArray), .int .i64 0] 71 (0, 0))) ∧ Aside0 (wc.heap[gb493]? = some (.cells #[.int .i64 x494000_2, .int .i64 2, .string (⟨#[]⟩ : ByteArray), .int .i64 0] 71 (0, 0))) ∧ Aside0 (wc.heap[gb505]? = some (.cells #[.string t499, .string t500, (.slice Ao26 t501.length co26)] 57 (0, 0))) ∧ Aside0 (Below w.heap.size w wc))
                case first =>
                  have H := HC33.out
                  clear HC33
                  by_cases c38 : t507 = true
                  · subst c38
                    have H1 : ((winkleref14_Valid.f kj17 t506).bind fun t508 => (winkleref19_Plan.j2 kj17 t504 t506 (!t508) x494000_2 2 (⟨#[]⟩ : ByteArray) 0 t499 t500 t501)) = some (r1, r2, r3, r4) := by rw [if_pos rfl] at H; exact H
                    clear H
                    have H := H1
                    clear H1
                    replace H := Option.bind_eq_some_iff.mp H
                    obtain ⟨t508, A390, H⟩ := H
                    replace H : (winkleref19_Plan.j2 kj17 t504 t506 (!t508) x494000_2 2 (⟨#[]⟩ : ByteArray) 0 t499 t500 t501) = some (r1, r2, r3, r4) := H
                    have A39 := Aside0.mk A390
                    clear A390
                    have H' := Aside0.mk H
                    clear H
                    go_wp2_with (first | (go_at_call 87; (with_reducible refine (winkleref14_Valid.calls kj17 t506 t508 _ A39.out).mono ?_); rintro e w' ⟨rfl, ⟨nd, rfl⟩⟩))
                    go_meet
                    case rel => exact ⟨_, (!t508), (by first | rfl | (simp; done) | (simp [*]; done) | (simp [isEmpty_bne]; done)), H', ⟨by have := HJ2.out; have := HJ17.out; first | omega | exact Nat.le_refl _⟩, ⟨by (with_reducible repeat (first | apply Kd.R_alloc | apply Kd.R_drewN | apply Kd.R_drew)); exact HO_506002.out⟩, ⟨by (with_reducible repeat (first | refine blk_drewN ?_ _ | refine blk_drew ?_ | refine blk_alloc ?_ _)); exact BK492.out⟩, ⟨by (with_reducible repeat (first | refine blk_drewN ?_ _ | refine blk_drew ?_ | refine blk_alloc ?_ _)); exact BK493.out⟩, ⟨by (with_reducible repeat (first | refine blk_drewN ?_ _ | refine blk_drew ?_ | refine blk_alloc ?_ _)); exact BK505.out⟩, ⟨by repeat (first | (with_reducible first | exact HB.out | apply below_alloc | apply pw_below_drewN | apply below_drew1 | refine below_set ?_ GE492.out | refine below_set ?_ GE493.out | refine below_set ?_ GE505.out) | exact HB.out)⟩⟩
                  · replace c38 := Bool.eq_false_iff.mpr c38
                    subst c38
                    have H1 : (winkleref19_Plan.j2 kj17 t504 t506 true x494000_2 2 (⟨#[]⟩ : ByteArray) 0 t499 t500 t501) = some (r1, r2, r3, r4) := by rw [if_neg (show ¬ (false = true) by decide)] at H; exact H
                    clear H
                    have H := H1
                    clear H1
                    have H' := Aside0.mk H
                    clear H
                    go_wp2
                    go_meet
                    case rel => exact ⟨_, (true), (by first | rfl | (simp; done) | (simp [*]; done) | (simp [isEmpty_bne]; done)), H', ⟨by have := HJ2.out; have := HJ17.out; first | omega | exact Nat.le_refl _⟩, ⟨by (with_reducible repeat (first | apply Kd.R_alloc | apply Kd.R_drewN | apply Kd.R_drew)); exact HO_506002.out⟩, ⟨by (with_reducible repeat (first | refine blk_drewN ?_ _ | refine blk_drew ?_ | refine blk_alloc ?_ _)); exact BK492.out⟩, ⟨by (with_reducible repeat (first | refine blk_drewN ?_ _ | refine blk_drew ?_ | refine blk_alloc ?_ _)); exact BK493.out⟩, ⟨by (with_reducible repeat (first | refine blk_drewN ?_ _ | refine blk_drew ?_ | refine blk_alloc ?_ _)); exact BK505.out⟩, ⟨by repeat (first | (with_reducible first | exact HB.out | apply below_alloc | apply pw_below_drewN | apply below_drew1 | refine below_set ?_ GE492.out | refine below_set ?_ GE493.out | refine below_set ?_ GE505.out) | exact HB.out)⟩⟩
                case rest =>
                  clear HC33
                  try clear c1
                  try clear c2
                  try clear p2
                  try clear c3
                  try clear c4
                  try clear c5
                  try clear c6
                  try clear c9
                  try clear c11
                  try clear c11b0
                  try clear c11b1
                  try clear c12
                  try clear c16
                  try clear c19
                  try clear c23
                  try clear c24
                  try clear c26
                  try clear c27
                  try clear c28
                  try clear c29
                  try clear c31
                  try clear c34
                  try clear c35
                  try clear c38
                  try clear c39
                  try clear hcz10_0
                  try clear hcz10_1
                  try clear hcz10_2
                  try clear hcz10_3
                  try clear hcz13_0
                  try clear hcz13_1
                  try clear hcz13_2
                  try clear hcz13_3
                  try clear hcz14_0
                  try clear hcz14_1
                  try clear hcz14_2
                  try clear hcz14_3
                  try clear hcz20_0
                  try clear hcz20_1
                  try clear hcz20_2
                  try clear hcz20_3
                  try clear hcz25_0
                  try clear hcz25_1
                  try clear hcz25_2
                  try clear hcz30_0
                  try clear hcz30_1
                  try clear hcz30_2
                  try clear hcz36_0
                  try clear hcz36_1
                  try clear hcz36_2
                  try clear hfz10_0
                  try clear hfz10_1
                  try clear hfz10_2
                  try clear hfz10_3
                  try clear hfz13_0
                  try clear hfz13_1
                  try clear hfz13_2
                  try clear hfz13_3
                  try clear hfz14_0
                  try clear hfz14_1
                  try clear hfz14_2
                  try clear hfz14_3
                  try clear hfz20_0
                  try clear hfz20_1
                  try clear hfz20_2
                  try clear hfz20_3
                  try clear hfz25_0
                  try clear hfz25_1
                  try clear hfz25_2
                  try clear hfz30_0
                  try clear hfz30_1
                  try clear hfz30_2
                  try clear hfz36_0
                  try clear hfz36_1
                  try clear hfz36_2
                  try clear p2
                  obtain ⟨kq, x55_32, rfl, HA, HJ32, HO_506002, BK492, BK493, BK505, HB⟩ := hcut
                  cases kq with
                  | zero => exact absurd HA.out (by simp [winkleref19_Plan.j2])
                  | succ kj32 =>
                    have H := HA.out
                    clear HA
                    simp only [winkleref19_Plan.j2] at H
                    by_cases c40 : x55_32 = true
                    · subst c40
                      have H1 : (some (0, 0, (⟨#[]⟩ : ByteArray), 32)) = some (r1, r2, r3, r4) := by rw [if_pos rfl] at H; exact H
                      clear H
                      have H := H1
                      clear H1
                      simp only [Option.some.injEq, Prod.mk.injEq] at H
                      obtain ⟨rfl, rfl, rfl, rfl⟩ := H
                      have hnb41 := NB492_493.out
                      have hnc41 := NB493_492.out
                      have hnb42 := NB492_505.out
                      have hnc42 := NB505_492.out
                      have hcz43_0 : wc.cell? ⟨gb492, 0, none⟩ = some (.int .i64 0) := (blk_cell BK492.out 0).trans rfl
                      have hcz43_1 : wc.cell? ⟨gb492, 1, none⟩ = some (.int .i64 0) := (blk_cell BK492.out 1).trans rfl
                      have hcz43_2 : wc.cell? ⟨gb492, 2, none⟩ = some (.string (⟨#[]⟩ : ByteArray)) := (blk_cell BK492.out 2).trans rfl
                      have hcz43_3 : wc.cell? ⟨gb492, 3, none⟩ = some (.int .i64 0) := (blk_cell BK492.out 3).trans rfl
                      have hfz43_0 := blk_frozen BK492.out 0
                      have hfz43_1 := blk_frozen BK492.out 1
                      have hfz43_2 := blk_frozen BK492.out 2
                      have hfz43_3 := blk_frozen BK492.out 3
                      go_wp2
                      refine bodyPost_ret (results_cell_row rfl _ _ gb492 71 #[.int .i64 0, .int .i64 0, .string (⟨#[]⟩ : ByteArray), .int .i64 32] (0, 0) _ rfl (by (with_reducible repeat (first | refine blk_drewN ?_ _ | refine blk_drew ?_ | refine blk_alloc ?_ _)); refine blk_put (cs := #[.int .i64 0, .int .i64 0, .string (⟨#[]⟩ : ByteArray), .int .i64 0]) ?_ 3 _ rfl; (with_reducible repeat (first | refine blk_drewN ?_ _ | refine blk_drew ?_ | refine blk_alloc ?_ _)); refine blk_put (cs := #[.int .i64 0, .int .i64 0, .string (⟨#[]⟩ : ByteArray), .int .i64 0]) ?_ 2 _ rfl; (with_reducible repeat (first | refine blk_drewN ?_ _ | refine blk_drew ?_ | refine blk_alloc ?_ _)); refine blk_put (cs := #[.int .i64 0, .int .i64 0, .string (⟨#[]⟩ : ByteArray), .int .i64 0]) ?_ 1 _ rfl; (with_reducible repeat (first | refine blk_drewN ?_ _ | refine blk_drew ?_ | refine blk_alloc ?_ _)); refine blk_put (cs := #[.int .i64 0, .int .i64 0, .string (⟨#[]⟩ : ByteArray), .int .i64 0]) ?_ 0 _ rfl; (with_reducible repeat (first | refine blk_drewN ?_ _ | refine blk_drew ?_ | refine blk_alloc ?_ _)); exact BK492.out) Try.underlying71 rfl (by kernel_rfl)) rfl ?_
                      exact ⟨by first | rfl | (simp [errW_none, errW_some] <;> rfl) | (simp [*, errW_none, errW_some] <;> rfl), by repeat (first | (with_reducible first | exact HB.out | apply below_alloc | apply pw_below_drewN | apply below_drew1 | refine below_set ?_ GE492.out | refine below_set ?_ GE493.out | refine below_set ?_ GE505.out) | exact HB.out)⟩
                    · replace c40 := Bool.eq_false_iff.mpr c40
                      subst c40
                      have H1 : (if t504 = true then (if t499.toList = ([109, 101, 115, 115, 97, 103, 101] : List UInt8) then (if t500.toList = ([114, 102, 99, 56, 50, 50] : List UInt8) then (some (x494000_2, 3, t506, 0)) else (some (x494000_2, 4, t506, 0))) else (some (x494000_2, 4, t506, 0))) else (some (x494000_2, 4, t506, 0))) = some (r1, r2, r3, r4) := by rw [if_neg (show ¬ (false = true) by decide)] at H; exact H
                      clear H
                      have H := H1
                      clear H1
                      by_cases c44 : t504 = true
                      · subst c44
                        have H1 : (if t499.toList = ([109, 101, 115, 115, 97, 103, 101] : List UInt8) then (if t500.toList = ([114, 102, 99, 56, 50, 50] : List UInt8) then (some (x494000_2, 3, t506, 0)) else (some (x494000_2, 4, t506, 0))) else (some (x494000_2, 4, t506, 0))) = some (r1, r2, r3, r4) := by rw [if_pos rfl] at H; exact H
                        clear H
                        have H := H1
                        clear H1
                        by_cases c45 : t499.toList = ([109, 101, 115, 115, 97, 103, 101] : List UInt8)
                        · rw [if_pos c45] at H
                          have c45b0 : (t499.toList == ([109, 101, 115, 115, 97, 103, 101] : List UInt8)) = true := beq_iff_eq.mpr c45
                          have c45b1 : (t499.toList != ([109, 101, 115, 115, 97, 103, 101] : List UInt8)) = false := bne_eq_false_iff_eq.mpr c45
                          clear c45
                          by_cases c46 : t500.toList = ([114, 102, 99, 56, 50, 50] : List UInt8)
                          · rw [if_pos c46] at H
                            have c46b0 : (t500.toList == ([114, 102, 99, 56, 50, 50] : List UInt8)) = true := beq_iff_eq.mpr c46
                            have c46b1 : (t500.toList != ([114, 102, 99, 56, 50, 50] : List UInt8)) = false := bne_eq_false_iff_eq.mpr c46
                            clear c46
                            simp only [Option.some.injEq, Prod.mk.injEq] at H
                            obtain ⟨rfl, rfl, rfl, rfl⟩ := H
                            have hnb47 := NB493_492.out
                            have hnc47 := NB492_493.out
                            have hnb48 := NB493_505.out
                            have hnc48 := NB505_493.out
                            have hcz49_0 : wc.cell? ⟨gb493, 0, none⟩ = some (.int .i64 x494000_2) := (blk_cell BK493.out 0).trans rfl
                            have hcz49_1 : wc.cell? ⟨gb493, 1, none⟩ = some (.int .i64 2) := (blk_cell BK493.out 1).trans rfl
                            have hcz49_2 : wc.cell? ⟨gb493, 2, none⟩ = some (.string (⟨#[]⟩ : ByteArray)) := (blk_cell BK493.out 2).trans rfl
                            have hcz49_3 : wc.cell? ⟨gb493, 3, none⟩ = some (.int .i64 0) := (blk_cell BK493.out 3).trans rfl
                            have hfz49_0 := blk_frozen BK493.out 0
                            have hfz49_1 := blk_frozen BK493.out 1
                            have hfz49_2 := blk_frozen BK493.out 2
                            have hfz49_3 := blk_frozen BK493.out 3
                            have hnb50 := NB505_492.out
                            have hnc50 := NB492_505.out
                            have hcz51_0 : wc.cell? ⟨gb505, 0, none⟩ = some (.string t499) := (blk_cell BK505.out 0).trans rfl
                            have hcz51_1 : wc.cell? ⟨gb505, 1, none⟩ = some (.string t500) := (blk_cell BK505.out 1).trans rfl
                            have hcz51_2 : wc.cell? ⟨gb505, 2, none⟩ = some (.slice Ao26 t501.length co26) := (blk_cell BK505.out 2).trans rfl
                            have hfz51_0 := blk_frozen BK505.out 0
                            have hfz51_1 := blk_frozen BK505.out 1
                            have hfz51_2 := blk_frozen BK505.out 2
                            have hcz52_0 : wc.cell? ⟨gb492, 0, none⟩ = some (.int .i64 0) := (blk_cell BK492.out 0).trans rfl
                            have hcz52_1 : wc.cell? ⟨gb492, 1, none⟩ = some (.int .i64 0) := (blk_cell BK492.out 1).trans rfl
                            have hcz52_2 : wc.cell? ⟨gb492, 2, none⟩ = some (.string (⟨#[]⟩ : ByteArray)) := (blk_cell BK492.out 2).trans rfl
                            have hcz52_3 : wc.cell? ⟨gb492, 3, none⟩ = some (.int .i64 0) := (blk_cell BK492.out 3).trans rfl
                            have hfz52_0 := blk_frozen BK492.out 0
                            have hfz52_1 := blk_frozen BK492.out 1
                            have hfz52_2 := blk_frozen BK492.out 2
                            have hfz52_3 := blk_frozen BK492.out 3
                            go_wp2
                            refine bodyPost_ret (results_cell_row rfl _ _ gb492 71 #[.int .i64 x494000_2, .int .i64 3, .string t506, .int .i64 0] (0, 0) _ rfl (by (with_reducible repeat (first | refine blk_drewN ?_ _ | refine blk_drew ?_ | refine blk_alloc ?_ _)); refine blk_put (cs := #[.int .i64 x494000_2, .int .i64 3, .string t506, .int .i64 0]) ?_ 3 _ rfl; (with_reducible repeat (first | refine blk_drewN ?_ _ | refine blk_drew ?_ | refine blk_alloc ?_ _)); refine blk_put (cs := #[.int .i64 x494000_2, .int .i64 3, .string (⟨#[]⟩ : ByteArray), .int .i64 0]) ?_ 2 _ rfl; (with_reducible repeat (first | refine blk_drewN ?_ _ | refine blk_drew ?_ | refine blk_alloc ?_ _)); refine blk_put (cs := #[.int .i64 x494000_2, .int .i64 0, .string (⟨#[]⟩ : ByteArray), .int .i64 0]) ?_ 1 _ rfl; (with_reducible repeat (first | refine blk_drewN ?_ _ | refine blk_drew ?_ | refine blk_alloc ?_ _)); refine blk_put (cs := #[.int .i64 0, .int .i64 0, .string (⟨#[]⟩ : ByteArray), .int .i64 0]) ?_ 0 _ rfl; (with_reducible repeat (first | refine blk_drewN ?_ _ | refine blk_drew ?_ | refine blk_alloc ?_ _)); refine blk_far ?_ NB492_493.out _; (with_reducible repeat (first | refine blk_drewN ?_ _ | refine blk_drew ?_ | refine blk_alloc ?_ _)); refine blk_far ?_ NB492_493.out _; (with_reducible repeat (first | refine blk_drewN ?_ _ | refine blk_drew ?_ | refine blk_alloc ?_ _)); refine blk_far ?_ NB492_493.out _; (with_reducible repeat (first | refine blk_drewN ?_ _ | refine blk_drew ?_ | refine blk_alloc ?_ _)); exact BK492.out) Try.underlying71 rfl (by kernel_rfl)) rfl ?_
                            exact ⟨by first | rfl | (simp [errW_none, errW_some] <;> rfl) | (simp [*, errW_none, errW_some] <;> rfl), by repeat (first | (with_reducible first | exact HB.out | apply below_alloc | apply pw_below_drewN | apply below_drew1 | refine below_set ?_ GE492.out | refine below_set ?_ GE493.out | refine below_set ?_ GE505.out) | exact HB.out)⟩
                          · rw [if_neg c46] at H
                            have c46b0 : (t500.toList == ([114, 102, 99, 56, 50, 50] : List UInt8)) = false := beq_eq_false_iff_ne.mpr c46
                            have c46b1 : (t500.toList != ([114, 102, 99, 56, 50, 50] : List UInt8)) = true := bne_iff_ne.mpr c46
                            simp only [Option.some.injEq, Prod.mk.injEq] at H
                            obtain ⟨rfl, rfl, rfl, rfl⟩ := H
                            have hnb53 := NB493_492.out
                            have hnc53 := NB492_493.out
                            have hnb54 := NB493_505.out
                            have hnc54 := NB505_493.out
                            have hcz55_0 : wc.cell? ⟨gb493, 0, none⟩ = some (.int .i64 x494000_2) := (blk_cell BK493.out 0).trans rfl
                            have hcz55_1 : wc.cell? ⟨gb493, 1, none⟩ = some (.int .i64 2) := (blk_cell BK493.out 1).trans rfl
                            have hcz55_2 : wc.cell? ⟨gb493, 2, none⟩ = some (.string (⟨#[]⟩ : ByteArray)) := (blk_cell BK493.out 2).trans rfl
                            have hcz55_3 : wc.cell? ⟨gb493, 3, none⟩ = some (.int .i64 0) := (blk_cell BK493.out 3).trans rfl
                            have hfz55_0 := blk_frozen BK493.out 0
                            have hfz55_1 := blk_frozen BK493.out 1
                            have hfz55_2 := blk_frozen BK493.out 2
                            have hfz55_3 := blk_frozen BK493.out 3
                            have hnb56 := NB505_492.out
                            have hnc56 := NB492_505.out
                            have hcz57_0 : wc.cell? ⟨gb505, 0, none⟩ = some (.string t499) := (blk_cell BK505.out 0).trans rfl
                            have hcz57_1 : wc.cell? ⟨gb505, 1, none⟩ = some (.string t500) := (blk_cell BK505.out 1).trans rfl
                            have hcz57_2 : wc.cell? ⟨gb505, 2, none⟩ = some (.slice Ao26 t501.length co26) := (blk_cell BK505.out 2).trans rfl
                            have hfz57_0 := blk_frozen BK505.out 0
                            have hfz57_1 := blk_frozen BK505.out 1
                            have hfz57_2 := blk_frozen BK505.out 2
                            have hcz58_0 : wc.cell? ⟨gb492, 0, none⟩ = some (.int .i64 0) := (blk_cell BK492.out 0).trans rfl
                            have hcz58_1 : wc.cell? ⟨gb492, 1, none⟩ = some (.int .i64 0) := (blk_cell BK492.out 1).trans rfl
                            have hcz58_2 : wc.cell? ⟨gb492, 2, none⟩ = some (.string (⟨#[]⟩ : ByteArray)) := (blk_cell BK492.out 2).trans rfl
                            have hcz58_3 : wc.cell? ⟨gb492, 3, none⟩ = some (.int .i64 0) := (blk_cell BK492.out 3).trans rfl
                            have hfz58_0 := blk_frozen BK492.out 0
                            have hfz58_1 := blk_frozen BK492.out 1
                            have hfz58_2 := blk_frozen BK492.out 2
                            have hfz58_3 := blk_frozen BK492.out 3
                            go_wp2
                            refine bodyPost_ret (results_cell_row rfl _ _ gb492 71 #[.int .i64 x494000_2, .int .i64 4, .string t506, .int .i64 0] (0, 0) _ rfl (by (with_reducible repeat (first | refine blk_drewN ?_ _ | refine blk_drew ?_ | refine blk_alloc ?_ _)); refine blk_put (cs := #[.int .i64 x494000_2, .int .i64 4, .string t506, .int .i64 0]) ?_ 3 _ rfl; (with_reducible repeat (first | refine blk_drewN ?_ _ | refine blk_drew ?_ | refine blk_alloc ?_ _)); refine blk_put (cs := #[.int .i64 x494000_2, .int .i64 4, .string (⟨#[]⟩ : ByteArray), .int .i64 0]) ?_ 2 _ rfl; (with_reducible repeat (first | refine blk_drewN ?_ _ | refine blk_drew ?_ | refine blk_alloc ?_ _)); refine blk_put (cs := #[.int .i64 x494000_2, .int .i64 0, .string (⟨#[]⟩ : ByteArray), .int .i64 0]) ?_ 1 _ rfl; (with_reducible repeat (first | refine blk_drewN ?_ _ | refine blk_drew ?_ | refine blk_alloc ?_ _)); refine blk_put (cs := #[.int .i64 0, .int .i64 0, .string (⟨#[]⟩ : ByteArray), .int .i64 0]) ?_ 0 _ rfl; (with_reducible repeat (first | refine blk_drewN ?_ _ | refine blk_drew ?_ | refine blk_alloc ?_ _)); refine blk_far ?_ NB492_493.out _; (with_reducible repeat (first | refine blk_drewN ?_ _ | refine blk_drew ?_ | refine blk_alloc ?_ _)); refine blk_far ?_ NB492_493.out _; (with_reducible repeat (first | refine blk_drewN ?_ _ | refine blk_drew ?_ | refine blk_alloc ?_ _)); exact BK492.out) Try.underlying71 rfl (by kernel_rfl)) rfl ?_
                            exact ⟨by first | rfl | (simp [errW_none, errW_some] <;> rfl) | (simp [*, errW_none, errW_some] <;> rfl), by repeat (first | (with_reducible first | exact HB.out | apply below_alloc | apply pw_below_drewN | apply below_drew1 | refine below_set ?_ GE492.out | refine below_set ?_ GE493.out | refine below_set ?_ GE505.out) | exact HB.out)⟩
                        · rw [if_neg c45] at H
                          have c45b0 : (t499.toList == ([109, 101, 115, 115, 97, 103, 101] : List UInt8)) = false := beq_eq_false_iff_ne.mpr c45
                          have c45b1 : (t499.toList != ([109, 101, 115, 115, 97, 103, 101] : List UInt8)) = true := bne_iff_ne.mpr c45
                          simp only [Option.some.injEq, Prod.mk.injEq] at H
                          obtain ⟨rfl, rfl, rfl, rfl⟩ := H
                          have hnb59 := NB493_492.out
                          have hnc59 := NB492_493.out
                          have hnb60 := NB493_505.out
                          have hnc60 := NB505_493.out
                          have hcz61_0 : wc.cell? ⟨gb493, 0, none⟩ = some (.int .i64 x494000_2) := (blk_cell BK493.out 0).trans rfl
                          have hcz61_1 : wc.cell? ⟨gb493, 1, none⟩ = some (.int .i64 2) := (blk_cell BK493.out 1).trans rfl
                          have hcz61_2 : wc.cell? ⟨gb493, 2, none⟩ = some (.string (⟨#[]⟩ : ByteArray)) := (blk_cell BK493.out 2).trans rfl
                          have hcz61_3 : wc.cell? ⟨gb493, 3, none⟩ = some (.int .i64 0) := (blk_cell BK493.out 3).trans rfl
                          have hfz61_0 := blk_frozen BK493.out 0
                          have hfz61_1 := blk_frozen BK493.out 1
                          have hfz61_2 := blk_frozen BK493.out 2
                          have hfz61_3 := blk_frozen BK493.out 3
                          have hnb62 := NB505_492.out
                          have hnc62 := NB492_505.out
                          have hcz63_0 : wc.cell? ⟨gb505, 0, none⟩ = some (.string t499) := (blk_cell BK505.out 0).trans rfl
                          have hcz63_1 : wc.cell? ⟨gb505, 1, none⟩ = some (.string t500) := (blk_cell BK505.out 1).trans rfl
                          have hcz63_2 : wc.cell? ⟨gb505, 2, none⟩ = some (.slice Ao26 t501.length co26) := (blk_cell BK505.out 2).trans rfl
                          have hfz63_0 := blk_frozen BK505.out 0
                          have hfz63_1 := blk_frozen BK505.out 1
                          have hfz63_2 := blk_frozen BK505.out 2
                          have hcz64_0 : wc.cell? ⟨gb492, 0, none⟩ = some (.int .i64 0) := (blk_cell BK492.out 0).trans rfl
                          have hcz64_1 : wc.cell? ⟨gb492, 1, none⟩ = some (.int .i64 0) := (blk_cell BK492.out 1).trans rfl
                          have hcz64_2 : wc.cell? ⟨gb492, 2, none⟩ = some (.string (⟨#[]⟩ : ByteArray)) := (blk_cell BK492.out 2).trans rfl
                          have hcz64_3 : wc.cell? ⟨gb492, 3, none⟩ = some (.int .i64 0) := (blk_cell BK492.out 3).trans rfl
                          have hfz64_0 := blk_frozen BK492.out 0
                          have hfz64_1 := blk_frozen BK492.out 1
                          have hfz64_2 := blk_frozen BK492.out 2
                          have hfz64_3 := blk_frozen BK492.out 3
                          go_wp2
                          refine bodyPost_ret (results_cell_row rfl _ _ gb492 71 #[.int .i64 x494000_2, .int .i64 4, .string t506, .int .i64 0] (0, 0) _ rfl (by (with_reducible repeat (first | refine blk_drewN ?_ _ | refine blk_drew ?_ | refine blk_alloc ?_ _)); refine blk_put (cs := #[.int .i64 x494000_2, .int .i64 4, .string t506, .int .i64 0]) ?_ 3 _ rfl; (with_reducible repeat (first | refine blk_drewN ?_ _ | refine blk_drew ?_ | refine blk_alloc ?_ _)); refine blk_put (cs := #[.int .i64 x494000_2, .int .i64 4, .string (⟨#[]⟩ : ByteArray), .int .i64 0]) ?_ 2 _ rfl; (with_reducible repeat (first | refine blk_drewN ?_ _ | refine blk_drew ?_ | refine blk_alloc ?_ _)); refine blk_put (cs := #[.int .i64 x494000_2, .int .i64 0, .string (⟨#[]⟩ : ByteArray), .int .i64 0]) ?_ 1 _ rfl; (with_reducible repeat (first | refine blk_drewN ?_ _ | refine blk_drew ?_ | refine blk_alloc ?_ _)); refine blk_put (cs := #[.int .i64 0, .int .i64 0, .string (⟨#[]⟩ : ByteArray), .int .i64 0]) ?_ 0 _ rfl; (with_reducible repeat (first | refine blk_drewN ?_ _ | refine blk_drew ?_ | refine blk_alloc ?_ _)); refine blk_far ?_ NB492_493.out _; (with_reducible repeat (first | refine blk_drewN ?_ _ | refine blk_drew ?_ | refine blk_alloc ?_ _)); refine blk_far ?_ NB492_493.out _; (with_reducible repeat (first | refine blk_drewN ?_ _ | refine blk_drew ?_ | refine blk_alloc ?_ _)); exact BK492.out) Try.underlying71 rfl (by kernel_rfl)) rfl ?_
                          exact ⟨by first | rfl | (simp [errW_none, errW_some] <;> rfl) | (simp [*, errW_none, errW_some] <;> rfl), by repeat (first | (with_reducible first | exact HB.out | apply below_alloc | apply pw_below_drewN | apply below_drew1 | refine below_set ?_ GE492.out | refine below_set ?_ GE493.out | refine below_set ?_ GE505.out) | exact HB.out)⟩
                      · replace c44 := Bool.eq_false_iff.mpr c44
                        subst c44
                        have H1 : (some (x494000_2, 4, t506, 0)) = some (r1, r2, r3, r4) := by rw [if_neg (show ¬ (false = true) by decide)] at H; exact H
                        clear H
                        have H := H1
                        clear H1
                        simp only [Option.some.injEq, Prod.mk.injEq] at H
                        obtain ⟨rfl, rfl, rfl, rfl⟩ := H
                        have hnb65 := NB493_492.out
                        have hnc65 := NB492_493.out
                        have hnb66 := NB493_505.out
                        have hnc66 := NB505_493.out
                        have hcz67_0 : wc.cell? ⟨gb493, 0, none⟩ = some (.int .i64 x494000_2) := (blk_cell BK493.out 0).trans rfl
                        have hcz67_1 : wc.cell? ⟨gb493, 1, none⟩ = some (.int .i64 2) := (blk_cell BK493.out 1).trans rfl
                        have hcz67_2 : wc.cell? ⟨gb493, 2, none⟩ = some (.string (⟨#[]⟩ : ByteArray)) := (blk_cell BK493.out 2).trans rfl
                        have hcz67_3 : wc.cell? ⟨gb493, 3, none⟩ = some (.int .i64 0) := (blk_cell BK493.out 3).trans rfl
                        have hfz67_0 := blk_frozen BK493.out 0
                        have hfz67_1 := blk_frozen BK493.out 1
                        have hfz67_2 := blk_frozen BK493.out 2
                        have hfz67_3 := blk_frozen BK493.out 3
                        have hnb68 := NB492_505.out
                        have hnc68 := NB505_492.out
                        have hcz69_0 : wc.cell? ⟨gb492, 0, none⟩ = some (.int .i64 0) := (blk_cell BK492.out 0).trans rfl
                        have hcz69_1 : wc.cell? ⟨gb492, 1, none⟩ = some (.int .i64 0) := (blk_cell BK492.out 1).trans rfl
                        have hcz69_2 : wc.cell? ⟨gb492, 2, none⟩ = some (.string (⟨#[]⟩ : ByteArray)) := (blk_cell BK492.out 2).trans rfl
                        have hcz69_3 : wc.cell? ⟨gb492, 3, none⟩ = some (.int .i64 0) := (blk_cell BK492.out 3).trans rfl
                        have hfz69_0 := blk_frozen BK492.out 0
                        have hfz69_1 := blk_frozen BK492.out 1
                        have hfz69_2 := blk_frozen BK492.out 2
                        have hfz69_3 := blk_frozen BK492.out 3
                        go_wp2
                        refine bodyPost_ret (results_cell_row rfl _ _ gb492 71 #[.int .i64 x494000_2, .int .i64 4, .string t506, .int .i64 0] (0, 0) _ rfl (by (with_reducible repeat (first | refine blk_drewN ?_ _ | refine blk_drew ?_ | refine blk_alloc ?_ _)); refine blk_put (cs := #[.int .i64 x494000_2, .int .i64 4, .string t506, .int .i64 0]) ?_ 3 _ rfl; (with_reducible repeat (first | refine blk_drewN ?_ _ | refine blk_drew ?_ | refine blk_alloc ?_ _)); refine blk_put (cs := #[.int .i64 x494000_2, .int .i64 4, .string (⟨#[]⟩ : ByteArray), .int .i64 0]) ?_ 2 _ rfl; (with_reducible repeat (first | refine blk_drewN ?_ _ | refine blk_drew ?_ | refine blk_alloc ?_ _)); refine blk_put (cs := #[.int .i64 x494000_2, .int .i64 0, .string (⟨#[]⟩ : ByteArray), .int .i64 0]) ?_ 1 _ rfl; (with_reducible repeat (first | refine blk_drewN ?_ _ | refine blk_drew ?_ | refine blk_alloc ?_ _)); refine blk_put (cs := #[.int .i64 0, .int .i64 0, .string (⟨#[]⟩ : ByteArray), .int .i64 0]) ?_ 0 _ rfl; (with_reducible repeat (first | refine blk_drewN ?_ _ | refine blk_drew ?_ | refine blk_alloc ?_ _)); refine blk_far ?_ NB492_493.out _; (with_reducible repeat (first | refine blk_drewN ?_ _ | refine blk_drew ?_ | refine blk_alloc ?_ _)); refine blk_far ?_ NB492_493.out _; (with_reducible repeat (first | refine blk_drewN ?_ _ | refine blk_drew ?_ | refine blk_alloc ?_ _)); exact BK492.out) Try.underlying71 rfl (by kernel_rfl)) rfl ?_
                        exact ⟨by first | rfl | (simp [errW_none, errW_some] <;> rfl) | (simp [*, errW_none, errW_some] <;> rfl), by repeat (first | (with_reducible first | exact HB.out | apply below_alloc | apply pw_below_drewN | apply below_drew1 | refine below_set ?_ GE492.out | refine below_set ?_ GE493.out | refine below_set ?_ GE505.out) | exact HB.out)⟩
              · replace c31 := Bool.eq_false_iff.mpr c31
                subst c31
                have H1 : (if t504 = true then (if t499.toList = ([109, 101, 115, 115, 97, 103, 101] : List UInt8) then (if t500.toList = ([114, 102, 99, 56, 50, 50] : List UInt8) then (some (x494000_2, 3, (⟨#[]⟩ : ByteArray), 0)) else (some (x494000_2, 2, (⟨#[]⟩ : ByteArray), 0))) else (some (x494000_2, 2, (⟨#[]⟩ : ByteArray), 0))) else (some (x494000_2, 2, (⟨#[]⟩ : ByteArray), 0))) = some (r1, r2, r3, r4) := by rw [if_neg (show ¬ (false = true) by decide)] at H; exact H
                clear H
                have H := H1
                clear H1
                by_cases c70 : t504 = true
                · subst c70
                  have H1 : (if t499.toList = ([109, 101, 115, 115, 97, 103, 101] : List UInt8) then (if t500.toList = ([114, 102, 99, 56, 50, 50] : List UInt8) then (some (x494000_2, 3, (⟨#[]⟩ : ByteArray), 0)) else (some (x494000_2, 2, (⟨#[]⟩ : ByteArray), 0))) else (some (x494000_2, 2, (⟨#[]⟩ : ByteArray), 0))) = some (r1, r2, r3, r4) := by rw [if_pos rfl] at H; exact H
                  clear H
                  have H := H1
                  clear H1
                  by_cases c71 : t499.toList = ([109, 101, 115, 115, 97, 103, 101] : List UInt8)
                  · rw [if_pos c71] at H
                    have c71b0 : (t499.toList == ([109, 101, 115, 115, 97, 103, 101] : List UInt8)) = true := beq_iff_eq.mpr c71
                    have c71b1 : (t499.toList != ([109, 101, 115, 115, 97, 103, 101] : List UInt8)) = false := bne_eq_false_iff_eq.mpr c71
                    clear c71
                    by_cases c72 : t500.toList = ([114, 102, 99, 56, 50, 50] : List UInt8)
                    · rw [if_pos c72] at H
                      have c72b0 : (t500.toList == ([114, 102, 99, 56, 50, 50] : List UInt8)) = true := beq_iff_eq.mpr c72
                      have c72b1 : (t500.toList != ([114, 102, 99, 56, 50, 50] : List UInt8)) = false := bne_eq_false_iff_eq.mpr c72
                      clear c72
                      simp only [Option.some.injEq, Prod.mk.injEq] at H
                      obtain ⟨rfl, rfl, rfl, rfl⟩ := H
                      have hnb73 := NB505_492.out
                      have hnc73 := NB492_505.out
                      have hnb74 := NB505_493.out
                      have hnc74 := NB493_505.out
                      have hcz75_0 : wc.cell? ⟨gb505, 0, none⟩ = some (.string t499) := (blk_cell BK505.out 0).trans rfl
                      have hcz75_1 : wc.cell? ⟨gb505, 1, none⟩ = some (.string t500) := (blk_cell BK505.out 1).trans rfl
                      have hcz75_2 : wc.cell? ⟨gb505, 2, none⟩ = some (.slice Ao26 t501.length co26) := (blk_cell BK505.out 2).trans rfl
                      have hfz75_0 := blk_frozen BK505.out 0
                      have hfz75_1 := blk_frozen BK505.out 1
                      have hfz75_2 := blk_frozen BK505.out 2
                      have hnb76 := NB493_492.out
                      have hnc76 := NB492_493.out
                      have hcz77_0 : wc.cell? ⟨gb493, 0, none⟩ = some (.int .i64 x494000_2) := (blk_cell BK493.out 0).trans rfl
                      have hcz77_1 : wc.cell? ⟨gb493, 1, none⟩ = some (.int .i64 2) := (blk_cell BK493.out 1).trans rfl
                      have hcz77_2 : wc.cell? ⟨gb493, 2, none⟩ = some (.string (⟨#[]⟩ : ByteArray)) := (blk_cell BK493.out 2).trans rfl
                      have hcz77_3 : wc.cell? ⟨gb493, 3, none⟩ = some (.int .i64 0) := (blk_cell BK493.out 3).trans rfl
                      have hfz77_0 := blk_frozen BK493.out 0
                      have hfz77_1 := blk_frozen BK493.out 1
                      have hfz77_2 := blk_frozen BK493.out 2
                      have hfz77_3 := blk_frozen BK493.out 3
                      have hcz78_0 : wc.cell? ⟨gb492, 0, none⟩ = some (.int .i64 0) := (blk_cell BK492.out 0).trans rfl
                      have hcz78_1 : wc.cell? ⟨gb492, 1, none⟩ = some (.int .i64 0) := (blk_cell BK492.out 1).trans rfl
                      have hcz78_2 : wc.cell? ⟨gb492, 2, none⟩ = some (.string (⟨#[]⟩ : ByteArray)) := (blk_cell BK492.out 2).trans rfl
                      have hcz78_3 : wc.cell? ⟨gb492, 3, none⟩ = some (.int .i64 0) := (blk_cell BK492.out 3).trans rfl
                      have hfz78_0 := blk_frozen BK492.out 0
                      have hfz78_1 := blk_frozen BK492.out 1
                      have hfz78_2 := blk_frozen BK492.out 2
                      have hfz78_3 := blk_frozen BK492.out 3
                      go_wp2
                      refine bodyPost_ret (results_cell_row rfl _ _ gb492 71 #[.int .i64 x494000_2, .int .i64 3, .string (⟨#[]⟩ : ByteArray), .int .i64 0] (0, 0) _ rfl (by (with_reducible repeat (first | refine blk_drewN ?_ _ | refine blk_drew ?_ | refine blk_alloc ?_ _)); refine blk_put (cs := #[.int .i64 x494000_2, .int .i64 3, .string (⟨#[]⟩ : ByteArray), .int .i64 0]) ?_ 3 _ rfl; (with_reducible repeat (first | refine blk_drewN ?_ _ | refine blk_drew ?_ | refine blk_alloc ?_ _)); refine blk_put (cs := #[.int .i64 x494000_2, .int .i64 3, .string (⟨#[]⟩ : ByteArray), .int .i64 0]) ?_ 2 _ rfl; (with_reducible repeat (first | refine blk_drewN ?_ _ | refine blk_drew ?_ | refine blk_alloc ?_ _)); refine blk_put (cs := #[.int .i64 x494000_2, .int .i64 0, .string (⟨#[]⟩ : ByteArray), .int .i64 0]) ?_ 1 _ rfl; (with_reducible repeat (first | refine blk_drewN ?_ _ | refine blk_drew ?_ | refine blk_alloc ?_ _)); refine blk_put (cs := #[.int .i64 0, .int .i64 0, .string (⟨#[]⟩ : ByteArray), .int .i64 0]) ?_ 0 _ rfl; (with_reducible repeat (first | refine blk_drewN ?_ _ | refine blk_drew ?_ | refine blk_alloc ?_ _)); refine blk_far ?_ NB492_493.out _; (with_reducible repeat (first | refine blk_drewN ?_ _ | refine blk_drew ?_ | refine blk_alloc ?_ _)); exact BK492.out) Try.underlying71 rfl (by kernel_rfl)) rfl ?_
                      exact ⟨by first | rfl | (simp [errW_none, errW_some] <;> rfl) | (simp [*, errW_none, errW_some] <;> rfl), by repeat (first | (with_reducible first | exact HB.out | apply below_alloc | apply pw_below_drewN | apply below_drew1 | refine below_set ?_ GE492.out | refine below_set ?_ GE493.out | refine below_set ?_ GE505.out) | exact HB.out)⟩
                    · rw [if_neg c72] at H
                      have c72b0 : (t500.toList == ([114, 102, 99, 56, 50, 50] : List UInt8)) = false := beq_eq_false_iff_ne.mpr c72
                      have c72b1 : (t500.toList != ([114, 102, 99, 56, 50, 50] : List UInt8)) = true := bne_iff_ne.mpr c72
                      simp only [Option.some.injEq, Prod.mk.injEq] at H
                      obtain ⟨rfl, rfl, rfl, rfl⟩ := H
                      have hnb79 := NB505_492.out
                      have hnc79 := NB492_505.out
                      have hnb80 := NB505_493.out
                      have hnc80 := NB493_505.out
                      have hcz81_0 : wc.cell? ⟨gb505, 0, none⟩ = some (.string t499) := (blk_cell BK505.out 0).trans rfl
                      have hcz81_1 : wc.cell? ⟨gb505, 1, none⟩ = some (.string t500) := (blk_cell BK505.out 1).trans rfl
                      have hcz81_2 : wc.cell? ⟨gb505, 2, none⟩ = some (.slice Ao26 t501.length co26) := (blk_cell BK505.out 2).trans rfl
                      have hfz81_0 := blk_frozen BK505.out 0
                      have hfz81_1 := blk_frozen BK505.out 1
                      have hfz81_2 := blk_frozen BK505.out 2
                      have hnb82 := NB493_492.out
                      have hnc82 := NB492_493.out
                      have hcz83_0 : wc.cell? ⟨gb493, 0, none⟩ = some (.int .i64 x494000_2) := (blk_cell BK493.out 0).trans rfl
                      have hcz83_1 : wc.cell? ⟨gb493, 1, none⟩ = some (.int .i64 2) := (blk_cell BK493.out 1).trans rfl
                      have hcz83_2 : wc.cell? ⟨gb493, 2, none⟩ = some (.string (⟨#[]⟩ : ByteArray)) := (blk_cell BK493.out 2).trans rfl
                      have hcz83_3 : wc.cell? ⟨gb493, 3, none⟩ = some (.int .i64 0) := (blk_cell BK493.out 3).trans rfl
                      have hfz83_0 := blk_frozen BK493.out 0
                      have hfz83_1 := blk_frozen BK493.out 1
                      have hfz83_2 := blk_frozen BK493.out 2
                      have hfz83_3 := blk_frozen BK493.out 3
                      have hcz84_0 : wc.cell? ⟨gb492, 0, none⟩ = some (.int .i64 0) := (blk_cell BK492.out 0).trans rfl
                      have hcz84_1 : wc.cell? ⟨gb492, 1, none⟩ = some (.int .i64 0) := (blk_cell BK492.out 1).trans rfl
                      have hcz84_2 : wc.cell? ⟨gb492, 2, none⟩ = some (.string (⟨#[]⟩ : ByteArray)) := (blk_cell BK492.out 2).trans rfl
                      have hcz84_3 : wc.cell? ⟨gb492, 3, none⟩ = some (.int .i64 0) := (blk_cell BK492.out 3).trans rfl
                      have hfz84_0 := blk_frozen BK492.out 0
                      have hfz84_1 := blk_frozen BK492.out 1
                      have hfz84_2 := blk_frozen BK492.out 2
                      have hfz84_3 := blk_frozen BK492.out 3
                      go_wp2
                      refine bodyPost_ret (results_cell_row rfl _ _ gb492 71 #[.int .i64 x494000_2, .int .i64 2, .string (⟨#[]⟩ : ByteArray), .int .i64 0] (0, 0) _ rfl (by (with_reducible repeat (first | refine blk_drewN ?_ _ | refine blk_drew ?_ | refine blk_alloc ?_ _)); refine blk_put (cs := #[.int .i64 x494000_2, .int .i64 2, .string (⟨#[]⟩ : ByteArray), .int .i64 0]) ?_ 3 _ rfl; (with_reducible repeat (first | refine blk_drewN ?_ _ | refine blk_drew ?_ | refine blk_alloc ?_ _)); refine blk_put (cs := #[.int .i64 x494000_2, .int .i64 2, .string (⟨#[]⟩ : ByteArray), .int .i64 0]) ?_ 2 _ rfl; (with_reducible repeat (first | refine blk_drewN ?_ _ | refine blk_drew ?_ | refine blk_alloc ?_ _)); refine blk_put (cs := #[.int .i64 x494000_2, .int .i64 0, .string (⟨#[]⟩ : ByteArray), .int .i64 0]) ?_ 1 _ rfl; (with_reducible repeat (first | refine blk_drewN ?_ _ | refine blk_drew ?_ | refine blk_alloc ?_ _)); refine blk_put (cs := #[.int .i64 0, .int .i64 0, .string (⟨#[]⟩ : ByteArray), .int .i64 0]) ?_ 0 _ rfl; (with_reducible repeat (first | refine blk_drewN ?_ _ | refine blk_drew ?_ | refine blk_alloc ?_ _)); exact BK492.out) Try.underlying71 rfl (by kernel_rfl)) rfl ?_
                      exact ⟨by first | rfl | (simp [errW_none, errW_some] <;> rfl) | (simp [*, errW_none, errW_some] <;> rfl), by repeat (first | (with_reducible first | exact HB.out | apply below_alloc | apply pw_below_drewN | apply below_drew1 | refine below_set ?_ GE492.out | refine below_set ?_ GE493.out | refine below_set ?_ GE505.out) | exact HB.out)⟩
                  · rw [if_neg c71] at H
                    have c71b0 : (t499.toList == ([109, 101, 115, 115, 97, 103, 101] : List UInt8)) = false := beq_eq_false_iff_ne.mpr c71
                    have c71b1 : (t499.toList != ([109, 101, 115, 115, 97, 103, 101] : List UInt8)) = true := bne_iff_ne.mpr c71
                    simp only [Option.some.injEq, Prod.mk.injEq] at H
                    obtain ⟨rfl, rfl, rfl, rfl⟩ := H
                    have hnb85 := NB505_492.out
                    have hnc85 := NB492_505.out
                    have hnb86 := NB505_493.out
                    have hnc86 := NB493_505.out
                    have hcz87_0 : wc.cell? ⟨gb505, 0, none⟩ = some (.string t499) := (blk_cell BK505.out 0).trans rfl
                    have hcz87_1 : wc.cell? ⟨gb505, 1, none⟩ = some (.string t500) := (blk_cell BK505.out 1).trans rfl
                    have hcz87_2 : wc.cell? ⟨gb505, 2, none⟩ = some (.slice Ao26 t501.length co26) := (blk_cell BK505.out 2).trans rfl
                    have hfz87_0 := blk_frozen BK505.out 0
                    have hfz87_1 := blk_frozen BK505.out 1
                    have hfz87_2 := blk_frozen BK505.out 2
                    have hnb88 := NB493_492.out
                    have hnc88 := NB492_493.out
                    have hcz89_0 : wc.cell? ⟨gb493, 0, none⟩ = some (.int .i64 x494000_2) := (blk_cell BK493.out 0).trans rfl
                    have hcz89_1 : wc.cell? ⟨gb493, 1, none⟩ = some (.int .i64 2) := (blk_cell BK493.out 1).trans rfl
                    have hcz89_2 : wc.cell? ⟨gb493, 2, none⟩ = some (.string (⟨#[]⟩ : ByteArray)) := (blk_cell BK493.out 2).trans rfl
                    have hcz89_3 : wc.cell? ⟨gb493, 3, none⟩ = some (.int .i64 0) := (blk_cell BK493.out 3).trans rfl
                    have hfz89_0 := blk_frozen BK493.out 0
                    have hfz89_1 := blk_frozen BK493.out 1
                    have hfz89_2 := blk_frozen BK493.out 2
                    have hfz89_3 := blk_frozen BK493.out 3
                    have hcz90_0 : wc.cell? ⟨gb492, 0, none⟩ = some (.int .i64 0) := (blk_cell BK492.out 0).trans rfl
                    have hcz90_1 : wc.cell? ⟨gb492, 1, none⟩ = some (.int .i64 0) := (blk_cell BK492.out 1).trans rfl
                    have hcz90_2 : wc.cell? ⟨gb492, 2, none⟩ = some (.string (⟨#[]⟩ : ByteArray)) := (blk_cell BK492.out 2).trans rfl
                    have hcz90_3 : wc.cell? ⟨gb492, 3, none⟩ = some (.int .i64 0) := (blk_cell BK492.out 3).trans rfl
                    have hfz90_0 := blk_frozen BK492.out 0
                    have hfz90_1 := blk_frozen BK492.out 1
                    have hfz90_2 := blk_frozen BK492.out 2
                    have hfz90_3 := blk_frozen BK492.out 3
                    go_wp2
                    refine bodyPost_ret (results_cell_row rfl _ _ gb492 71 #[.int .i64 x494000_2, .int .i64 2, .string (⟨#[]⟩ : ByteArray), .int .i64 0] (0, 0) _ rfl (by (with_reducible repeat (first | refine blk_drewN ?_ _ | refine blk_drew ?_ | refine blk_alloc ?_ _)); refine blk_put (cs := #[.int .i64 x494000_2, .int .i64 2, .string (⟨#[]⟩ : ByteArray), .int .i64 0]) ?_ 3 _ rfl; (with_reducible repeat (first | refine blk_drewN ?_ _ | refine blk_drew ?_ | refine blk_alloc ?_ _)); refine blk_put (cs := #[.int .i64 x494000_2, .int .i64 2, .string (⟨#[]⟩ : ByteArray), .int .i64 0]) ?_ 2 _ rfl; (with_reducible repeat (first | refine blk_drewN ?_ _ | refine blk_drew ?_ | refine blk_alloc ?_ _)); refine blk_put (cs := #[.int .i64 x494000_2, .int .i64 0, .string (⟨#[]⟩ : ByteArray), .int .i64 0]) ?_ 1 _ rfl; (with_reducible repeat (first | refine blk_drewN ?_ _ | refine blk_drew ?_ | refine blk_alloc ?_ _)); refine blk_put (cs := #[.int .i64 0, .int .i64 0, .string (⟨#[]⟩ : ByteArray), .int .i64 0]) ?_ 0 _ rfl; (with_reducible repeat (first | refine blk_drewN ?_ _ | refine blk_drew ?_ | refine blk_alloc ?_ _)); exact BK492.out) Try.underlying71 rfl (by kernel_rfl)) rfl ?_
                    exact ⟨by first | rfl | (simp [errW_none, errW_some] <;> rfl) | (simp [*, errW_none, errW_some] <;> rfl), by repeat (first | (with_reducible first | exact HB.out | apply below_alloc | apply pw_below_drewN | apply below_drew1 | refine below_set ?_ GE492.out | refine below_set ?_ GE493.out | refine below_set ?_ GE505.out) | exact HB.out)⟩
                · replace c70 := Bool.eq_false_iff.mpr c70
                  subst c70
                  have H1 : (some (x494000_2, 2, (⟨#[]⟩ : ByteArray), 0)) = some (r1, r2, r3, r4) := by rw [if_neg (show ¬ (false = true) by decide)] at H; exact H
                  clear H
                  have H := H1
                  clear H1
                  simp only [Option.some.injEq, Prod.mk.injEq] at H
                  obtain ⟨rfl, rfl, rfl, rfl⟩ := H
                  have hnb91 := NB493_492.out
                  have hnc91 := NB492_493.out
                  have hnb92 := NB493_505.out
                  have hnc92 := NB505_493.out
                  have hcz93_0 : wc.cell? ⟨gb493, 0, none⟩ = some (.int .i64 x494000_2) := (blk_cell BK493.out 0).trans rfl
                  have hcz93_1 : wc.cell? ⟨gb493, 1, none⟩ = some (.int .i64 2) := (blk_cell BK493.out 1).trans rfl
                  have hcz93_2 : wc.cell? ⟨gb493, 2, none⟩ = some (.string (⟨#[]⟩ : ByteArray)) := (blk_cell BK493.out 2).trans rfl
                  have hcz93_3 : wc.cell? ⟨gb493, 3, none⟩ = some (.int .i64 0) := (blk_cell BK493.out 3).trans rfl
                  have hfz93_0 := blk_frozen BK493.out 0
                  have hfz93_1 := blk_frozen BK493.out 1
                  have hfz93_2 := blk_frozen BK493.out 2
                  have hfz93_3 := blk_frozen BK493.out 3
                  have hnb94 := NB492_505.out
                  have hnc94 := NB505_492.out
                  have hcz95_0 : wc.cell? ⟨gb492, 0, none⟩ = some (.int .i64 0) := (blk_cell BK492.out 0).trans rfl
                  have hcz95_1 : wc.cell? ⟨gb492, 1, none⟩ = some (.int .i64 0) := (blk_cell BK492.out 1).trans rfl
                  have hcz95_2 : wc.cell? ⟨gb492, 2, none⟩ = some (.string (⟨#[]⟩ : ByteArray)) := (blk_cell BK492.out 2).trans rfl
                  have hcz95_3 : wc.cell? ⟨gb492, 3, none⟩ = some (.int .i64 0) := (blk_cell BK492.out 3).trans rfl
                  have hfz95_0 := blk_frozen BK492.out 0
                  have hfz95_1 := blk_frozen BK492.out 1
                  have hfz95_2 := blk_frozen BK492.out 2
                  have hfz95_3 := blk_frozen BK492.out 3
                  go_wp2
                  refine bodyPost_ret (results_cell_row rfl _ _ gb492 71 #[.int .i64 x494000_2, .int .i64 2, .string (⟨#[]⟩ : ByteArray), .int .i64 0] (0, 0) _ rfl (by (with_reducible repeat (first | refine blk_drewN ?_ _ | refine blk_drew ?_ | refine blk_alloc ?_ _)); refine blk_put (cs := #[.int .i64 x494000_2, .int .i64 2, .string (⟨#[]⟩ : ByteArray), .int .i64 0]) ?_ 3 _ rfl; (with_reducible repeat (first | refine blk_drewN ?_ _ | refine blk_drew ?_ | refine blk_alloc ?_ _)); refine blk_put (cs := #[.int .i64 x494000_2, .int .i64 2, .string (⟨#[]⟩ : ByteArray), .int .i64 0]) ?_ 2 _ rfl; (with_reducible repeat (first | refine blk_drewN ?_ _ | refine blk_drew ?_ | refine blk_alloc ?_ _)); refine blk_put (cs := #[.int .i64 x494000_2, .int .i64 0, .string (⟨#[]⟩ : ByteArray), .int .i64 0]) ?_ 1 _ rfl; (with_reducible repeat (first | refine blk_drewN ?_ _ | refine blk_drew ?_ | refine blk_alloc ?_ _)); refine blk_put (cs := #[.int .i64 0, .int .i64 0, .string (⟨#[]⟩ : ByteArray), .int .i64 0]) ?_ 0 _ rfl; (with_reducible repeat (first | refine blk_drewN ?_ _ | refine blk_drew ?_ | refine blk_alloc ?_ _)); exact BK492.out) Try.underlying71 rfl (by kernel_rfl)) rfl ?_
                  exact ⟨by first | rfl | (simp [errW_none, errW_some] <;> rfl) | (simp [*, errW_none, errW_some] <;> rfl), by repeat (first | (with_reducible first | exact HB.out | apply below_alloc | apply pw_below_drewN | apply below_drew1 | refine below_set ?_ GE492.out | refine below_set ?_ GE493.out | refine below_set ?_ GE505.out) | exact HB.out)⟩
        · replace c16 := Bool.eq_false_iff.mpr c16
          subst c16
          have H1 : (some (x494000_2, 2, (⟨#[]⟩ : ByteArray), 0)) = some (r1, r2, r3, r4) := by rw [if_neg (show ¬ (false = true) by decide)] at H; exact H
          clear H
          have H := H1
          clear H1
          simp only [Option.some.injEq, Prod.mk.injEq] at H
          obtain ⟨rfl, rfl, rfl, rfl⟩ := H
          have hnb96 := NB493_492.out
          have hnc96 := NB492_493.out
          have hcz97_0 : wc.cell? ⟨gb493, 0, none⟩ = some (.int .i64 x494000_2) := (blk_cell BK493.out 0).trans rfl
          have hcz97_1 : wc.cell? ⟨gb493, 1, none⟩ = some (.int .i64 0) := (blk_cell BK493.out 1).trans rfl
          have hcz97_2 : wc.cell? ⟨gb493, 2, none⟩ = some (.string (⟨#[]⟩ : ByteArray)) := (blk_cell BK493.out 2).trans rfl
          have hcz97_3 : wc.cell? ⟨gb493, 3, none⟩ = some (.int .i64 0) := (blk_cell BK493.out 3).trans rfl
          have hfz97_0 := blk_frozen BK493.out 0
          have hfz97_1 := blk_frozen BK493.out 1
          have hfz97_2 := blk_frozen BK493.out 2
          have hfz97_3 := blk_frozen BK493.out 3
          go_wp2_with (first | ((with_reducible refine gate_callee (f := 26) rfl ?_); refine goesL_ (some 27) rfl rfl Try.func26 (by kernel_rfl) rfl #[.slice A0 l0.length c0, .string (⟨#[67, 111, 110, 116, 101, 110, 116, 45, 84, 121, 112, 101]⟩ : ByteArray)] rfl (by (try simp only [List.map_toArray, List.map_cons, List.map_nil]); first | done | rfl | (simp only [List.length_drop, List.length_take]; rfl)) ?_; (with_reducible refine (winkleref12_Get.calls kj2 _ _ l0 (⟨#[67, 111, 110, 116, 101, 110, 116, 45, 84, 121, 112, 101]⟩ : ByteArray) t497 false _ ?side1 ?side2 A15.out).mono ?_); (case side1 => exact Kd.C_below HR0.out (by repeat (first | (with_reducible first | exact HB.out | apply below_alloc | apply pw_below_drewN | apply below_drew1 | refine below_set ?_ GE492.out | refine below_set ?_ GE493.out) | exact HB.out))); (case side2 => exact HC0.out); rintro e w' ⟨rfl, ⟨nd, rfl⟩⟩; refine ⟨_, rfl, ?_⟩; have hcz98_0 : wc.cell? ⟨gb492, 0, none⟩ = some (.int .i64 0) := (blk_cell BK492.out 0).trans rfl; have hcz98_1 : wc.cell? ⟨gb492, 1, none⟩ = some (.int .i64 0) := (blk_cell BK492.out 1).trans rfl; have hcz98_2 : wc.cell? ⟨gb492, 2, none⟩ = some (.string (⟨#[]⟩ : ByteArray)) := (blk_cell BK492.out 2).trans rfl; have hcz98_3 : wc.cell? ⟨gb492, 3, none⟩ = some (.int .i64 0) := (blk_cell BK492.out 3).trans rfl; have hfz98_0 := blk_frozen BK492.out 0; have hfz98_1 := blk_frozen BK492.out 1; have hfz98_2 := blk_frozen BK492.out 2; have hfz98_3 := blk_frozen BK492.out 3))
          refine bodyPost_ret (results_cell_row rfl _ _ gb492 71 #[.int .i64 x494000_2, .int .i64 2, .string (⟨#[]⟩ : ByteArray), .int .i64 0] (0, 0) _ rfl (by (with_reducible repeat (first | refine blk_drewN ?_ _ | refine blk_drew ?_ | refine blk_alloc ?_ _)); refine blk_put (cs := #[.int .i64 x494000_2, .int .i64 2, .string (⟨#[]⟩ : ByteArray), .int .i64 0]) ?_ 3 _ rfl; (with_reducible repeat (first | refine blk_drewN ?_ _ | refine blk_drew ?_ | refine blk_alloc ?_ _)); refine blk_put (cs := #[.int .i64 x494000_2, .int .i64 2, .string (⟨#[]⟩ : ByteArray), .int .i64 0]) ?_ 2 _ rfl; (with_reducible repeat (first | refine blk_drewN ?_ _ | refine blk_drew ?_ | refine blk_alloc ?_ _)); refine blk_put (cs := #[.int .i64 x494000_2, .int .i64 0, .string (⟨#[]⟩ : ByteArray), .int .i64 0]) ?_ 1 _ rfl; (with_reducible repeat (first | refine blk_drewN ?_ _ | refine blk_drew ?_ | refine blk_alloc ?_ _)); refine blk_put (cs := #[.int .i64 0, .int .i64 0, .string (⟨#[]⟩ : ByteArray), .int .i64 0]) ?_ 0 _ rfl; (with_reducible repeat (first | refine blk_drewN ?_ _ | refine blk_drew ?_ | refine blk_alloc ?_ _)); refine blk_far ?_ NB492_493.out _; (with_reducible repeat (first | refine blk_drewN ?_ _ | refine blk_drew ?_ | refine blk_alloc ?_ _)); exact BK492.out) Try.underlying71 rfl (by kernel_rfl)) rfl ?_
          exact ⟨by first | rfl | (simp [errW_none, errW_some] <;> rfl) | (simp [*, errW_none, errW_some] <;> rfl), by repeat (first | (with_reducible first | exact HB.out | apply below_alloc | apply pw_below_drewN | apply below_drew1 | refine below_set ?_ GE492.out | refine below_set ?_ GE493.out) | exact HB.out)⟩
end Go.Proofs.Ytodidfdfbanliaa.PAll
