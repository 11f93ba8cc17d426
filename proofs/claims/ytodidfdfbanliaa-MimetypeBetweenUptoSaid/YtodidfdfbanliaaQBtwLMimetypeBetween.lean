/- Words and contracts that this claim uses. -/
import Derived.Test.YtodidfdfbanliaaQBtwPAllx0
import Derived.Test.YtodidfdfbanliaaQBtwFFields
import Derived.Test.YtodidfdfbanliaaQBtwFPut
import Derived.Test.YtodidfdfbanliaaQBtwFText
import Derived.Test.YtodidfdfbanliaaQBtwFAwakeM
import Derived.Test.YtodidfdfbanliaaQBtwHMixed
import Derived.Test.YtodidfdfbanliaaQBtwHType
namespace Go.Proofs.Ytodidfdfbanliaa.PAll
open Go.RowKit Go.Proofs.YtodidfdfbanliaaW.PrintWords Go.Proofs.YtodidfdfbanliaaW.PrintLast Go.Proofs.YtodidfdfbanliaaW.PrintMore
set_option linter.unusedVariables false
set_option linter.unusedSimpArgs false
def winklelaw13_MimetypeBetween.l0 : Nat → List Int → ByteArray → Int → ByteArray → ByteArray → List (S42) → Option (Bool)
  | 0, _, _, _, _, _, _ => none
  | k + 1, x1, x7, x8, x432000, x432001, x432002 => if x8 < (x432002.length : Int) then (if 0 ≤ x8 then ((mimetype_Text.f k (⟨#[97]⟩ : ByteArray) (⟨#[98]⟩ : ByteArray) (([(⟨(⟨#[99]⟩ : ByteArray), (rd_T42 x432002 x8).f1⟩ : S42)] : List (S42)))).bind fun bt454 => (if (bt454.1.size : Int) < 7 then (some false) else ((winklelaw13_put.f x1 x8).bind fun t456 => (if 1 + t456.size ≤ 9223372036854775807 then ((winklelaw13_mixed.f ((rd_T42 x432002 x8).f0) x1).bind fun t458 => (if ((⟨#[59]⟩ : ByteArray) ++ t456).size + t458.size ≤ 9223372036854775807 then ((winklelaw13_put.f x1 (wrap64 (x8 + 1))).bind fun t459 => (if (((⟨#[59]⟩ : ByteArray) ++ t456) ++ t458).size + t459.size ≤ 9223372036854775807 then (if ((((⟨#[59]⟩ : ByteArray) ++ t456) ++ t458) ++ t459).size + 1 ≤ 9223372036854775807 then ((winklelaw13_put.f x1 (wrap64 (x8 + 2))).bind fun t460 => (if (((((⟨#[59]⟩ : ByteArray) ++ t456) ++ t458) ++ t459) ++ (⟨#[61]⟩ : ByteArray)).size + t460.size ≤ 9223372036854775807 then (if 7 ≤ (bt454.1.size : Int) then (if ((((((⟨#[59]⟩ : ByteArray) ++ t456) ++ t458) ++ t459) ++ (⟨#[61]⟩ : ByteArray)) ++ t460).size + (bt454.1.extract 7 bt454.1.size).size ≤ 9223372036854775807 then ((winklelaw13_put.f x1 (wrap64 (x8 + 3))).bind fun t461 => (if (((((((⟨#[59]⟩ : ByteArray) ++ t456) ++ t458) ++ t459) ++ (⟨#[61]⟩ : ByteArray)) ++ t460) ++ (bt454.1.extract 7 bt454.1.size)).size + t461.size ≤ 9223372036854775807 then (if x7.size + ((((((((⟨#[59]⟩ : ByteArray) ++ t456) ++ t458) ++ t459) ++ (⟨#[61]⟩ : ByteArray)) ++ t460) ++ (bt454.1.extract 7 bt454.1.size)) ++ t461).size ≤ 9223372036854775807 then (winklelaw13_MimetypeBetween.l0 k x1 (x7 ++ ((((((((⟨#[59]⟩ : ByteArray) ++ t456) ++ t458) ++ t459) ++ (⟨#[61]⟩ : ByteArray)) ++ t460) ++ (bt454.1.extract 7 bt454.1.size)) ++ t461)) (wrap64 (x8 + 1)) x432000 x432001 x432002) else (none)) else (none))) else (none)) else (none)) else (none))) else (none)) else (none))) else (none))) else (none))))) else (none)) else ((mimetype_Type.f x7).bind fun bt441 => (if bt441.2.2.2 = true then (if bt441.1.toList = x432000.toList then (if bt441.2.1.toList = x432001.toList then ((winkleref12_Fields.f k bt441.2.2.1 x432002).bind fun t448 => (if t448 = true then ((winklelaw13_awake.f k).bind fun t449 => (some t449)) else (some false))) else (some false)) else (some false)) else (some false)))
def winklelaw13_MimetypeBetween.f (k : Nat) (a0_0 : ByteArray) (a0_1 : ByteArray) (l0_2 : List (S42)) (l1 : List Int) : Option (Bool) := (mimetype_Text.f k a0_0 a0_1 l0_2).bind fun bt432 => (if bt432.2 = true then ((winklelaw13_mixed.f a0_0 l1).bind fun t435 => ((winklelaw13_put.f l1 0).bind fun t436 => (if t435.size + t436.size ≤ 9223372036854775807 then (if (t435 ++ t436).size + 1 ≤ 9223372036854775807 then ((winklelaw13_put.f l1 1).bind fun t437 => (if ((t435 ++ t436) ++ (⟨#[47]⟩ : ByteArray)).size + t437.size ≤ 9223372036854775807 then ((winklelaw13_mixed.f a0_1 l1).bind fun t438 => (if (((t435 ++ t436) ++ (⟨#[47]⟩ : ByteArray)) ++ t437).size + t438.size ≤ 9223372036854775807 then ((winklelaw13_put.f l1 2).bind fun t439 => (if ((((t435 ++ t436) ++ (⟨#[47]⟩ : ByteArray)) ++ t437) ++ t438).size + t439.size ≤ 9223372036854775807 then ((winklelaw13_put.f l1 3).bind fun t440 => (if t440.size + (((((t435 ++ t436) ++ (⟨#[47]⟩ : ByteArray)) ++ t437) ++ t438) ++ t439).size ≤ 9223372036854775807 then (winklelaw13_MimetypeBetween.l0 k l1 (t440 ++ (((((t435 ++ t436) ++ (⟨#[47]⟩ : ByteArray)) ++ t437) ++ t438) ++ t439)) 0 a0_0 a0_1 l0_2) else (none))) else (none))) else (none))) else (none))) else (none)) else (none)))) else ((winklelaw13_awake.f k).bind fun t434 => (some t434)))
def winklelaw13_MimetypeBetween.T4 : Bool × List (List Nat × List Nat) := (true, [([], []), ([0], [0]), ([], []), ([1, 2], [1, 2]), ([], []), ([4, 3], [4]), ([3, 5], [3, 5]), ([6], [6]), ([], []), ([8, 5], [8]), ([7, 9], [7, 9]), ([], []), ([11], [11]), ([], []), ([12, 13, 9], [12, 13]), ([10, 14], [10, 14]), ([], []), ([16, 14], [16]), ([15, 17], [15, 17]), ([18, 17, 0, 1, 2, 3, 4, 5, 6, 7, 8, 9, 10, 11, 12, 13, 14, 15, 16, 17, 18], [18])])
def winklelaw13_MimetypeBetween.B4 : List Nat := [0, 1, 0, 7, 0, 31, 63, 127, 0, 319, 1023, 0, 2048, 0, 15167, 32767, 0, 97087, 262143, 524287]
theorem winklelaw13_MimetypeBetween.tab4 : rtab .any (opsOf Try.f15 4) = winklelaw13_MimetypeBetween.T4 := by kernel_rfl
theorem winklelaw13_MimetypeBetween.bits4 : waitsOk winklelaw13_MimetypeBetween.T4.2 winklelaw13_MimetypeBetween.B4 = true := by kernel_rfl
def winklelaw13_MimetypeBetween.T12 : Bool × List (List Nat × List Nat) := (true, [([], []), ([], []), ([], []), ([1, 2], [1, 2]), ([3], [3]), ([], []), ([5], [5]), ([], []), ([6, 7], [6, 7]), ([8], [8]), ([9], [9]), ([], []), ([10, 11, 3], [10, 11]), ([4, 12], [4, 12]), ([], []), ([], []), ([15], [15]), ([14, 16, 12], [14, 16]), ([13, 17], [13, 17]), ([18], [18]), ([], []), ([], []), ([21], [21]), ([20, 22, 17], [20, 22]), ([19, 23], [19, 23]), ([], []), ([25], [25]), ([24, 26], [24, 26]), ([], []), ([], []), ([29], [29]), ([28, 30, 23], [28, 30]), ([27, 31], [27, 31]), ([0, 32], [0, 32]), ([33, 31, 0, 1, 2, 3, 4, 5, 6, 7, 8, 9, 10, 11, 12, 13, 14, 15, 16, 17, 18, 19, 20, 21, 22, 23, 24, 25, 26, 27, 28, 29, 30, 31, 32, 33], [0, 33])])
def winklelaw13_MimetypeBetween.B12 : List Nat := [0, 0, 0, 6, 14, 0, 32, 0, 224, 480, 992, 0, 4078, 8190, 0, 0, 32768, 122862, 262142, 524286, 0, 0, 2097152, 7593966, 16777214, 0, 33554432, 134217726, 0, 0, 536870912, 1895030766, 4294967294, 8589934591, 17179869183]
theorem winklelaw13_MimetypeBetween.tab12 : rtab .any (opsOf Try.f15 12) = winklelaw13_MimetypeBetween.T12 := by kernel_rfl
theorem winklelaw13_MimetypeBetween.bits12 : waitsOk winklelaw13_MimetypeBetween.T12.2 winklelaw13_MimetypeBetween.B12 = true := by kernel_rfl
set_option maxHeartbeats 8000000 in
set_option maxRecDepth 100000 in
theorem winklelaw13_MimetypeBetween.calls (k : Nat) (a0_0 : ByteArray) (a0_1 : ByteArray) (A0_2 : Option Addr) (c0_2 : Nat) (l0_2 : List (S42)) (A1 : Option Addr) (c1 : Nat) (l1 : List Int) (r : Bool) (w : World) (hr0_2 : Kd.C k42 w A0_2 l0_2.length l0_2) (hc0_2 : l0_2.length ≤ c0_2) (hr1 : Kd.C (Kd.int .u8) w A1 l1.length l1) (hc1 : l1.length ≤ c1) (h : winklelaw13_MimetypeBetween.f k a0_0 a0_1 l0_2 l1 = some r) :
    Calls Try.prog 15 #[.agg #[.string a0_0, .string a0_1, .slice A0_2 l0_2.length c0_2], .slice A1 l1.length c1] w fun e w' => e = .returned (.bool r) ∧ Below w.heap.size w w' := by
  have hu57 := Try.underlying57
  have hu42 := Try.underlying42
  have HR0_2 := Aside0.mk hr0_2
  have HC0_2 := Aside0.mk hc0_2
  clear hr0_2 hc0_2
  have HR1 := Aside0.mk hr1
  have HC1 := Aside0.mk hc1
  clear hr1 hc1
  have HB := Aside0.mk (Below.refl w.heap.size w)
  have H : ((mimetype_Text.f k a0_0 a0_1 l0_2).bind fun bt432 => (if bt432.2 = true then ((winklelaw13_mixed.f a0_0 l1).bind fun t435 => ((winklelaw13_put.f l1 0).bind fun t436 => (if t435.size + t436.size ≤ 9223372036854775807 then (if (t435 ++ t436).size + 1 ≤ 9223372036854775807 then ((winklelaw13_put.f l1 1).bind fun t437 => (if ((t435 ++ t436) ++ (⟨#[47]⟩ : ByteArray)).size + t437.size ≤ 9223372036854775807 then ((winklelaw13_mixed.f a0_1 l1).bind fun t438 => (if (((t435 ++ t436) ++ (⟨#[47]⟩ : ByteArray)) ++ t437).size + t438.size ≤ 9223372036854775807 then ((winklelaw13_put.f l1 2).bind fun t439 => (if ((((t435 ++ t436) ++ (⟨#[47]⟩ : ByteArray)) ++ t437) ++ t438).size + t439.size ≤ 9223372036854775807 then ((winklelaw13_put.f l1 3).bind fun t440 => (if t440.size + (((((t435 ++ t436) ++ (⟨#[47]⟩ : ByteArray)) ++ t437) ++ t438) ++ t439).size ≤ 9223372036854775807 then (winklelaw13_MimetypeBetween.l0 k l1 (t440 ++ (((((t435 ++ t436) ++ (⟨#[47]⟩ : ByteArray)) ++ t437) ++ t438) ++ t439)) 0 a0_0 a0_1 l0_2) else (none))) else (none))) else (none))) else (none))) else (none)) else (none)))) else ((winklelaw13_awake.f k).bind fun t434 => (some t434)))) = some r := h
  clear h
  replace H := Option.bind_eq_some_iff.mp H
  obtain ⟨⟨t432, t433⟩, A30, H⟩ := H
  replace H : (if t433 = true then ((winklelaw13_mixed.f a0_0 l1).bind fun t435 => ((winklelaw13_put.f l1 0).bind fun t436 => (if t435.size + t436.size ≤ 9223372036854775807 then (if (t435 ++ t436).size + 1 ≤ 9223372036854775807 then ((winklelaw13_put.f l1 1).bind fun t437 => (if ((t435 ++ t436) ++ (⟨#[47]⟩ : ByteArray)).size + t437.size ≤ 9223372036854775807 then ((winklelaw13_mixed.f a0_1 l1).bind fun t438 => (if (((t435 ++ t436) ++ (⟨#[47]⟩ : ByteArray)) ++ t437).size + t438.size ≤ 9223372036854775807 then ((winklelaw13_put.f l1 2).bind fun t439 => (if ((((t435 ++ t436) ++ (⟨#[47]⟩ : ByteArray)) ++ t437) ++ t438).size + t439.size ≤ 9223372036854775807 then ((winklelaw13_put.f l1 3).bind fun t440 => (if t440.size + (((((t435 ++ t436) ++ (⟨#[47]⟩ : ByteArray)) ++ t437) ++ t438) ++ t439).size ≤ 9223372036854775807 then (winklelaw13_MimetypeBetween.l0 k l1 (t440 ++ (((((t435 ++ t436) ++ (⟨#[47]⟩ : ByteArray)) ++ t437) ++ t438) ++ t439)) 0 a0_0 a0_1 l0_2) else (none))) else (none))) else (none))) else (none))) else (none)) else (none)))) else ((winklelaw13_awake.f k).bind fun t434 => (some t434))) = some r := H
  have A3 := Aside0.mk A30
  clear A30
  by_cases c4 : t433 = true
  · subst c4
    have H1 : ((winklelaw13_mixed.f a0_0 l1).bind fun t435 => ((winklelaw13_put.f l1 0).bind fun t436 => (if t435.size + t436.size ≤ 9223372036854775807 then (if (t435 ++ t436).size + 1 ≤ 9223372036854775807 then ((winklelaw13_put.f l1 1).bind fun t437 => (if ((t435 ++ t436) ++ (⟨#[47]⟩ : ByteArray)).size + t437.size ≤ 9223372036854775807 then ((winklelaw13_mixed.f a0_1 l1).bind fun t438 => (if (((t435 ++ t436) ++ (⟨#[47]⟩ : ByteArray)) ++ t437).size + t438.size ≤ 9223372036854775807 then ((winklelaw13_put.f l1 2).bind fun t439 => (if ((((t435 ++ t436) ++ (⟨#[47]⟩ : ByteArray)) ++ t437) ++ t438).size + t439.size ≤ 9223372036854775807 then ((winklelaw13_put.f l1 3).bind fun t440 => (if t440.size + (((((t435 ++ t436) ++ (⟨#[47]⟩ : ByteArray)) ++ t437) ++ t438) ++ t439).size ≤ 9223372036854775807 then (winklelaw13_MimetypeBetween.l0 k l1 (t440 ++ (((((t435 ++ t436) ++ (⟨#[47]⟩ : ByteArray)) ++ t437) ++ t438) ++ t439)) 0 a0_0 a0_1 l0_2) else (none))) else (none))) else (none))) else (none))) else (none)) else (none)))) = some r := by rw [if_pos rfl] at H; exact H
    clear H
    have H := H1
    clear H1
    replace H := Option.bind_eq_some_iff.mp H
    obtain ⟨t435, A50, H⟩ := H
    replace H : ((winklelaw13_put.f l1 0).bind fun t436 => (if t435.size + t436.size ≤ 9223372036854775807 then (if (t435 ++ t436).size + 1 ≤ 9223372036854775807 then ((winklelaw13_put.f l1 1).bind fun t437 => (if ((t435 ++ t436) ++ (⟨#[47]⟩ : ByteArray)).size + t437.size ≤ 9223372036854775807 then ((winklelaw13_mixed.f a0_1 l1).bind fun t438 => (if (((t435 ++ t436) ++ (⟨#[47]⟩ : ByteArray)) ++ t437).size + t438.size ≤ 9223372036854775807 then ((winklelaw13_put.f l1 2).bind fun t439 => (if ((((t435 ++ t436) ++ (⟨#[47]⟩ : ByteArray)) ++ t437) ++ t438).size + t439.size ≤ 9223372036854775807 then ((winklelaw13_put.f l1 3).bind fun t440 => (if t440.size + (((((t435 ++ t436) ++ (⟨#[47]⟩ : ByteArray)) ++ t437) ++ t438) ++ t439).size ≤ 9223372036854775807 then (winklelaw13_MimetypeBetween.l0 k l1 (t440 ++ (((((t435 ++ t436) ++ (⟨#[47]⟩ : ByteArray)) ++ t437) ++ t438) ++ t439)) 0 a0_0 a0_1 l0_2) else (none))) else (none))) else (none))) else (none))) else (none)) else (none))) = some r := H
    have A5 := Aside0.mk A50
    clear A50
    replace H := Option.bind_eq_some_iff.mp H
    obtain ⟨t436, A60, H⟩ := H
    replace H : (if t435.size + t436.size ≤ 9223372036854775807 then (if (t435 ++ t436).size + 1 ≤ 9223372036854775807 then ((winklelaw13_put.f l1 1).bind fun t437 => (if ((t435 ++ t436) ++ (⟨#[47]⟩ : ByteArray)).size + t437.size ≤ 9223372036854775807 then ((winklelaw13_mixed.f a0_1 l1).bind fun t438 => (if (((t435 ++ t436) ++ (⟨#[47]⟩ : ByteArray)) ++ t437).size + t438.size ≤ 9223372036854775807 then ((winklelaw13_put.f l1 2).bind fun t439 => (if ((((t435 ++ t436) ++ (⟨#[47]⟩ : ByteArray)) ++ t437) ++ t438).size + t439.size ≤ 9223372036854775807 then ((winklelaw13_put.f l1 3).bind fun t440 => (if t440.size + (((((t435 ++ t436) ++ (⟨#[47]⟩ : ByteArray)) ++ t437) ++ t438) ++ t439).size ≤ 9223372036854775807 then (winklelaw13_MimetypeBetween.l0 k l1 (t440 ++ (((((t435 ++ t436) ++ (⟨#[47]⟩ : ByteArray)) ++ t437) ++ t438) ++ t439)) 0 a0_0 a0_1 l0_2) else (none))) else (none))) else (none))) else (none))) else (none)) else (none)) = some r := H
    have A6 := Aside0.mk A60
    clear A60
    by_cases c7 : t435.size + t436.size ≤ 9223372036854775807
    · rw [if_pos c7] at H
      have c7b0 := eq_true c7
      have c7b1 : decide (t435.size + t436.size ≤ 9223372036854775807) = true := decide_eq_true c7
      try have c7b2 : (9223372036854775807 < t435.size + t436.size) = False := eq_false (Nat.not_lt.2 c7)
      by_cases c8 : (t435 ++ t436).size + 1 ≤ 9223372036854775807
      · rw [if_pos c8] at H
        have c8b0 := eq_true c8
        have c8b1 : decide ((t435 ++ t436).size + 1 ≤ 9223372036854775807) = true := decide_eq_true c8
        try have c8b2 : (9223372036854775807 < (t435 ++ t436).size + 1) = False := eq_false (Nat.not_lt.2 c8)
        have c8b3 : (9223372036854775807 < t435.size + t436.size + 1) = False := eq_false (by have h_ := c8; simp only [ByteArray.size_append, ByteArray.size_extract, Nat.min_self] at h_; omega)
        replace H := Option.bind_eq_some_iff.mp H
        obtain ⟨t437, A90, H⟩ := H
        replace H : (if ((t435 ++ t436) ++ (⟨#[47]⟩ : ByteArray)).size + t437.size ≤ 9223372036854775807 then ((winklelaw13_mixed.f a0_1 l1).bind fun t438 => (if (((t435 ++ t436) ++ (⟨#[47]⟩ : ByteArray)) ++ t437).size + t438.size ≤ 9223372036854775807 then ((winklelaw13_put.f l1 2).bind fun t439 => (if ((((t435 ++ t436) ++ (⟨#[47]⟩ : ByteArray)) ++ t437) ++ t438).size + t439.size ≤ 9223372036854775807 then ((winklelaw13_put.f l1 3).bind fun t440 => (if t440.size + (((((t435 ++ t436) ++ (⟨#[47]⟩ : ByteArray)) ++ t437) ++ t438) ++ t439).size ≤ 9223372036854775807 then (winklelaw13_MimetypeBetween.l0 k l1 (t440 ++ (((((t435 ++ t436) ++ (⟨#[47]⟩ : ByteArray)) ++ t437) ++ t438) ++ t439)) 0 a0_0 a0_1 l0_2) else (none))) else (none))) else (none))) else (none)) = some r := H
        have A9 := Aside0.mk A90
        clear A90
        by_cases c10 : ((t435 ++ t436) ++ (⟨#[47]⟩ : ByteArray)).size + t437.size ≤ 9223372036854775807
        · rw [if_pos c10] at H
          have c10b0 := eq_true c10
          have c10b1 : decide (((t435 ++ t436) ++ (⟨#[47]⟩ : ByteArray)).size + t437.size ≤ 9223372036854775807) = true := decide_eq_true c10
          try have c10b2 : (9223372036854775807 < ((t435 ++ t436) ++ (⟨#[47]⟩ : ByteArray)).size + t437.size) = False := eq_false (Nat.not_lt.2 c10)
          have c10b3 : (9223372036854775807 < t435.size + t436.size + 1 + t437.size) = False := eq_false (by have h_ := c10; simp only [ByteArray.size_append, ByteArray.size_extract, Nat.min_self] at h_; have e0_ : (⟨#[47]⟩ : ByteArray).size = 1 := rfl; omega)
          replace H := Option.bind_eq_some_iff.mp H
          obtain ⟨t438, A110, H⟩ := H
          replace H : (if (((t435 ++ t436) ++ (⟨#[47]⟩ : ByteArray)) ++ t437).size + t438.size ≤ 9223372036854775807 then ((winklelaw13_put.f l1 2).bind fun t439 => (if ((((t435 ++ t436) ++ (⟨#[47]⟩ : ByteArray)) ++ t437) ++ t438).size + t439.size ≤ 9223372036854775807 then ((winklelaw13_put.f l1 3).bind fun t440 => (if t440.size + (((((t435 ++ t436) ++ (⟨#[47]⟩ : ByteArray)) ++ t437) ++ t438) ++ t439).size ≤ 9223372036854775807 then (winklelaw13_MimetypeBetween.l0 k l1 (t440 ++ (((((t435 ++ t436) ++ (⟨#[47]⟩ : ByteArray)) ++ t437) ++ t438) ++ t439)) 0 a0_0 a0_1 l0_2) else (none))) else (none))) else (none)) = some r := H
          have A11 := Aside0.mk A110
          clear A110
          by_cases c12 : (((t435 ++ t436) ++ (⟨#[47]⟩ : ByteArray)) ++ t437).size + t438.size ≤ 9223372036854775807
          · rw [if_pos c12] at H
            have c12b0 := eq_true c12
            have c12b1 : decide ((((t435 ++ t436) ++ (⟨#[47]⟩ : ByteArray)) ++ t437).size + t438.size ≤ 9223372036854775807) = true := decide_eq_true c12
            try have c12b2 : (9223372036854775807 < (((t435 ++ t436) ++ (⟨#[47]⟩ : ByteArray)) ++ t437).size + t438.size) = False := eq_false (Nat.not_lt.2 c12)
            have c12b3 : (9223372036854775807 < t435.size + t436.size + 1 + t437.size + t438.size) = False := eq_false (by have h_ := c12; simp only [ByteArray.size_append, ByteArray.size_extract, Nat.min_self] at h_; have e0_ : (⟨#[47]⟩ : ByteArray).size = 1 := rfl; omega)
            replace H := Option.bind_eq_some_iff.mp H
            obtain ⟨t439, A130, H⟩ := H
            replace H : (if ((((t435 ++ t436) ++ (⟨#[47]⟩ : ByteArray)) ++ t437) ++ t438).size + t439.size ≤ 9223372036854775807 then ((winklelaw13_put.f l1 3).bind fun t440 => (if t440.size + (((((t435 ++ t436) ++ (⟨#[47]⟩ : ByteArray)) ++ t437) ++ t438) ++ t439).size ≤ 9223372036854775807 then (winklelaw13_MimetypeBetween.l0 k l1 (t440 ++ (((((t435 ++ t436) ++ (⟨#[47]⟩ : ByteArray)) ++ t437) ++ t438) ++ t439)) 0 a0_0 a0_1 l0_2) else (none))) else (none)) = some r := H
            have A13 := Aside0.mk A130
            clear A130
            by_cases c14 : ((((t435 ++ t436) ++ (⟨#[47]⟩ : ByteArray)) ++ t437) ++ t438).size + t439.size ≤ 9223372036854775807
            · rw [if_pos c14] at H
              have c14b0 := eq_true c14
              have c14b1 : decide (((((t435 ++ t436) ++ (⟨#[47]⟩ : ByteArray)) ++ t437) ++ t438).size + t439.size ≤ 9223372036854775807) = true := decide_eq_true c14
              try have c14b2 : (9223372036854775807 < ((((t435 ++ t436) ++ (⟨#[47]⟩ : ByteArray)) ++ t437) ++ t438).size + t439.size) = False := eq_false (Nat.not_lt.2 c14)
              have c14b3 : (9223372036854775807 < t435.size + t436.size + 1 + t437.size + t438.size + t439.size) = False := eq_false (by have h_ := c14; simp only [ByteArray.size_append, ByteArray.size_extract, Nat.min_self] at h_; have e0_ : (⟨#[47]⟩ : ByteArray).size = 1 := rfl; omega)
              replace H := Option.bind_eq_some_iff.mp H
              obtain ⟨t440, A150, H⟩ := H
              replace H : (if t440.size + (((((t435 ++ t436) ++ (⟨#[47]⟩ : ByteArray)) ++ t437) ++ t438) ++ t439).size ≤ 9223372036854775807 then (winklelaw13_MimetypeBetween.l0 k l1 (t440 ++ (((((t435 ++ t436) ++ (⟨#[47]⟩ : ByteArray)) ++ t437) ++ t438) ++ t439)) 0 a0_0 a0_1 l0_2) else (none)) = some r := H
              have A15 := Aside0.mk A150
              clear A150
              by_cases c16 : t440.size + (((((t435 ++ t436) ++ (⟨#[47]⟩ : ByteArray)) ++ t437) ++ t438) ++ t439).size ≤ 9223372036854775807
              · rw [if_pos c16] at H
                have c16b0 := eq_true c16
                have c16b1 : decide (t440.size + (((((t435 ++ t436) ++ (⟨#[47]⟩ : ByteArray)) ++ t437) ++ t438) ++ t439).size ≤ 9223372036854775807) = true := decide_eq_true c16
                try have c16b2 : (9223372036854775807 < t440.size + (((((t435 ++ t436) ++ (⟨#[47]⟩ : ByteArray)) ++ t437) ++ t438) ++ t439).size) = False := eq_false (Nat.not_lt.2 c16)
                have c16b3 : (9223372036854775807 < t440.size + (t435.size + t436.size + 1 + t437.size + t438.size + t439.size)) = False := eq_false (by have h_ := c16; simp only [ByteArray.size_append, ByteArray.size_extract, Nat.min_self] at h_; have e0_ : (⟨#[47]⟩ : ByteArray).size = 1 := rfl; omega)
                have H' := Aside0.mk H
                clear H
                go_enter Try.func15, Try.ntmps15
                try go_wp2_with (first | ((with_reducible refine gate_dst (N := 2) rfl ?_); refine box_event ?hg (N := 2) ?hd (cs := #[.string a0_0, .string a0_1, .slice A0_2 l0_2.length c0_2]) (t := 57) ?hr ?_; (case hd => rfl); (case hg => rfl); (case hr => first | (go_simp; done) | (go_simp; rfl)); intro gb431 hg w17 hbox hb; have n0_ := Aside0.mk (below_step (by repeat (first | (with_reducible first | exact HB.out | apply below_alloc | apply pw_below_drewN | apply below_drew1) | exact HB.out)) hb); have n1_ := Aside0.mk (hbox); have n2_ := Aside0.mk ((by rw [hg]; exact (below_size (by repeat (first | (with_reducible first | exact HB.out | apply below_alloc | apply pw_below_drewN | apply below_drew1) | exact HB.out))) : w.heap.size ≤ gb431)); have n3_ := Aside0.mk ((by rw [hg]; exact (below_size (by repeat (first | (with_reducible first | exact HB.out | apply below_alloc | apply pw_below_drewN | apply below_drew1) | exact HB.out))) : w.heap.size ≤ gb431)); clear HB; have HB := n0_; have BK431 := n1_; have GW431 := n2_; have GE431 := n3_; clear n0_ n1_ n2_ n3_; clear hb hbox hg; have hcz18_0 : w17.cell? ⟨gb431, 0, none⟩ = some (.string a0_0) := (blk_cell BK431.out 0).trans rfl; have hcz18_1 : w17.cell? ⟨gb431, 1, none⟩ = some (.string a0_1) := (blk_cell BK431.out 1).trans rfl; have hcz18_2 : w17.cell? ⟨gb431, 2, none⟩ = some (.slice A0_2 l0_2.length c0_2) := (blk_cell BK431.out 2).trans rfl; have hfz18_0 := blk_frozen BK431.out 0; have hfz18_1 := blk_frozen BK431.out 1; have hfz18_2 := blk_frozen BK431.out 2) | ((with_reducible refine gate_callee (f := 46) rfl ?_); refine goesL_ (some 15) rfl rfl Try.func46 (by kernel_rfl) rfl #[.agg #[.string a0_0, .string a0_1, .slice A0_2 l0_2.length c0_2]] rfl (by (try simp only [List.map_toArray, List.map_cons, List.map_nil]); first | done | rfl | (simp only [List.length_drop, List.length_take]; rfl)) ?_; (with_reducible refine (mimetype_Text.calls k a0_0 a0_1 _ _ l0_2 t432 true _ ?side1 ?side2 A3.out).mono ?_); (case side1 => repeat (first | exact (Kd.C_below HR0_2.out HB.out) | (with_reducible refine Kd.C_alloc ?_ _) | (with_reducible refine Kd.C_drewN ?_ _) | (with_reducible refine Kd.C_drew ?_))); (case side2 => exact HC0_2.out); rintro e w19 ⟨rfl, hb⟩; refine ⟨_, rfl, ?_⟩; have n0_ := Aside0.mk (blk_below (g := gb431) (o := .cells #[.string a0_0, .string a0_1, .slice A0_2 l0_2.length c0_2] 57 (0, 0)) (by (with_reducible repeat (first | refine blk_drewN ?_ _ | refine blk_drew ?_ | refine blk_alloc ?_ _)); exact BK431.out) hb); have n1_ := Aside0.mk (below_step (by repeat (first | (with_reducible first | exact HB.out | apply below_alloc | apply pw_below_drewN | apply below_drew1 | refine below_set ?_ GE431.out) | exact HB.out)) hb); clear BK431; clear HB; have BK431 := n0_; have HB := n1_; clear n0_ n1_; (try clear hb); (try clear hb2); (try clear hk); (try clear hi)))
                have n0_ := Aside0.mk (blk_drew BK431.out)
                have n1_ := Aside0.mk (below_drew1 HB.out)
                clear BK431
                clear HB
                have BK431 := n0_
                have HB := n1_
                clear n0_ n1_
                refine start_ (n := 20) (S := fun w' => w'.cell? ⟨gb431, 0, none⟩ = some (.string a0_0) ∧ w'.cell? ⟨gb431, 1, none⟩ = some (.string a0_1) ∧ w'.cell? ⟨gb431, 2, none⟩ = some (.slice A0_2 l0_2.length c0_2)) (ds := []) #[false, false, false, false, false, false, false, false, false, false, false, false, false, false, false, false, false, false, false, false] (by kernel_rfl) rfl rfl ⟨(blk_cell BK431.out 0).trans rfl, (blk_cell BK431.out 1).trans rfl, (blk_cell BK431.out 2).trans rfl⟩ (fun hHeld => ?_); refine with_tabW winklelaw13_MimetypeBetween.tab4 winklelaw13_MimetypeBetween.bits4 (fun HT_ HW_ => ?_)
                generalize w19.drew = w20 at BK431 HB hHeld ⊢
                refine pure_ (i := 0) (N := some 21) (v := ?_) (a' := ?_) #[true, false, false, false, false, false, false, false, false, false, false, false, false, false, false, false, false, false, false, false] rfl rfl (any_of HT_.out (by kernel_rfl)) (fun _ _ _ h => h) (Or.inl ⟨by rfl, ?_⟩) ?_ ?_
                rotate_left
                · intro w'
                  go_simp
                  with_reducible rfl
                rotate_left
                · simp only [Act.put, List.setIfInBounds_toArray, List.set_cons_zero, List.set_cons_succ, i64_w, i32_w]
                  rfl
                refine pure_ (i := 2) (N := some 23) (v := ?_) (a' := ?_) #[true, false, true, false, false, false, false, false, false, false, false, false, false, false, false, false, false, false, false, false] rfl rfl (any_of HT_.out (by kernel_rfl)) (fun _ _ _ h => h) (Or.inl ⟨by rfl, ?_⟩) ?_ ?_
                rotate_left
                · intro w'
                  go_simp
                  with_reducible rfl
                rotate_left
                · simp only [Act.put, List.setIfInBounds_toArray, List.set_cons_zero, List.set_cons_succ, i64_w, i32_w]
                  rfl
                refine pure_ (i := 4) (N := some 25) (v := ?_) (a' := ?_) #[true, false, true, false, true, false, false, false, false, false, false, false, false, false, false, false, false, false, false, false] rfl rfl (any_of HT_.out (by kernel_rfl)) (fun _ _ _ h => h) (Or.inl ⟨by rfl, ?_⟩) ?_ ?_
                rotate_left
                · intro w'
                  go_simp
                  with_reducible rfl
                rotate_left
                · simp only [Act.put, List.setIfInBounds_toArray, List.set_cons_zero, List.set_cons_succ, i64_w, i32_w]
                  rfl
                refine pure_ (i := 8) (N := some 29) (v := ?_) (a' := ?_) #[true, false, true, false, true, false, false, false, true, false, false, false, false, false, false, false, false, false, false, false] rfl rfl (any_of HT_.out (by kernel_rfl)) (fun _ _ _ h => h) (Or.inl ⟨by rfl, ?_⟩) ?_ ?_
                rotate_left
                · intro w'
                  go_simp
                  with_reducible rfl
                rotate_left
                · simp only [Act.put, List.setIfInBounds_toArray, List.set_cons_zero, List.set_cons_succ, i64_w, i32_w]
                  rfl
                refine pure_ (i := 11) (N := some 32) (v := ?_) (a' := ?_) #[true, false, true, false, true, false, false, false, true, false, false, true, false, false, false, false, false, false, false, false] rfl rfl (any_of HT_.out (by kernel_rfl)) (fun _ _ _ h => h) (Or.inl ⟨by rfl, ?_⟩) ?_ ?_
                rotate_left
                · intro w'
                  go_simp
                  with_reducible rfl
                rotate_left
                · simp only [Act.put, List.setIfInBounds_toArray, List.set_cons_zero, List.set_cons_succ, i64_w, i32_w]
                  rfl
                refine pure_ (i := 13) (N := some 34) (v := ?_) (a' := ?_) #[true, false, true, false, true, false, false, false, true, false, false, true, false, true, false, false, false, false, false, false] rfl rfl (any_of HT_.out (by kernel_rfl)) (fun _ _ _ h => h) (Or.inl ⟨by rfl, ?_⟩) ?_ ?_
                rotate_left
                · intro w'
                  go_simp
                  with_reducible rfl
                rotate_left
                · simp only [Act.put, List.setIfInBounds_toArray, List.set_cons_zero, List.set_cons_succ, i64_w, i32_w]
                  rfl
                refine pure_ (i := 16) (N := some 37) (v := ?_) (a' := ?_) #[true, false, true, false, true, false, false, false, true, false, false, true, false, true, false, false, true, false, false, false] rfl rfl (any_of HT_.out (by kernel_rfl)) (fun _ _ _ h => h) (Or.inl ⟨by rfl, ?_⟩) ?_ ?_
                rotate_left
                · intro w'
                  go_simp
                  with_reducible rfl
                rotate_left
                · simp only [Act.put, List.setIfInBounds_toArray, List.set_cons_zero, List.set_cons_succ, i64_w, i32_w]
                  rfl
                refine take_ (i := 1) (N := some 22) (v := ?_) (a' := ?_) #[true, true, true, false, true, false, false, false, true, false, false, true, false, true, false, false, true, false, false, false] rfl rfl (take_ofW HT_.out HW_.out (by kernel_rfl)) (fun _ _ _ h => h) (Or.inl ⟨by rfl, ?_⟩) hHeld ?_ ?_
                rotate_left
                · rintro w' ⟨s0, s1, s2⟩
                  go_simp
                  with_reducible rfl
                rotate_left
                · simp only [Act.put, List.setIfInBounds_toArray, List.set_cons_zero, List.set_cons_succ, i64_w, i32_w]
                  rfl
                refine take_ (i := 12) (N := some 33) (v := ?_) (a' := ?_) #[true, true, true, false, true, false, false, false, true, false, false, true, true, true, false, false, true, false, false, false] rfl rfl (take_ofW HT_.out HW_.out (by kernel_rfl)) (fun _ _ _ h => h) (Or.inl ⟨by rfl, ?_⟩) hHeld ?_ ?_
                rotate_left
                · rintro w' ⟨s0, s1, s2⟩
                  go_simp
                  with_reducible rfl
                rotate_left
                · simp only [Act.put, List.setIfInBounds_toArray, List.set_cons_zero, List.set_cons_succ, i64_w, i32_w]
                  rfl
                refine one_ (i := 3) (N := some 24) #[true, true, true, true, true, false, false, false, true, false, false, true, true, true, false, false, true, false, false, false] rfl rfl (one_of HT_.out (by kernel_rfl)) (by decide) (fun K hK => ?_)
                refine goes_ Try.func52 (by kernel_rfl) rfl #[.string a0_0, .slice A1 l1.length c1] (by rfl) rfl rfl (by (try simp only [List.map_toArray, List.map_cons, List.map_nil]); first | done | rfl | (simp only [List.length_drop, List.length_take]; rfl)) ?_
                with_reducible refine (winklelaw13_mixed.calls a0_0 _ _ l1 t435 _ ?side1 ?side2 A5.out).mono ?_
                (case side1 => repeat (first | exact (Kd.C_below HR1.out HB.out) | (with_reducible refine Kd.C_alloc ?_ _) | (with_reducible refine Kd.C_drewN ?_ _) | (with_reducible refine Kd.C_drew ?_)))
                (case side2 => exact HC1.out)
                rintro e w21 ⟨rfl, hb⟩
                refine ⟨_, rfl, ?_⟩
                have n0_ := Aside0.mk (blk_below (g := gb431) (o := .cells #[.string a0_0, .string a0_1, .slice A0_2 l0_2.length c0_2] 57 (0, 0)) (by (with_reducible repeat (first | refine blk_drewN ?_ _ | refine blk_drew ?_ | refine blk_alloc ?_ _)); exact BK431.out) hb)
                have n1_ := Aside0.mk (below_step (by repeat (first | (with_reducible first | exact HB.out | apply below_alloc | apply pw_below_drewN | apply below_drew1 | refine below_set ?_ GE431.out) | exact HB.out)) hb)
                clear BK431
                clear HB
                have BK431 := n0_
                have HB := n1_
                clear n0_ n1_
                (try clear hb)
                (try clear hb2)
                (try clear hk)
                (try clear hi)
                refine hK.out _ _ ⟨(blk_cell BK431.out 0).trans rfl, (blk_cell BK431.out 1).trans rfl, (blk_cell BK431.out 2).trans rfl⟩ (fun hHeld => ?_)
                clear hK K
                refine norm_ (a' := ?_) ?_ ?_
                rotate_left
                · show Act.put _ (some 24) _ = _
                  simp only [Act.put, List.setIfInBounds_toArray, List.set_cons_zero, List.set_cons_succ, i64_w, i32_w]
                  rfl
                refine one_ (i := 5) (N := some 26) #[true, true, true, true, true, true, false, false, true, false, false, true, true, true, false, false, true, false, false, false] rfl rfl (one_of HT_.out (by kernel_rfl)) (by decide) (fun K hK => ?_)
                refine goes_ Try.func53 (by kernel_rfl) rfl #[.slice A1 l1.length c1, .int .i64 0] (by rfl) rfl rfl (by (try simp only [List.map_toArray, List.map_cons, List.map_nil]); first | done | rfl | (simp only [List.length_drop, List.length_take]; rfl)) ?_
                with_reducible refine (winklelaw13_put.calls _ _ l1 0 t436 _ ?side1 ?side2 A6.out).mono ?_
                (case side1 => repeat (first | exact (Kd.C_below HR1.out HB.out) | (with_reducible refine Kd.C_alloc ?_ _) | (with_reducible refine Kd.C_drewN ?_ _) | (with_reducible refine Kd.C_drew ?_)))
                (case side2 => exact HC1.out)
                rintro e w22 ⟨rfl, hb⟩
                refine ⟨_, rfl, ?_⟩
                have n0_ := Aside0.mk (blk_below (g := gb431) (o := .cells #[.string a0_0, .string a0_1, .slice A0_2 l0_2.length c0_2] 57 (0, 0)) (by (with_reducible repeat (first | refine blk_drewN ?_ _ | refine blk_drew ?_ | refine blk_alloc ?_ _)); exact BK431.out) hb)
                have n1_ := Aside0.mk (below_step (by repeat (first | (with_reducible first | exact HB.out | apply below_alloc | apply pw_below_drewN | apply below_drew1 | refine below_set ?_ GE431.out) | exact HB.out)) hb)
                clear BK431
                clear HB
                have BK431 := n0_
                have HB := n1_
                clear n0_ n1_
                (try clear hb)
                (try clear hb2)
                (try clear hk)
                (try clear hi)
                refine hK.out _ _ ⟨(blk_cell BK431.out 0).trans rfl, (blk_cell BK431.out 1).trans rfl, (blk_cell BK431.out 2).trans rfl⟩ (fun hHeld => ?_)
                clear hK K
                refine norm_ (a' := ?_) ?_ ?_
                rotate_left
                · show Act.put _ (some 26) _ = _
                  simp only [Act.put, List.setIfInBounds_toArray, List.set_cons_zero, List.set_cons_succ, i64_w, i32_w]
                  rfl
                refine pure_ (i := 6) (N := some 27) (v := ?_) (a' := ?_) #[true, true, true, true, true, true, true, false, true, false, false, true, true, true, false, false, true, false, false, false] rfl rfl (any_of HT_.out (by kernel_rfl)) (fun _ _ _ h => h) (Or.inl ⟨by rfl, ?_⟩) ?_ ?_
                rotate_left
                · intro w'
                  go_simp
                  with_reducible rfl
                rotate_left
                · simp only [Act.put, List.setIfInBounds_toArray, List.set_cons_zero, List.set_cons_succ, i64_w, i32_w]
                  rfl
                refine pure_ (i := 7) (N := some 28) (v := ?_) (a' := ?_) #[true, true, true, true, true, true, true, true, true, false, false, true, true, true, false, false, true, false, false, false] rfl rfl (any_of HT_.out (by kernel_rfl)) (fun _ _ _ h => h) (Or.inl ⟨by rfl, ?_⟩) ?_ ?_
                rotate_left
                · intro w'
                  go_simp
                  with_reducible rfl
                rotate_left
                · simp only [Act.put, List.setIfInBounds_toArray, List.set_cons_zero, List.set_cons_succ, i64_w, i32_w]
                  rfl
                refine one_ (i := 9) (N := some 30) #[true, true, true, true, true, true, true, true, true, true, false, true, true, true, false, false, true, false, false, false] rfl rfl (one_of HT_.out (by kernel_rfl)) (by decide) (fun K hK => ?_)
                refine goes_ Try.func53 (by kernel_rfl) rfl #[.slice A1 l1.length c1, .int .i64 1] (by rfl) rfl rfl (by (try simp only [List.map_toArray, List.map_cons, List.map_nil]); first | done | rfl | (simp only [List.length_drop, List.length_take]; rfl)) ?_
                with_reducible refine (winklelaw13_put.calls _ _ l1 1 t437 _ ?side1 ?side2 A9.out).mono ?_
                (case side1 => repeat (first | exact (Kd.C_below HR1.out HB.out) | (with_reducible refine Kd.C_alloc ?_ _) | (with_reducible refine Kd.C_drewN ?_ _) | (with_reducible refine Kd.C_drew ?_)))
                (case side2 => exact HC1.out)
                rintro e w23 ⟨rfl, hb⟩
                refine ⟨_, rfl, ?_⟩
                have n0_ := Aside0.mk (blk_below (g := gb431) (o := .cells #[.string a0_0, .string a0_1, .slice A0_2 l0_2.length c0_2] 57 (0, 0)) (by (with_reducible repeat (first | refine blk_drewN ?_ _ | refine blk_drew ?_ | refine blk_alloc ?_ _)); exact BK431.out) hb)
                have n1_ := Aside0.mk (below_step (by repeat (first | (with_reducible first | exact HB.out | apply below_alloc | apply pw_below_drewN | apply below_drew1 | refine below_set ?_ GE431.out) | exact HB.out)) hb)
                clear BK431
                clear HB
                have BK431 := n0_
                have HB := n1_
                clear n0_ n1_
                (try clear hb)
                (try clear hb2)
                (try clear hk)
                (try clear hi)
                refine hK.out _ _ ⟨(blk_cell BK431.out 0).trans rfl, (blk_cell BK431.out 1).trans rfl, (blk_cell BK431.out 2).trans rfl⟩ (fun hHeld => ?_)
                clear hK K
                refine norm_ (a' := ?_) ?_ ?_
                rotate_left
                · show Act.put _ (some 30) _ = _
                  simp only [Act.put, List.setIfInBounds_toArray, List.set_cons_zero, List.set_cons_succ, i64_w, i32_w]
                  rfl
                refine pure_ (i := 10) (N := some 31) (v := ?_) (a' := ?_) #[true, true, true, true, true, true, true, true, true, true, true, true, true, true, false, false, true, false, false, false] rfl rfl (any_of HT_.out (by kernel_rfl)) (fun _ _ _ h => h) (Or.inl ⟨by rfl, ?_⟩) ?_ ?_
                rotate_left
                · intro w'
                  go_simp
                  with_reducible rfl
                rotate_left
                · simp only [Act.put, List.setIfInBounds_toArray, List.set_cons_zero, List.set_cons_succ, i64_w, i32_w]
                  rfl
                refine one_ (i := 14) (N := some 35) #[true, true, true, true, true, true, true, true, true, true, true, true, true, true, true, false, true, false, false, false] rfl rfl (one_of HT_.out (by kernel_rfl)) (by decide) (fun K hK => ?_)
                refine goes_ Try.func52 (by kernel_rfl) rfl #[.string a0_1, .slice A1 l1.length c1] (by rfl) rfl rfl (by (try simp only [List.map_toArray, List.map_cons, List.map_nil]); first | done | rfl | (simp only [List.length_drop, List.length_take]; rfl)) ?_
                with_reducible refine (winklelaw13_mixed.calls a0_1 _ _ l1 t438 _ ?side1 ?side2 A11.out).mono ?_
                (case side1 => repeat (first | exact (Kd.C_below HR1.out HB.out) | (with_reducible refine Kd.C_alloc ?_ _) | (with_reducible refine Kd.C_drewN ?_ _) | (with_reducible refine Kd.C_drew ?_)))
                (case side2 => exact HC1.out)
                rintro e w24 ⟨rfl, hb⟩
                refine ⟨_, rfl, ?_⟩
                have n0_ := Aside0.mk (blk_below (g := gb431) (o := .cells #[.string a0_0, .string a0_1, .slice A0_2 l0_2.length c0_2] 57 (0, 0)) (by (with_reducible repeat (first | refine blk_drewN ?_ _ | refine blk_drew ?_ | refine blk_alloc ?_ _)); exact BK431.out) hb)
                have n1_ := Aside0.mk (below_step (by repeat (first | (with_reducible first | exact HB.out | apply below_alloc | apply pw_below_drewN | apply below_drew1 | refine below_set ?_ GE431.out) | exact HB.out)) hb)
                clear BK431
                clear HB
                have BK431 := n0_
                have HB := n1_
                clear n0_ n1_
                (try clear hb)
                (try clear hb2)
                (try clear hk)
                (try clear hi)
                refine hK.out _ _ ⟨(blk_cell BK431.out 0).trans rfl, (blk_cell BK431.out 1).trans rfl, (blk_cell BK431.out 2).trans rfl⟩ (fun hHeld => ?_)
                clear hK K
                refine norm_ (a' := ?_) ?_ ?_
                rotate_left
                · show Act.put _ (some 35) _ = _
                  simp only [Act.put, List.setIfInBounds_toArray, List.set_cons_zero, List.set_cons_succ, i64_w, i32_w]
                  rfl
                refine pure_ (i := 15) (N := some 36) (v := ?_) (a' := ?_) #[true, true, true, true, true, true, true, true, true, true, true, true, true, true, true, true, true, false, false, false] rfl rfl (any_of HT_.out (by kernel_rfl)) (fun _ _ _ h => h) (Or.inl ⟨by rfl, ?_⟩) ?_ ?_
                rotate_left
                · intro w'
                  go_simp
                  with_reducible rfl
                rotate_left
                · simp only [Act.put, List.setIfInBounds_toArray, List.set_cons_zero, List.set_cons_succ, i64_w, i32_w]
                  rfl
                refine one_ (i := 17) (N := some 38) #[true, true, true, true, true, true, true, true, true, true, true, true, true, true, true, true, true, true, false, false] rfl rfl (one_of HT_.out (by kernel_rfl)) (by decide) (fun K hK => ?_)
                refine goes_ Try.func53 (by kernel_rfl) rfl #[.slice A1 l1.length c1, .int .i64 2] (by rfl) rfl rfl (by (try simp only [List.map_toArray, List.map_cons, List.map_nil]); first | done | rfl | (simp only [List.length_drop, List.length_take]; rfl)) ?_
                with_reducible refine (winklelaw13_put.calls _ _ l1 2 t439 _ ?side1 ?side2 A13.out).mono ?_
                (case side1 => repeat (first | exact (Kd.C_below HR1.out HB.out) | (with_reducible refine Kd.C_alloc ?_ _) | (with_reducible refine Kd.C_drewN ?_ _) | (with_reducible refine Kd.C_drew ?_)))
                (case side2 => exact HC1.out)
                rintro e w25 ⟨rfl, hb⟩
                refine ⟨_, rfl, ?_⟩
                have n0_ := Aside0.mk (blk_below (g := gb431) (o := .cells #[.string a0_0, .string a0_1, .slice A0_2 l0_2.length c0_2] 57 (0, 0)) (by (with_reducible repeat (first | refine blk_drewN ?_ _ | refine blk_drew ?_ | refine blk_alloc ?_ _)); exact BK431.out) hb)
                have n1_ := Aside0.mk (below_step (by repeat (first | (with_reducible first | exact HB.out | apply below_alloc | apply pw_below_drewN | apply below_drew1 | refine below_set ?_ GE431.out) | exact HB.out)) hb)
                clear BK431
                clear HB
                have BK431 := n0_
                have HB := n1_
                clear n0_ n1_
                (try clear hb)
                (try clear hb2)
                (try clear hk)
                (try clear hi)
                refine hK.out _ _ ⟨(blk_cell BK431.out 0).trans rfl, (blk_cell BK431.out 1).trans rfl, (blk_cell BK431.out 2).trans rfl⟩ (fun hHeld => ?_)
                clear hK K
                refine norm_ (a' := ?_) ?_ ?_
                rotate_left
                · show Act.put _ (some 38) _ = _
                  simp only [Act.put, List.setIfInBounds_toArray, List.set_cons_zero, List.set_cons_succ, i64_w, i32_w]
                  rfl
                refine pure_ (i := 18) (N := some 39) (v := ?_) (a' := ?_) #[true, true, true, true, true, true, true, true, true, true, true, true, true, true, true, true, true, true, true, false] rfl rfl (any_of HT_.out (by kernel_rfl)) (fun _ _ _ h => h) (Or.inl ⟨by rfl, ?_⟩) ?_ ?_
                rotate_left
                · intro w'
                  go_simp
                  with_reducible rfl
                rotate_left
                · simp only [Act.put, List.setIfInBounds_toArray, List.set_cons_zero, List.set_cons_succ, i64_w, i32_w]
                  rfl
                refine pure_ (i := 19) (N := some 7) (v := ?_) (a' := ?_) #[true, true, true, true, true, true, true, true, true, true, true, true, true, true, true, true, true, true, true, true] rfl rfl (any_of HT_.out (by kernel_rfl)) (fun _ _ _ h => h) (Or.inl ⟨by rfl, ?_⟩) ?_ ?_
                rotate_left
                · intro w'
                  go_simp
                  with_reducible rfl
                rotate_left
                · simp only [Act.put, List.setIfInBounds_toArray, List.set_cons_zero, List.set_cons_succ, i64_w, i32_w]
                  rfl
                refine done_ (done_of HT_.out (by kernel_rfl)) ?_
                try go_wp2_with (first | ((with_reducible refine gate_callee (f := 53) rfl ?_); refine goesL_ (some 41) rfl rfl Try.func53 (by kernel_rfl) rfl #[.slice A1 l1.length c1, .int .i64 3] rfl (by (try simp only [List.map_toArray, List.map_cons, List.map_nil]); first | done | rfl | (simp only [List.length_drop, List.length_take]; rfl)) ?_; (with_reducible refine (winklelaw13_put.calls _ _ l1 3 t440 _ ?side1 ?side2 A15.out).mono ?_); (case side1 => repeat (first | exact (Kd.C_below HR1.out HB.out) | (with_reducible refine Kd.C_alloc ?_ _) | (with_reducible refine Kd.C_drewN ?_ _) | (with_reducible refine Kd.C_drew ?_))); (case side2 => exact HC1.out); rintro e w26 ⟨rfl, hb⟩; refine ⟨_, rfl, ?_⟩; have n0_ := Aside0.mk (blk_below (g := gb431) (o := .cells #[.string a0_0, .string a0_1, .slice A0_2 l0_2.length c0_2] 57 (0, 0)) (by (with_reducible repeat (first | refine blk_drewN ?_ _ | refine blk_drew ?_ | refine blk_alloc ?_ _)); exact BK431.out) hb); have n1_ := Aside0.mk (below_step (by repeat (first | (with_reducible first | exact HB.out | apply below_alloc | apply pw_below_drewN | apply below_drew1 | refine below_set ?_ GE431.out) | exact HB.out)) hb); clear BK431; clear HB; have BK431 := n0_; have HB := n1_; clear n0_ n1_; (try clear hb); (try clear hb2); (try clear hk); (try clear hi)))
                go_loopg [7, 8] k (fun kq v7 v8 w' => ∃ (x7_1 : ByteArray) (x8_1 : Int), v7 = .string x7_1 ∧ v8 = .int .i64 x8_1 ∧ Aside0 (winklelaw13_MimetypeBetween.l0 kq l1 x7_1 x8_1 a0_0 a0_1 l0_2 = some r) ∧ Aside0 (kq ≤ k) ∧ Aside0 (w'.heap[gb431]? = some (.cells #[.string a0_0, .string a0_1, (.slice A0_2 l0_2.length c0_2)] 57 (0, 0))) ∧ Aside0 (Below w.heap.size w w'))
                case atStart => exact ⟨(t440 ++ (((((t435 ++ t436) ++ (⟨#[47]⟩ : ByteArray)) ++ t437) ++ t438) ++ t439)), (0), (by first | rfl | (simp; done) | (simp [*]; done) | (simp [isEmpty_bne]; done)), (by first | rfl | (simp; done) | (simp [*]; done) | (simp [isEmpty_bne]; done)), H', ⟨Nat.le_refl _⟩, ⟨by (with_reducible repeat (first | refine blk_drewN ?_ _ | refine blk_drew ?_ | refine blk_alloc ?_ _)); exact BK431.out⟩, ⟨by repeat (first | (with_reducible first | exact HB.out | apply below_alloc | apply pw_below_drewN | apply below_drew1 | refine below_set ?_ GE431.out) | exact HB.out)⟩⟩
                case round =>
                  clear H'
                  try clear c1
                  try clear p2
                  try clear c4
                  try clear c5
                  try clear c7
                  try clear c7b0
                  try clear c7b1
                  try clear c7b2
                  try clear c8
                  try clear c8b0
                  try clear c8b1
                  try clear c8b2
                  try clear c10
                  try clear c10b0
                  try clear c10b1
                  try clear c10b2
                  try clear c12
                  try clear c12b0
                  try clear c12b1
                  try clear c12b2
                  try clear c14
                  try clear c14b0
                  try clear c14b1
                  try clear c14b2
                  try clear c15
                  try clear c16
                  try clear c16b0
                  try clear c16b1
                  try clear c16b2
                  try clear hcz18_0
                  try clear hcz18_1
                  try clear hcz18_2
                  try clear hfz18_0
                  try clear hfz18_1
                  try clear hfz18_2
                  obtain ⟨x7_1, x8_1, rfl, rfl, HA, HK1, BK431, HB⟩ := hrel
                  cases gk with
                  | zero => exact absurd HA.out (by simp [winklelaw13_MimetypeBetween.l0])
                  | succ k1 =>
                    have H := HA.out
                    clear HA
                    simp only [winklelaw13_MimetypeBetween.l0] at H
                    by_cases c27 : x8_1 < (l0_2.length : Int)
                    · rw [if_pos c27] at H
                      have c27b0 : decide (x8_1 < (l0_2.length : Int)) = true := decide_eq_true c27
                      clear c27
                      by_cases c28 : 0 ≤ x8_1
                      · rw [if_pos c28] at H
                        have c28b0 : decide (0 ≤ x8_1) = true := decide_eq_true c28
                        clear c28
                        obtain ⟨y451, hy451⟩ : ∃ y_ : List (S42), y_ = (([(⟨(⟨#[99]⟩ : ByteArray), (rd_T42 l0_2 x8_1).f1⟩ : S42)] : List (S42))) := ⟨_, rfl⟩
                        replace H : ((mimetype_Text.f k1 (⟨#[97]⟩ : ByteArray) (⟨#[98]⟩ : ByteArray) y451).bind fun bt454 => (if (bt454.1.size : Int) < 7 then (some false) else ((winklelaw13_put.f l1 x8_1).bind fun t456 => (if 1 + t456.size ≤ 9223372036854775807 then ((winklelaw13_mixed.f ((rd_T42 l0_2 x8_1).f0) l1).bind fun t458 => (if ((⟨#[59]⟩ : ByteArray) ++ t456).size + t458.size ≤ 9223372036854775807 then ((winklelaw13_put.f l1 (wrap64 (x8_1 + 1))).bind fun t459 => (if (((⟨#[59]⟩ : ByteArray) ++ t456) ++ t458).size + t459.size ≤ 9223372036854775807 then (if ((((⟨#[59]⟩ : ByteArray) ++ t456) ++ t458) ++ t459).size + 1 ≤ 9223372036854775807 then ((winklelaw13_put.f l1 (wrap64 (x8_1 + 2))).bind fun t460 => (if (((((⟨#[59]⟩ : ByteArray) ++ t456) ++ t458) ++ t459) ++ (⟨#[61]⟩ : ByteArray)).size + t460.size ≤ 9223372036854775807 then (if 7 ≤ (bt454.1.size : Int) then (if ((((((⟨#[59]⟩ : ByteArray) ++ t456) ++ t458) ++ t459) ++ (⟨#[61]⟩ : ByteArray)) ++ t460).size + (bt454.1.extract 7 bt454.1.size).size ≤ 9223372036854775807 then ((winklelaw13_put.f l1 (wrap64 (x8_1 + 3))).bind fun t461 => (if (((((((⟨#[59]⟩ : ByteArray) ++ t456) ++ t458) ++ t459) ++ (⟨#[61]⟩ : ByteArray)) ++ t460) ++ (bt454.1.extract 7 bt454.1.size)).size + t461.size ≤ 9223372036854775807 then (if x7_1.size + ((((((((⟨#[59]⟩ : ByteArray) ++ t456) ++ t458) ++ t459) ++ (⟨#[61]⟩ : ByteArray)) ++ t460) ++ (bt454.1.extract 7 bt454.1.size)) ++ t461).size ≤ 9223372036854775807 then (winklelaw13_MimetypeBetween.l0 k1 l1 (x7_1 ++ ((((((((⟨#[59]⟩ : ByteArray) ++ t456) ++ t458) ++ t459) ++ (⟨#[61]⟩ : ByteArray)) ++ t460) ++ (bt454.1.extract 7 bt454.1.size)) ++ t461)) (wrap64 (x8_1 + 1)) a0_0 a0_1 l0_2) else (none)) else (none))) else (none)) else (none)) else (none))) else (none)) else (none))) else (none))) else (none))))) = some r := by first | (rw [hy451]; with_reducible exact H) | (have H2_ := (Option.bind_some _ _).symm.trans H; rw [hy451]; with_reducible exact H2_) | (have H2_ := (Option.bind_some _ _).symm.trans H; with_reducible exact H2_) | with_reducible exact H | (rw [hy451]; exact H) | exact H
                        have Ny451 := Aside0.mk hy451
                        clear hy451
                        replace H := Option.bind_eq_some_iff.mp H
                        obtain ⟨⟨t454, t455⟩, A290, H⟩ := H
                        replace H : (if (t454.size : Int) < 7 then (some false) else ((winklelaw13_put.f l1 x8_1).bind fun t456 => (if 1 + t456.size ≤ 9223372036854775807 then ((winklelaw13_mixed.f ((rd_T42 l0_2 x8_1).f0) l1).bind fun t458 => (if ((⟨#[59]⟩ : ByteArray) ++ t456).size + t458.size ≤ 9223372036854775807 then ((winklelaw13_put.f l1 (wrap64 (x8_1 + 1))).bind fun t459 => (if (((⟨#[59]⟩ : ByteArray) ++ t456) ++ t458).size + t459.size ≤ 9223372036854775807 then (if ((((⟨#[59]⟩ : ByteArray) ++ t456) ++ t458) ++ t459).size + 1 ≤ 9223372036854775807 then ((winklelaw13_put.f l1 (wrap64 (x8_1 + 2))).bind fun t460 => (if (((((⟨#[59]⟩ : ByteArray) ++ t456) ++ t458) ++ t459) ++ (⟨#[61]⟩ : ByteArray)).size + t460.size ≤ 9223372036854775807 then (if 7 ≤ (t454.size : Int) then (if ((((((⟨#[59]⟩ : ByteArray) ++ t456) ++ t458) ++ t459) ++ (⟨#[61]⟩ : ByteArray)) ++ t460).size + (t454.extract 7 t454.size).size ≤ 9223372036854775807 then ((winklelaw13_put.f l1 (wrap64 (x8_1 + 3))).bind fun t461 => (if (((((((⟨#[59]⟩ : ByteArray) ++ t456) ++ t458) ++ t459) ++ (⟨#[61]⟩ : ByteArray)) ++ t460) ++ (t454.extract 7 t454.size)).size + t461.size ≤ 9223372036854775807 then (if x7_1.size + ((((((((⟨#[59]⟩ : ByteArray) ++ t456) ++ t458) ++ t459) ++ (⟨#[61]⟩ : ByteArray)) ++ t460) ++ (t454.extract 7 t454.size)) ++ t461).size ≤ 9223372036854775807 then (winklelaw13_MimetypeBetween.l0 k1 l1 (x7_1 ++ ((((((((⟨#[59]⟩ : ByteArray) ++ t456) ++ t458) ++ t459) ++ (⟨#[61]⟩ : ByteArray)) ++ t460) ++ (t454.extract 7 t454.size)) ++ t461)) (wrap64 (x8_1 + 1)) a0_0 a0_1 l0_2) else (none)) else (none))) else (none)) else (none)) else (none))) else (none)) else (none))) else (none))) else (none)))) = some r := H
                        have A29 := Aside0.mk A290
                        clear A290
                        by_cases c30 : (t454.size : Int) < 7
                        · rw [if_pos c30] at H
                          have c30b0 : decide ((t454.size : Int) < 7) = true := decide_eq_true c30
                          have c30b1 : decide (t454.size < 7) = true := decide_eq_true (by omega)
                          clear c30
                          obtain rfl := Option.some.inj H
                          have hcz31_0 : wr.cell? ⟨gb431, 0, none⟩ = some (.string a0_0) := (blk_cell BK431.out 0).trans rfl
                          have hcz31_1 : wr.cell? ⟨gb431, 1, none⟩ = some (.string a0_1) := (blk_cell BK431.out 1).trans rfl
                          have hcz31_2 : wr.cell? ⟨gb431, 2, none⟩ = some (.slice A0_2 l0_2.length c0_2) := (blk_cell BK431.out 2).trans rfl
                          have hfz31_0 := blk_frozen BK431.out 0
                          have hfz31_1 := blk_frozen BK431.out 1
                          have hfz31_2 := blk_frozen BK431.out 2
                          have p450 : 0 ≤ (x8_1 : Int) := of_decide_eq_true (by first | (with_reducible assumption) | assumption)
                          have q450 : x8_1 < (l0_2.length : Int) := of_decide_eq_true (by first | (with_reducible assumption) | assumption)
                          obtain ⟨ad450, e450, hx450_0, hx450_1⟩ := at_T42 HR0_2.out x8_1 p450 q450
                          cases e450
                          replace hx450_0 := (HB.out.cell (World.block_lt_of_cell? w _ hx450_0)).trans hx450_0
                          replace hx450_1 := (HB.out.cell (World.block_lt_of_cell? w _ hx450_1)).trans hx450_1
                          replace p450 := eq_true p450
                          replace q450 := eq_true q450
                          go_wp2_with (first | ((with_reducible refine gate_dst (N := 59) rfl ?_); refine Kd.R_lit k42 _ 42 ?hg (N := 59) ?hd (xs := ([(⟨(⟨#[99]⟩ : ByteArray), (rd_T42 l0_2 x8_1).f1⟩ : S42)] : List (S42))) (inner := [.string (⟨#[99]⟩ : ByteArray), .string ((rd_T42 l0_2 x8_1).f1)]) (ok := fun _ => True) (okp := fun _ => True) ?hr ?hp (fun _ hk => hk) trivial (Below.refl _ _) (Nat.le_refl _) (by simp) ?_; (case hd => rfl); (case hg => rfl); (case hr => first | (go_simp; done) | (go_simp; rfl)); (case hp => exact (Reps.c2 (show Kd.M k42 _ _ _ (⟨(⟨#[99]⟩ : ByteArray), (rd_T42 l0_2 x8_1).f1⟩ : S42) [.string (⟨#[99]⟩ : ByteArray), .string ((rd_T42 l0_2 x8_1).f1)] from (k42_mkM _ _ _ (⟨(⟨#[99]⟩ : ByteArray), (rd_T42 l0_2 x8_1).f1⟩ : S42) )) (Reps.none _ _))); intro v452 w32 ho33 hb hg_ hnew_; clear hg_ hnew_; (first | rw [← Ny451.out] at ho33 | (simp only [Int.reduceToNat] at ho33; rw [← Ny451.out] at ho33)); have n0_ := Aside0.mk (Kd.R_lower ho33 (below_size (by repeat (first | (with_reducible first | exact HB.out | apply below_alloc | apply pw_below_drewN | apply below_drew1 | refine below_set ?_ GE431.out) | exact HB.out)))); have n1_ := Aside0.mk (blk_below (g := gb431) (o := .cells #[.string a0_0, .string a0_1, .slice (some ad450) l0_2.length c0_2] 57 (0, 0)) (by (with_reducible repeat (first | refine blk_drewN ?_ _ | refine blk_drew ?_ | refine blk_alloc ?_ _)); exact BK431.out) hb); have n2_ := Aside0.mk (below_step (by repeat (first | (with_reducible first | exact HB.out | apply below_alloc | apply pw_below_drewN | apply below_drew1 | refine below_set ?_ GE431.out) | exact HB.out)) hb); clear BK431; clear HB; have HO453 := n0_; have BK431 := n1_; have HB := n2_; clear n0_ n1_ n2_; clear hb ho33; obtain ⟨Ao34, co34, eo34⟩ := Kd.R_slice HO453.out; subst eo34) | ((with_reducible refine gate_callee (f := 46) rfl ?_); refine goesL_ (some 61) rfl rfl Try.func46 (by kernel_rfl) rfl #[.agg #[.string (⟨#[97]⟩ : ByteArray), .string (⟨#[98]⟩ : ByteArray), .slice Ao34 y451.length co34]] rfl (by (try simp only [List.map_toArray, List.map_cons, List.map_nil]); first | done | rfl | (simp only [List.length_drop, List.length_take]; rfl)) ?_; (with_reducible refine (mimetype_Text.calls k1 (⟨#[97]⟩ : ByteArray) (⟨#[98]⟩ : ByteArray) _ _ y451 t454 t455 _ ?side1 ?side2 A29.out).mono ?_); (case side1 => repeat (first | exact (Kd.R_reads' HO453.out).2.2 | (with_reducible refine Kd.C_alloc ?_ _) | (with_reducible refine Kd.C_drewN ?_ _) | (with_reducible refine Kd.C_drew ?_))); (case side2 => exact (Kd.R_reads' HO453.out).2.1); rintro e w35 ⟨rfl, hb⟩; refine ⟨_, rfl, ?_⟩; have n0_ := Aside0.mk (Kd.R_below (by (with_reducible repeat (first | apply Kd.R_alloc | apply Kd.R_drewN | apply Kd.R_drew)); exact HO453.out) hb); have n1_ := Aside0.mk (blk_below (g := gb431) (o := .cells #[.string a0_0, .string a0_1, .slice (some ad450) l0_2.length c0_2] 57 (0, 0)) (by (with_reducible repeat (first | refine blk_drewN ?_ _ | refine blk_drew ?_ | refine blk_alloc ?_ _)); exact BK431.out) hb); have n2_ := Aside0.mk (below_step (by repeat (first | (with_reducible first | exact HB.out | apply below_alloc | apply pw_below_drewN | apply below_drew1 | refine below_set ?_ GE431.out) | exact HB.out)) hb); clear HO453; clear BK431; clear HB; have HO453 := n0_; have BK431 := n1_; have HB := n2_; clear n0_ n1_ n2_; (try clear hb); (try clear hb2); (try clear hk); (try clear hi)))
                          go_ret
                          exact ⟨by first | rfl | (simp [errW_none, errW_some] <;> rfl) | (simp [*, errW_none, errW_some] <;> rfl), by repeat (first | (with_reducible first | exact HB.out | apply below_alloc | apply pw_below_drewN | apply below_drew1 | refine below_set ?_ GE431.out) | exact HB.out)⟩
                        · rw [if_neg c30] at H
                          have c30b0 : decide ((t454.size : Int) < 7) = false := decide_eq_false c30
                          have c30b1 : decide (t454.size < 7) = false := decide_eq_false (by omega)
                          clear c30
                          replace H := Option.bind_eq_some_iff.mp H
                          obtain ⟨t456, A360, H⟩ := H
                          replace H : (if 1 + t456.size ≤ 9223372036854775807 then ((winklelaw13_mixed.f ((rd_T42 l0_2 x8_1).f0) l1).bind fun t458 => (if ((⟨#[59]⟩ : ByteArray) ++ t456).size + t458.size ≤ 9223372036854775807 then ((winklelaw13_put.f l1 (wrap64 (x8_1 + 1))).bind fun t459 => (if (((⟨#[59]⟩ : ByteArray) ++ t456) ++ t458).size + t459.size ≤ 9223372036854775807 then (if ((((⟨#[59]⟩ : ByteArray) ++ t456) ++ t458) ++ t459).size + 1 ≤ 9223372036854775807 then ((winklelaw13_put.f l1 (wrap64 (x8_1 + 2))).bind fun t460 => (if (((((⟨#[59]⟩ : ByteArray) ++ t456) ++ t458) ++ t459) ++ (⟨#[61]⟩ : ByteArray)).size + t460.size ≤ 9223372036854775807 then (if 7 ≤ (t454.size : Int) then (if ((((((⟨#[59]⟩ : ByteArray) ++ t456) ++ t458) ++ t459) ++ (⟨#[61]⟩ : ByteArray)) ++ t460).size + (t454.extract 7 t454.size).size ≤ 9223372036854775807 then ((winklelaw13_put.f l1 (wrap64 (x8_1 + 3))).bind fun t461 => (if (((((((⟨#[59]⟩ : ByteArray) ++ t456) ++ t458) ++ t459) ++ (⟨#[61]⟩ : ByteArray)) ++ t460) ++ (t454.extract 7 t454.size)).size + t461.size ≤ 9223372036854775807 then (if x7_1.size + ((((((((⟨#[59]⟩ : ByteArray) ++ t456) ++ t458) ++ t459) ++ (⟨#[61]⟩ : ByteArray)) ++ t460) ++ (t454.extract 7 t454.size)) ++ t461).size ≤ 9223372036854775807 then (winklelaw13_MimetypeBetween.l0 k1 l1 (x7_1 ++ ((((((((⟨#[59]⟩ : ByteArray) ++ t456) ++ t458) ++ t459) ++ (⟨#[61]⟩ : ByteArray)) ++ t460) ++ (t454.extract 7 t454.size)) ++ t461)) (wrap64 (x8_1 + 1)) a0_0 a0_1 l0_2) else (none)) else (none))) else (none)) else (none)) else (none))) else (none)) else (none))) else (none))) else (none)) = some r := H
                          have A36 := Aside0.mk A360
                          clear A360
                          by_cases c37 : 1 + t456.size ≤ 9223372036854775807
                          · rw [if_pos c37] at H
                            have c37b0 := eq_true c37
                            have c37b1 : decide (1 + t456.size ≤ 9223372036854775807) = true := decide_eq_true c37
                            try have c37b2 : (9223372036854775807 < 1 + t456.size) = False := eq_false (Nat.not_lt.2 c37)
                            replace H := Option.bind_eq_some_iff.mp H
                            obtain ⟨t458, A380, H⟩ := H
                            replace H : (if ((⟨#[59]⟩ : ByteArray) ++ t456).size + t458.size ≤ 9223372036854775807 then ((winklelaw13_put.f l1 (wrap64 (x8_1 + 1))).bind fun t459 => (if (((⟨#[59]⟩ : ByteArray) ++ t456) ++ t458).size + t459.size ≤ 9223372036854775807 then (if ((((⟨#[59]⟩ : ByteArray) ++ t456) ++ t458) ++ t459).size + 1 ≤ 9223372036854775807 then ((winklelaw13_put.f l1 (wrap64 (x8_1 + 2))).bind fun t460 => (if (((((⟨#[59]⟩ : ByteArray) ++ t456) ++ t458) ++ t459) ++ (⟨#[61]⟩ : ByteArray)).size + t460.size ≤ 9223372036854775807 then (if 7 ≤ (t454.size : Int) then (if ((((((⟨#[59]⟩ : ByteArray) ++ t456) ++ t458) ++ t459) ++ (⟨#[61]⟩ : ByteArray)) ++ t460).size + (t454.extract 7 t454.size).size ≤ 9223372036854775807 then ((winklelaw13_put.f l1 (wrap64 (x8_1 + 3))).bind fun t461 => (if (((((((⟨#[59]⟩ : ByteArray) ++ t456) ++ t458) ++ t459) ++ (⟨#[61]⟩ : ByteArray)) ++ t460) ++ (t454.extract 7 t454.size)).size + t461.size ≤ 9223372036854775807 then (if x7_1.size + ((((((((⟨#[59]⟩ : ByteArray) ++ t456) ++ t458) ++ t459) ++ (⟨#[61]⟩ : ByteArray)) ++ t460) ++ (t454.extract 7 t454.size)) ++ t461).size ≤ 9223372036854775807 then (winklelaw13_MimetypeBetween.l0 k1 l1 (x7_1 ++ ((((((((⟨#[59]⟩ : ByteArray) ++ t456) ++ t458) ++ t459) ++ (⟨#[61]⟩ : ByteArray)) ++ t460) ++ (t454.extract 7 t454.size)) ++ t461)) (wrap64 (x8_1 + 1)) a0_0 a0_1 l0_2) else (none)) else (none))) else (none)) else (none)) else (none))) else (none)) else (none))) else (none)) = some r := H
                            have A38 := Aside0.mk A380
                            clear A380
                            by_cases c39 : ((⟨#[59]⟩ : ByteArray) ++ t456).size + t458.size ≤ 9223372036854775807
                            · rw [if_pos c39] at H
                              have c39b0 := eq_true c39
                              have c39b1 : decide (((⟨#[59]⟩ : ByteArray) ++ t456).size + t458.size ≤ 9223372036854775807) = true := decide_eq_true c39
                              try have c39b2 : (9223372036854775807 < ((⟨#[59]⟩ : ByteArray) ++ t456).size + t458.size) = False := eq_false (Nat.not_lt.2 c39)
                              have c39b3 : (9223372036854775807 < 1 + t456.size + t458.size) = False := eq_false (by have h_ := c39; simp only [ByteArray.size_append, ByteArray.size_extract, Nat.min_self] at h_; have e0_ : (⟨#[59]⟩ : ByteArray).size = 1 := rfl; omega)
                              replace H := Option.bind_eq_some_iff.mp H
                              obtain ⟨t459, A400, H⟩ := H
                              replace H : (if (((⟨#[59]⟩ : ByteArray) ++ t456) ++ t458).size + t459.size ≤ 9223372036854775807 then (if ((((⟨#[59]⟩ : ByteArray) ++ t456) ++ t458) ++ t459).size + 1 ≤ 9223372036854775807 then ((winklelaw13_put.f l1 (wrap64 (x8_1 + 2))).bind fun t460 => (if (((((⟨#[59]⟩ : ByteArray) ++ t456) ++ t458) ++ t459) ++ (⟨#[61]⟩ : ByteArray)).size + t460.size ≤ 9223372036854775807 then (if 7 ≤ (t454.size : Int) then (if ((((((⟨#[59]⟩ : ByteArray) ++ t456) ++ t458) ++ t459) ++ (⟨#[61]⟩ : ByteArray)) ++ t460).size + (t454.extract 7 t454.size).size ≤ 9223372036854775807 then ((winklelaw13_put.f l1 (wrap64 (x8_1 + 3))).bind fun t461 => (if (((((((⟨#[59]⟩ : ByteArray) ++ t456) ++ t458) ++ t459) ++ (⟨#[61]⟩ : ByteArray)) ++ t460) ++ (t454.extract 7 t454.size)).size + t461.size ≤ 9223372036854775807 then (if x7_1.size + ((((((((⟨#[59]⟩ : ByteArray) ++ t456) ++ t458) ++ t459) ++ (⟨#[61]⟩ : ByteArray)) ++ t460) ++ (t454.extract 7 t454.size)) ++ t461).size ≤ 9223372036854775807 then (winklelaw13_MimetypeBetween.l0 k1 l1 (x7_1 ++ ((((((((⟨#[59]⟩ : ByteArray) ++ t456) ++ t458) ++ t459) ++ (⟨#[61]⟩ : ByteArray)) ++ t460) ++ (t454.extract 7 t454.size)) ++ t461)) (wrap64 (x8_1 + 1)) a0_0 a0_1 l0_2) else (none)) else (none))) else (none)) else (none)) else (none))) else (none)) else (none)) = some r := H
                              have A40 := Aside0.mk A400
                              clear A400
                              by_cases c41 : (((⟨#[59]⟩ : ByteArray) ++ t456) ++ t458).size + t459.size ≤ 9223372036854775807
                              · rw [if_pos c41] at H
                                have c41b0 := eq_true c41
                                have c41b1 : decide ((((⟨#[59]⟩ : ByteArray) ++ t456) ++ t458).size + t459.size ≤ 9223372036854775807) = true := decide_eq_true c41
                                try have c41b2 : (9223372036854775807 < (((⟨#[59]⟩ : ByteArray) ++ t456) ++ t458).size + t459.size) = False := eq_false (Nat.not_lt.2 c41)
                                have c41b3 : (9223372036854775807 < 1 + t456.size + t458.size + t459.size) = False := eq_false (by have h_ := c41; simp only [ByteArray.size_append, ByteArray.size_extract, Nat.min_self] at h_; have e0_ : (⟨#[59]⟩ : ByteArray).size = 1 := rfl; omega)
                                by_cases c42 : ((((⟨#[59]⟩ : ByteArray) ++ t456) ++ t458) ++ t459).size + 1 ≤ 9223372036854775807
                                · rw [if_pos c42] at H
                                  have c42b0 := eq_true c42
                                  have c42b1 : decide (((((⟨#[59]⟩ : ByteArray) ++ t456) ++ t458) ++ t459).size + 1 ≤ 9223372036854775807) = true := decide_eq_true c42
                                  try have c42b2 : (9223372036854775807 < ((((⟨#[59]⟩ : ByteArray) ++ t456) ++ t458) ++ t459).size + 1) = False := eq_false (Nat.not_lt.2 c42)
                                  have c42b3 : (9223372036854775807 < 1 + t456.size + t458.size + t459.size + 1) = False := eq_false (by have h_ := c42; simp only [ByteArray.size_append, ByteArray.size_extract, Nat.min_self] at h_; have e0_ : (⟨#[59]⟩ : ByteArray).size = 1 := rfl; omega)
                                  replace H := Option.bind_eq_some_iff.mp H
                                  obtain ⟨t460, A430, H⟩ := H
                                  replace H : (if (((((⟨#[59]⟩ : ByteArray) ++ t456) ++ t458) ++ t459) ++ (⟨#[61]⟩ : ByteArray)).size + t460.size ≤ 9223372036854775807 then (if 7 ≤ (t454.size : Int) then (if ((((((⟨#[59]⟩ : ByteArray) ++ t456) ++ t458) ++ t459) ++ (⟨#[61]⟩ : ByteArray)) ++ t460).size + (t454.extract 7 t454.size).size ≤ 9223372036854775807 then ((winklelaw13_put.f l1 (wrap64 (x8_1 + 3))).bind fun t461 => (if (((((((⟨#[59]⟩ : ByteArray) ++ t456) ++ t458) ++ t459) ++ (⟨#[61]⟩ : ByteArray)) ++ t460) ++ (t454.extract 7 t454.size)).size + t461.size ≤ 9223372036854775807 then (if x7_1.size + ((((((((⟨#[59]⟩ : ByteArray) ++ t456) ++ t458) ++ t459) ++ (⟨#[61]⟩ : ByteArray)) ++ t460) ++ (t454.extract 7 t454.size)) ++ t461).size ≤ 9223372036854775807 then (winklelaw13_MimetypeBetween.l0 k1 l1 (x7_1 ++ ((((((((⟨#[59]⟩ : ByteArray) ++ t456) ++ t458) ++ t459) ++ (⟨#[61]⟩ : ByteArray)) ++ t460) ++ (t454.extract 7 t454.size)) ++ t461)) (wrap64 (x8_1 + 1)) a0_0 a0_1 l0_2) else (none)) else (none))) else (none)) else (none)) else (none)) = some r := H
                                  have A43 := Aside0.mk A430
                                  clear A430
                                  by_cases c44 : (((((⟨#[59]⟩ : ByteArray) ++ t456) ++ t458) ++ t459) ++ (⟨#[61]⟩ : ByteArray)).size + t460.size ≤ 9223372036854775807
                                  · rw [if_pos c44] at H
                                    have c44b0 := eq_true c44
                                    have c44b1 : decide ((((((⟨#[59]⟩ : ByteArray) ++ t456) ++ t458) ++ t459) ++ (⟨#[61]⟩ : ByteArray)).size + t460.size ≤ 9223372036854775807) = true := decide_eq_true c44
                                    try have c44b2 : (9223372036854775807 < (((((⟨#[59]⟩ : ByteArray) ++ t456) ++ t458) ++ t459) ++ (⟨#[61]⟩ : ByteArray)).size + t460.size) = False := eq_false (Nat.not_lt.2 c44)
                                    have c44b3 : (9223372036854775807 < 1 + t456.size + t458.size + t459.size + 1 + t460.size) = False := eq_false (by have h_ := c44; simp only [ByteArray.size_append, ByteArray.size_extract, Nat.min_self] at h_; have e0_ : (⟨#[59]⟩ : ByteArray).size = 1 := rfl; have e1_ : (⟨#[61]⟩ : ByteArray).size = 1 := rfl; omega)
                                    by_cases c45 : 7 ≤ (t454.size : Int)
                                    · rw [if_pos c45] at H
                                      have c45b0 := eq_true c45
                                      have c45b1 : decide (7 ≤ (t454.size : Int)) = true := decide_eq_true c45
                                      clear c45
                                      by_cases c46 : ((((((⟨#[59]⟩ : ByteArray) ++ t456) ++ t458) ++ t459) ++ (⟨#[61]⟩ : ByteArray)) ++ t460).size + (t454.extract 7 t454.size).size ≤ 9223372036854775807
                                      · rw [if_pos c46] at H
                                        have c46b0 := eq_true c46
                                        have c46b1 : decide (((((((⟨#[59]⟩ : ByteArray) ++ t456) ++ t458) ++ t459) ++ (⟨#[61]⟩ : ByteArray)) ++ t460).size + (t454.extract 7 t454.size).size ≤ 9223372036854775807) = true := decide_eq_true c46
                                        try have c46b2 : (9223372036854775807 < ((((((⟨#[59]⟩ : ByteArray) ++ t456) ++ t458) ++ t459) ++ (⟨#[61]⟩ : ByteArray)) ++ t460).size + (t454.extract 7 t454.size).size) = False := eq_false (Nat.not_lt.2 c46)
                                        have c46b3 : (9223372036854775807 < 1 + t456.size + t458.size + t459.size + 1 + t460.size + (t454.size - 7)) = False := eq_false (by have h_ := c46; simp only [ByteArray.size_append, ByteArray.size_extract, Nat.min_self] at h_; have e0_ : (⟨#[59]⟩ : ByteArray).size = 1 := rfl; have e1_ : (⟨#[61]⟩ : ByteArray).size = 1 := rfl; omega)
                                        replace H := Option.bind_eq_some_iff.mp H
                                        obtain ⟨t461, A470, H⟩ := H
                                        replace H : (if (((((((⟨#[59]⟩ : ByteArray) ++ t456) ++ t458) ++ t459) ++ (⟨#[61]⟩ : ByteArray)) ++ t460) ++ (t454.extract 7 t454.size)).size + t461.size ≤ 9223372036854775807 then (if x7_1.size + ((((((((⟨#[59]⟩ : ByteArray) ++ t456) ++ t458) ++ t459) ++ (⟨#[61]⟩ : ByteArray)) ++ t460) ++ (t454.extract 7 t454.size)) ++ t461).size ≤ 9223372036854775807 then (winklelaw13_MimetypeBetween.l0 k1 l1 (x7_1 ++ ((((((((⟨#[59]⟩ : ByteArray) ++ t456) ++ t458) ++ t459) ++ (⟨#[61]⟩ : ByteArray)) ++ t460) ++ (t454.extract 7 t454.size)) ++ t461)) (wrap64 (x8_1 + 1)) a0_0 a0_1 l0_2) else (none)) else (none)) = some r := H
                                        have A47 := Aside0.mk A470
                                        clear A470
                                        by_cases c48 : (((((((⟨#[59]⟩ : ByteArray) ++ t456) ++ t458) ++ t459) ++ (⟨#[61]⟩ : ByteArray)) ++ t460) ++ (t454.extract 7 t454.size)).size + t461.size ≤ 9223372036854775807
                                        · rw [if_pos c48] at H
                                          have c48b0 := eq_true c48
                                          have c48b1 : decide ((((((((⟨#[59]⟩ : ByteArray) ++ t456) ++ t458) ++ t459) ++ (⟨#[61]⟩ : ByteArray)) ++ t460) ++ (t454.extract 7 t454.size)).size + t461.size ≤ 9223372036854775807) = true := decide_eq_true c48
                                          try have c48b2 : (9223372036854775807 < (((((((⟨#[59]⟩ : ByteArray) ++ t456) ++ t458) ++ t459) ++ (⟨#[61]⟩ : ByteArray)) ++ t460) ++ (t454.extract 7 t454.size)).size + t461.size) = False := eq_false (Nat.not_lt.2 c48)
                                          have c48b3 : (9223372036854775807 < 1 + t456.size + t458.size + t459.size + 1 + t460.size + (t454.size - 7) + t461.size) = False := eq_false (by have h_ := c48; simp only [ByteArray.size_append, ByteArray.size_extract, Nat.min_self] at h_; have e0_ : (⟨#[59]⟩ : ByteArray).size = 1 := rfl; have e1_ : (⟨#[61]⟩ : ByteArray).size = 1 := rfl; omega)
                                          by_cases c49 : x7_1.size + ((((((((⟨#[59]⟩ : ByteArray) ++ t456) ++ t458) ++ t459) ++ (⟨#[61]⟩ : ByteArray)) ++ t460) ++ (t454.extract 7 t454.size)) ++ t461).size ≤ 9223372036854775807
                                          · rw [if_pos c49] at H
                                            have c49b0 := eq_true c49
                                            have c49b1 : decide (x7_1.size + ((((((((⟨#[59]⟩ : ByteArray) ++ t456) ++ t458) ++ t459) ++ (⟨#[61]⟩ : ByteArray)) ++ t460) ++ (t454.extract 7 t454.size)) ++ t461).size ≤ 9223372036854775807) = true := decide_eq_true c49
                                            try have c49b2 : (9223372036854775807 < x7_1.size + ((((((((⟨#[59]⟩ : ByteArray) ++ t456) ++ t458) ++ t459) ++ (⟨#[61]⟩ : ByteArray)) ++ t460) ++ (t454.extract 7 t454.size)) ++ t461).size) = False := eq_false (Nat.not_lt.2 c49)
                                            have c49b3 : (9223372036854775807 < x7_1.size + (1 + t456.size + t458.size + t459.size + 1 + t460.size + (t454.size - 7) + t461.size)) = False := eq_false (by have h_ := c49; simp only [ByteArray.size_append, ByteArray.size_extract, Nat.min_self] at h_; have e0_ : (⟨#[59]⟩ : ByteArray).size = 1 := rfl; have e1_ : (⟨#[61]⟩ : ByteArray).size = 1 := rfl; omega)
                                            have H' := Aside0.mk H
                                            clear H
                                            have hcz50_0 : wr.cell? ⟨gb431, 0, none⟩ = some (.string a0_0) := (blk_cell BK431.out 0).trans rfl
                                            have hcz50_1 : wr.cell? ⟨gb431, 1, none⟩ = some (.string a0_1) := (blk_cell BK431.out 1).trans rfl
                                            have hcz50_2 : wr.cell? ⟨gb431, 2, none⟩ = some (.slice A0_2 l0_2.length c0_2) := (blk_cell BK431.out 2).trans rfl
                                            have hfz50_0 := blk_frozen BK431.out 0
                                            have hfz50_1 := blk_frozen BK431.out 1
                                            have hfz50_2 := blk_frozen BK431.out 2
                                            have p450 : 0 ≤ (x8_1 : Int) := of_decide_eq_true (by first | (with_reducible assumption) | assumption)
                                            have q450 : x8_1 < (l0_2.length : Int) := of_decide_eq_true (by first | (with_reducible assumption) | assumption)
                                            obtain ⟨ad450, e450, hx450_0, hx450_1⟩ := at_T42 HR0_2.out x8_1 p450 q450
                                            cases e450
                                            replace hx450_0 := (HB.out.cell (World.block_lt_of_cell? w _ hx450_0)).trans hx450_0
                                            replace hx450_1 := (HB.out.cell (World.block_lt_of_cell? w _ hx450_1)).trans hx450_1
                                            replace p450 := eq_true p450
                                            replace q450 := eq_true q450
                                            try go_wp2_with (first | ((with_reducible refine gate_dst (N := 59) rfl ?_); refine Kd.R_lit k42 _ 42 ?hg (N := 59) ?hd (xs := ([(⟨(⟨#[99]⟩ : ByteArray), (rd_T42 l0_2 x8_1).f1⟩ : S42)] : List (S42))) (inner := [.string (⟨#[99]⟩ : ByteArray), .string ((rd_T42 l0_2 x8_1).f1)]) (ok := fun _ => True) (okp := fun _ => True) ?hr ?hp (fun _ hk => hk) trivial (Below.refl _ _) (Nat.le_refl _) (by simp) ?_; (case hd => rfl); (case hg => rfl); (case hr => first | (go_simp; done) | (go_simp; rfl)); (case hp => exact (Reps.c2 (show Kd.M k42 _ _ _ (⟨(⟨#[99]⟩ : ByteArray), (rd_T42 l0_2 x8_1).f1⟩ : S42) [.string (⟨#[99]⟩ : ByteArray), .string ((rd_T42 l0_2 x8_1).f1)] from (k42_mkM _ _ _ (⟨(⟨#[99]⟩ : ByteArray), (rd_T42 l0_2 x8_1).f1⟩ : S42) )) (Reps.none _ _))); intro v452 w51 ho52 hb hg_ hnew_; clear hg_ hnew_; (first | rw [← Ny451.out] at ho52 | (simp only [Int.reduceToNat] at ho52; rw [← Ny451.out] at ho52)); have n0_ := Aside0.mk (Kd.R_lower ho52 (below_size (by repeat (first | (with_reducible first | exact HB.out | apply below_alloc | apply pw_below_drewN | apply below_drew1 | refine below_set ?_ GE431.out) | exact HB.out)))); have n1_ := Aside0.mk (blk_below (g := gb431) (o := .cells #[.string a0_0, .string a0_1, .slice (some ad450) l0_2.length c0_2] 57 (0, 0)) (by (with_reducible repeat (first | refine blk_drewN ?_ _ | refine blk_drew ?_ | refine blk_alloc ?_ _)); exact BK431.out) hb); have n2_ := Aside0.mk (below_step (by repeat (first | (with_reducible first | exact HB.out | apply below_alloc | apply pw_below_drewN | apply below_drew1 | refine below_set ?_ GE431.out) | exact HB.out)) hb); clear BK431; clear HB; have HO453 := n0_; have BK431 := n1_; have HB := n2_; clear n0_ n1_ n2_; clear hb ho52; obtain ⟨Ao53, co53, eo53⟩ := Kd.R_slice HO453.out; subst eo53) | ((with_reducible refine gate_callee (f := 46) rfl ?_); refine goesL_ (some 61) rfl rfl Try.func46 (by kernel_rfl) rfl #[.agg #[.string (⟨#[97]⟩ : ByteArray), .string (⟨#[98]⟩ : ByteArray), .slice Ao53 y451.length co53]] rfl (by (try simp only [List.map_toArray, List.map_cons, List.map_nil]); first | done | rfl | (simp only [List.length_drop, List.length_take]; rfl)) ?_; (with_reducible refine (mimetype_Text.calls k1 (⟨#[97]⟩ : ByteArray) (⟨#[98]⟩ : ByteArray) _ _ y451 t454 t455 _ ?side1 ?side2 A29.out).mono ?_); (case side1 => repeat (first | exact (Kd.R_reads' HO453.out).2.2 | (with_reducible refine Kd.C_alloc ?_ _) | (with_reducible refine Kd.C_drewN ?_ _) | (with_reducible refine Kd.C_drew ?_))); (case side2 => exact (Kd.R_reads' HO453.out).2.1); rintro e w54 ⟨rfl, hb⟩; refine ⟨_, rfl, ?_⟩; have n0_ := Aside0.mk (Kd.R_below (by (with_reducible repeat (first | apply Kd.R_alloc | apply Kd.R_drewN | apply Kd.R_drew)); exact HO453.out) hb); have n1_ := Aside0.mk (blk_below (g := gb431) (o := .cells #[.string a0_0, .string a0_1, .slice (some ad450) l0_2.length c0_2] 57 (0, 0)) (by (with_reducible repeat (first | refine blk_drewN ?_ _ | refine blk_drew ?_ | refine blk_alloc ?_ _)); exact BK431.out) hb); have n2_ := Aside0.mk (below_step (by repeat (first | (with_reducible first | exact HB.out | apply below_alloc | apply pw_below_drewN | apply below_drew1 | refine below_set ?_ GE431.out) | exact HB.out)) hb); clear HO453; clear BK431; clear HB; have HO453 := n0_; have BK431 := n1_; have HB := n2_; clear n0_ n1_ n2_; (try clear hb); (try clear hb2); (try clear hk); (try clear hi)))
                                            have n0_ := Aside0.mk (Kd.R_drew HO453.out)
                                            have n1_ := Aside0.mk (blk_drew BK431.out)
                                            have n2_ := Aside0.mk (below_drew1 HB.out)
                                            clear HO453
                                            clear BK431
                                            clear HB
                                            have HO453 := n0_
                                            have BK431 := n1_
                                            have HB := n2_
                                            clear n0_ n1_ n2_
                                            have p457 : 0 ≤ (x8_1 : Int) := of_decide_eq_true (by first | (with_reducible assumption) | assumption)
                                            have q457 : x8_1 < (l0_2.length : Int) := of_decide_eq_true (by first | (with_reducible assumption) | assumption)
                                            obtain ⟨ad457, e457, hx457_0, hx457_1⟩ := at_T42 HR0_2.out x8_1 p457 q457
                                            have hw457_1 := hx457_1
                                            have hw457_0 := hx457_0
                                            obtain rfl : ad450 = ad457 := (by injection e457)
                                            replace hx457_0 := (HB.out.cell (World.block_lt_of_cell? w _ hx457_0)).trans hx457_0
                                            replace hx457_1 := (HB.out.cell (World.block_lt_of_cell? w _ hx457_1)).trans hx457_1
                                            replace p457 := eq_true p457
                                            replace q457 := eq_true q457
                                            refine start_ (n := 35) (S := fun w' => w'.cell? ⟨gb431, 0, none⟩ = some (.string a0_0) ∧ w'.cell? ⟨gb431, 1, none⟩ = some (.string a0_1) ∧ w'.cell? ⟨gb431, 2, none⟩ = some (.slice (some ad450) l0_2.length c0_2) ∧ w'.cell? (ad450.add ((x8_1).toNat * 2)) = some (.string ((rd_T42 l0_2 x8_1).f0)) ∧ w'.cell? ⟨(ad450.add ((x8_1).toNat * 2)).block, (ad450.add ((x8_1).toNat * 2)).off + 1, none⟩ = some (.string ((rd_T42 l0_2 x8_1).f1))) (ds := []) #[false, false, false, false, false, false, false, false, false, false, false, false, false, false, false, false, false, false, false, false, false, false, false, false, false, false, false, false, false, false, false, false, false, false, false] (by kernel_rfl) rfl rfl ⟨(blk_cell BK431.out 0).trans rfl, (blk_cell BK431.out 1).trans rfl, (blk_cell BK431.out 2).trans rfl, ((HB.out.cell (World.block_lt_of_cell? w _ hw457_0)).trans hw457_0), ((HB.out.cell (World.block_lt_of_cell? w _ hw457_1)).trans hw457_1)⟩ (fun hHeld => ?_); refine with_tabW winklelaw13_MimetypeBetween.tab12 winklelaw13_MimetypeBetween.bits12 (fun HT_ HW_ => ?_)
                                            generalize w54.drew = w55 at HO453 BK431 HB hx457_0 hx457_1 hHeld ⊢
                                            refine pure_ (i := 0) (N := some 67) (v := ?_) (a' := ?_) #[true, false, false, false, false, false, false, false, false, false, false, false, false, false, false, false, false, false, false, false, false, false, false, false, false, false, false, false, false, false, false, false, false, false, false] rfl rfl (any_of HT_.out (by kernel_rfl)) (fun _ _ _ h => h) (Or.inl ⟨by rfl, ?_⟩) ?_ ?_
                                            rotate_left
                                            · intro w'
                                              go_simp
                                              with_reducible rfl
                                            rotate_left
                                            · simp only [Act.put, List.setIfInBounds_toArray, List.set_cons_zero, List.set_cons_succ, i64_w, i32_w]
                                              rfl
                                            refine pure_ (i := 1) (N := some 68) (v := ?_) (a' := ?_) #[true, true, false, false, false, false, false, false, false, false, false, false, false, false, false, false, false, false, false, false, false, false, false, false, false, false, false, false, false, false, false, false, false, false, false] rfl rfl (any_of HT_.out (by kernel_rfl)) (fun _ _ _ h => h) (Or.inl ⟨by rfl, ?_⟩) ?_ ?_
                                            rotate_left
                                            · intro w'
                                              go_simp
                                              with_reducible rfl
                                            rotate_left
                                            · simp only [Act.put, List.setIfInBounds_toArray, List.set_cons_zero, List.set_cons_succ, i64_w, i32_w]
                                              rfl
                                            refine pure_ (i := 2) (N := some 69) (v := ?_) (a' := ?_) #[true, true, true, false, false, false, false, false, false, false, false, false, false, false, false, false, false, false, false, false, false, false, false, false, false, false, false, false, false, false, false, false, false, false, false] rfl rfl (any_of HT_.out (by kernel_rfl)) (fun _ _ _ h => h) (Or.inl ⟨by rfl, ?_⟩) ?_ ?_
                                            rotate_left
                                            · intro w'
                                              go_simp
                                              with_reducible rfl
                                            rotate_left
                                            · simp only [Act.put, List.setIfInBounds_toArray, List.set_cons_zero, List.set_cons_succ, i64_w, i32_w]
                                              rfl
                                            refine pure_ (i := 5) (N := some 72) (v := ?_) (a' := ?_) #[true, true, true, false, false, true, false, false, false, false, false, false, false, false, false, false, false, false, false, false, false, false, false, false, false, false, false, false, false, false, false, false, false, false, false] rfl rfl (any_of HT_.out (by kernel_rfl)) (fun _ _ _ h => h) (Or.inl ⟨by rfl, ?_⟩) ?_ ?_
                                            rotate_left
                                            · intro w'
                                              go_simp
                                              with_reducible rfl
                                            rotate_left
                                            · simp only [Act.put, List.setIfInBounds_toArray, List.set_cons_zero, List.set_cons_succ, i64_w, i32_w]
                                              rfl
                                            refine pure_ (i := 7) (N := some 74) (v := ?_) (a' := ?_) #[true, true, true, false, false, true, false, true, false, false, false, false, false, false, false, false, false, false, false, false, false, false, false, false, false, false, false, false, false, false, false, false, false, false, false] rfl rfl (any_of HT_.out (by kernel_rfl)) (fun _ _ _ h => h) (Or.inl ⟨by rfl, ?_⟩) ?_ ?_
                                            rotate_left
                                            · intro w'
                                              go_simp
                                              with_reducible rfl
                                            rotate_left
                                            · simp only [Act.put, List.setIfInBounds_toArray, List.set_cons_zero, List.set_cons_succ, i64_w, i32_w]
                                              rfl
                                            refine pure_ (i := 11) (N := some 78) (v := ?_) (a' := ?_) #[true, true, true, false, false, true, false, true, false, false, false, true, false, false, false, false, false, false, false, false, false, false, false, false, false, false, false, false, false, false, false, false, false, false, false] rfl rfl (any_of HT_.out (by kernel_rfl)) (fun _ _ _ h => h) (Or.inl ⟨by rfl, ?_⟩) ?_ ?_
                                            rotate_left
                                            · intro w'
                                              go_simp
                                              with_reducible rfl
                                            rotate_left
                                            · simp only [Act.put, List.setIfInBounds_toArray, List.set_cons_zero, List.set_cons_succ, i64_w, i32_w]
                                              rfl
                                            refine pure_ (i := 14) (N := some 81) (v := ?_) (a' := ?_) #[true, true, true, false, false, true, false, true, false, false, false, true, false, false, true, false, false, false, false, false, false, false, false, false, false, false, false, false, false, false, false, false, false, false, false] rfl rfl (any_of HT_.out (by kernel_rfl)) (fun _ _ _ h => h) (Or.inl ⟨by rfl, ?_⟩) ?_ ?_
                                            rotate_left
                                            · intro w'
                                              go_simp
                                              with_reducible rfl
                                            rotate_left
                                            · simp only [Act.put, List.setIfInBounds_toArray, List.set_cons_zero, List.set_cons_succ, i64_w, i32_w]
                                              rfl
                                            refine pure_ (i := 15) (N := some 82) (v := ?_) (a' := ?_) #[true, true, true, false, false, true, false, true, false, false, false, true, false, false, true, true, false, false, false, false, false, false, false, false, false, false, false, false, false, false, false, false, false, false, false] rfl rfl (any_of HT_.out (by kernel_rfl)) (fun _ _ _ h => h) (Or.inl ⟨by rfl, ?_⟩) ?_ ?_
                                            rotate_left
                                            · intro w'
                                              go_simp
                                              with_reducible rfl
                                            rotate_left
                                            · simp only [Act.put, List.setIfInBounds_toArray, List.set_cons_zero, List.set_cons_succ, i64_w, i32_w]
                                              rfl
                                            refine pure_ (i := 16) (N := some 83) (v := ?_) (a' := ?_) #[true, true, true, false, false, true, false, true, false, false, false, true, false, false, true, true, true, false, false, false, false, false, false, false, false, false, false, false, false, false, false, false, false, false, false] rfl rfl (any_of HT_.out (by kernel_rfl)) (fun _ _ _ h => h) (Or.inl ⟨by rfl, ?_⟩) ?_ ?_
                                            rotate_left
                                            · intro w'
                                              go_simp
                                              with_reducible rfl
                                            rotate_left
                                            · simp only [Act.put, List.setIfInBounds_toArray, List.set_cons_zero, List.set_cons_succ, i64_w, i32_w]
                                              rfl
                                            refine pure_ (i := 20) (N := some 87) (v := ?_) (a' := ?_) #[true, true, true, false, false, true, false, true, false, false, false, true, false, false, true, true, true, false, false, false, true, false, false, false, false, false, false, false, false, false, false, false, false, false, false] rfl rfl (any_of HT_.out (by kernel_rfl)) (fun _ _ _ h => h) (Or.inl ⟨by rfl, ?_⟩) ?_ ?_
                                            rotate_left
                                            · intro w'
                                              go_simp
                                              with_reducible rfl
                                            rotate_left
                                            · simp only [Act.put, List.setIfInBounds_toArray, List.set_cons_zero, List.set_cons_succ, i64_w, i32_w]
                                              rfl
                                            refine pure_ (i := 21) (N := some 88) (v := ?_) (a' := ?_) #[true, true, true, false, false, true, false, true, false, false, false, true, false, false, true, true, true, false, false, false, true, true, false, false, false, false, false, false, false, false, false, false, false, false, false] rfl rfl (any_of HT_.out (by kernel_rfl)) (fun _ _ _ h => h) (Or.inl ⟨by rfl, ?_⟩) ?_ ?_
                                            rotate_left
                                            · intro w'
                                              go_simp
                                              with_reducible rfl
                                            rotate_left
                                            · simp only [Act.put, List.setIfInBounds_toArray, List.set_cons_zero, List.set_cons_succ, i64_w, i32_w]
                                              rfl
                                            refine pure_ (i := 22) (N := some 89) (v := ?_) (a' := ?_) #[true, true, true, false, false, true, false, true, false, false, false, true, false, false, true, true, true, false, false, false, true, true, true, false, false, false, false, false, false, false, false, false, false, false, false] rfl rfl (any_of HT_.out (by kernel_rfl)) (fun _ _ _ h => h) (Or.inl ⟨by rfl, ?_⟩) ?_ ?_
                                            rotate_left
                                            · intro w'
                                              go_simp
                                              with_reducible rfl
                                            rotate_left
                                            · simp only [Act.put, List.setIfInBounds_toArray, List.set_cons_zero, List.set_cons_succ, i64_w, i32_w]
                                              rfl
                                            refine pure_ (i := 25) (N := some 92) (v := ?_) (a' := ?_) #[true, true, true, false, false, true, false, true, false, false, false, true, false, false, true, true, true, false, false, false, true, true, true, false, false, true, false, false, false, false, false, false, false, false, false] rfl rfl (any_of HT_.out (by kernel_rfl)) (fun _ _ _ h => h) (Or.inl ⟨by rfl, ?_⟩) ?_ ?_
                                            rotate_left
                                            · intro w'
                                              go_simp
                                              with_reducible rfl
                                            rotate_left
                                            · simp only [Act.put, List.setIfInBounds_toArray, List.set_cons_zero, List.set_cons_succ, i64_w, i32_w]
                                              rfl
                                            refine pure_ (i := 26) (N := some 93) (v := ?_) (a' := ?_) #[true, true, true, false, false, true, false, true, false, false, false, true, false, false, true, true, true, false, false, false, true, true, true, false, false, true, true, false, false, false, false, false, false, false, false] rfl rfl (any_of HT_.out (by kernel_rfl)) (fun _ _ _ h => h) (Or.inl ⟨by rfl, ?_⟩) ?_ ?_
                                            rotate_left
                                            · intro w'
                                              go_simp
                                              with_reducible rfl
                                            rotate_left
                                            · simp only [Act.put, List.setIfInBounds_toArray, List.set_cons_zero, List.set_cons_succ, i64_w, i32_w]
                                              rfl
                                            refine pure_ (i := 28) (N := some 95) (v := ?_) (a' := ?_) #[true, true, true, false, false, true, false, true, false, false, false, true, false, false, true, true, true, false, false, false, true, true, true, false, false, true, true, false, true, false, false, false, false, false, false] rfl rfl (any_of HT_.out (by kernel_rfl)) (fun _ _ _ h => h) (Or.inl ⟨by rfl, ?_⟩) ?_ ?_
                                            rotate_left
                                            · intro w'
                                              go_simp
                                              with_reducible rfl
                                            rotate_left
                                            · simp only [Act.put, List.setIfInBounds_toArray, List.set_cons_zero, List.set_cons_succ, i64_w, i32_w]
                                              rfl
                                            refine pure_ (i := 29) (N := some 96) (v := ?_) (a' := ?_) #[true, true, true, false, false, true, false, true, false, false, false, true, false, false, true, true, true, false, false, false, true, true, true, false, false, true, true, false, true, true, false, false, false, false, false] rfl rfl (any_of HT_.out (by kernel_rfl)) (fun _ _ _ h => h) (Or.inl ⟨by rfl, ?_⟩) ?_ ?_
                                            rotate_left
                                            · intro w'
                                              go_simp
                                              with_reducible rfl
                                            rotate_left
                                            · simp only [Act.put, List.setIfInBounds_toArray, List.set_cons_zero, List.set_cons_succ, i64_w, i32_w]
                                              rfl
                                            refine pure_ (i := 30) (N := some 97) (v := ?_) (a' := ?_) #[true, true, true, false, false, true, false, true, false, false, false, true, false, false, true, true, true, false, false, false, true, true, true, false, false, true, true, false, true, true, true, false, false, false, false] rfl rfl (any_of HT_.out (by kernel_rfl)) (fun _ _ _ h => h) (Or.inl ⟨by rfl, ?_⟩) ?_ ?_
                                            rotate_left
                                            · intro w'
                                              go_simp
                                              with_reducible rfl
                                            rotate_left
                                            · simp only [Act.put, List.setIfInBounds_toArray, List.set_cons_zero, List.set_cons_succ, i64_w, i32_w]
                                              rfl
                                            refine take_ (i := 6) (N := some 73) (v := ?_) (a' := ?_) #[true, true, true, false, false, true, true, true, false, false, false, true, false, false, true, true, true, false, false, false, true, true, true, false, false, true, true, false, true, true, true, false, false, false, false] rfl rfl (take_ofW HT_.out HW_.out (by kernel_rfl)) (fun _ _ _ h => h) (Or.inl ⟨by rfl, ?_⟩) hHeld ?_ ?_
                                            rotate_left
                                            · rintro w' ⟨s0, s1, s2, s3, s4⟩
                                              go_simp
                                              with_reducible rfl
                                            rotate_left
                                            · simp only [Act.put, List.setIfInBounds_toArray, List.set_cons_zero, List.set_cons_succ, i64_w, i32_w]
                                              rfl
                                            refine pure_ (i := 8) (N := some 75) (v := ?_) (a' := ?_) #[true, true, true, false, false, true, true, true, true, false, false, true, false, false, true, true, true, false, false, false, true, true, true, false, false, true, true, false, true, true, true, false, false, false, false] rfl rfl (any_of HT_.out (by kernel_rfl)) (fun _ _ _ h => h) (Or.inl ⟨by rfl, ?_⟩) ?_ ?_
                                            rotate_left
                                            · intro w'
                                              go_simp
                                              with_reducible rfl
                                            rotate_left
                                            · simp only [Act.put, List.setIfInBounds_toArray, List.set_cons_zero, List.set_cons_succ, i64_w, i32_w]
                                              rfl
                                            refine pure_ (i := 9) (N := some 76) (v := ?_) (a' := ?_) #[true, true, true, false, false, true, true, true, true, true, false, true, false, false, true, true, true, false, false, false, true, true, true, false, false, true, true, false, true, true, true, false, false, false, false] rfl rfl (any_of HT_.out (by kernel_rfl)) (fun _ _ _ h => h) (Or.inl ⟨by rfl, ?_⟩) ?_ ?_
                                            rotate_left
                                            · intro w'
                                              go_simp
                                              with_reducible rfl
                                            rotate_left
                                            · simp only [Act.put, List.setIfInBounds_toArray, List.set_cons_zero, List.set_cons_succ, i64_w, i32_w]
                                              rfl
                                            refine take_ (i := 10) (N := some 77) (v := ?_) (a' := ?_) #[true, true, true, false, false, true, true, true, true, true, true, true, false, false, true, true, true, false, false, false, true, true, true, false, false, true, true, false, true, true, true, false, false, false, false] rfl rfl (take_ofW HT_.out HW_.out (by kernel_rfl)) (fun _ _ _ h => h) (Or.inl ⟨by rfl, ?_⟩) hHeld ?_ ?_
                                            rotate_left
                                            · rintro w' ⟨s0, s1, s2, s3, s4⟩
                                              go_simp
                                              with_reducible rfl
                                            rotate_left
                                            · simp only [Act.put, List.setIfInBounds_toArray, List.set_cons_zero, List.set_cons_succ, i64_w, i32_w]
                                              rfl
                                            refine one_ (i := 3) (N := some 70) #[true, true, true, true, false, true, true, true, true, true, true, true, false, false, true, true, true, false, false, false, true, true, true, false, false, true, true, false, true, true, true, false, false, false, false] rfl rfl (one_of HT_.out (by kernel_rfl)) (by decide) (fun K hK => ?_)
                                            refine goes_ Try.func53 (by kernel_rfl) rfl #[.slice A1 l1.length c1, .int .i64 x8_1] (by rfl) rfl rfl (by (try simp only [List.map_toArray, List.map_cons, List.map_nil]); first | done | rfl | (simp only [List.length_drop, List.length_take]; rfl)) ?_
                                            with_reducible refine (winklelaw13_put.calls _ _ l1 x8_1 t456 _ ?side1 ?side2 A36.out).mono ?_
                                            (case side1 => repeat (first | exact (Kd.C_below HR1.out HB.out) | (with_reducible refine Kd.C_alloc ?_ _) | (with_reducible refine Kd.C_drewN ?_ _) | (with_reducible refine Kd.C_drew ?_)))
                                            (case side2 => exact HC1.out)
                                            rintro e w56 ⟨rfl, hb⟩
                                            refine ⟨_, rfl, ?_⟩
                                            have n0_ := Aside0.mk (Kd.R_below (by (with_reducible repeat (first | apply Kd.R_alloc | apply Kd.R_drewN | apply Kd.R_drew)); exact HO453.out) hb)
                                            have n1_ := Aside0.mk (blk_below (g := gb431) (o := .cells #[.string a0_0, .string a0_1, .slice (some ad450) l0_2.length c0_2] 57 (0, 0)) (by (with_reducible repeat (first | refine blk_drewN ?_ _ | refine blk_drew ?_ | refine blk_alloc ?_ _)); exact BK431.out) hb)
                                            have n2_ := Aside0.mk (below_step (by repeat (first | (with_reducible first | exact HB.out | apply below_alloc | apply pw_below_drewN | apply below_drew1 | refine below_set ?_ GE431.out) | exact HB.out)) hb)
                                            clear HO453
                                            clear BK431
                                            clear HB
                                            have HO453 := n0_
                                            have BK431 := n1_
                                            have HB := n2_
                                            clear n0_ n1_ n2_
                                            (try clear hb)
                                            (try clear hb2)
                                            (try clear hk)
                                            (try clear hi)
                                            refine hK.out _ _ ⟨(blk_cell BK431.out 0).trans rfl, (blk_cell BK431.out 1).trans rfl, (blk_cell BK431.out 2).trans rfl, ((HB.out.cell (World.block_lt_of_cell? w _ hw457_0)).trans hw457_0), ((HB.out.cell (World.block_lt_of_cell? w _ hw457_1)).trans hw457_1)⟩ (fun hHeld => ?_)
                                            clear hK K
                                            refine norm_ (a' := ?_) ?_ ?_
                                            rotate_left
                                            · show Act.put _ (some 70) _ = _
                                              simp only [Act.put, List.setIfInBounds_toArray, List.set_cons_zero, List.set_cons_succ, i64_w, i32_w]
                                              rfl
                                            refine pure_ (i := 4) (N := some 71) (v := ?_) (a' := ?_) #[true, true, true, true, true, true, true, true, true, true, true, true, false, false, true, true, true, false, false, false, true, true, true, false, false, true, true, false, true, true, true, false, false, false, false] rfl rfl (any_of HT_.out (by kernel_rfl)) (fun _ _ _ h => h) (Or.inl ⟨by rfl, ?_⟩) ?_ ?_
                                            rotate_left
                                            · intro w'
                                              go_simp
                                              with_reducible rfl
                                            rotate_left
                                            · simp only [Act.put, List.setIfInBounds_toArray, List.set_cons_zero, List.set_cons_succ, i64_w, i32_w]
                                              rfl
                                            refine one_ (i := 12) (N := some 79) #[true, true, true, true, true, true, true, true, true, true, true, true, true, false, true, true, true, false, false, false, true, true, true, false, false, true, true, false, true, true, true, false, false, false, false] rfl rfl (one_of HT_.out (by kernel_rfl)) (by decide) (fun K hK => ?_)
                                            refine goes_ Try.func52 (by kernel_rfl) rfl #[.string ((rd_T42 l0_2 x8_1).f0), .slice A1 l1.length c1] (by rfl) rfl rfl (by (try simp only [List.map_toArray, List.map_cons, List.map_nil]); first | done | rfl | (simp only [List.length_drop, List.length_take]; rfl)) ?_
                                            with_reducible refine (winklelaw13_mixed.calls ((rd_T42 l0_2 x8_1).f0) _ _ l1 t458 _ ?side1 ?side2 A38.out).mono ?_
                                            (case side1 => repeat (first | exact (Kd.C_below HR1.out HB.out) | (with_reducible refine Kd.C_alloc ?_ _) | (with_reducible refine Kd.C_drewN ?_ _) | (with_reducible refine Kd.C_drew ?_)))
                                            (case side2 => exact HC1.out)
                                            rintro e w57 ⟨rfl, hb⟩
                                            refine ⟨_, rfl, ?_⟩
                                            have n0_ := Aside0.mk (Kd.R_below (by (with_reducible repeat (first | apply Kd.R_alloc | apply Kd.R_drewN | apply Kd.R_drew)); exact HO453.out) hb)
                                            have n1_ := Aside0.mk (blk_below (g := gb431) (o := .cells #[.string a0_0, .string a0_1, .slice (some ad450) l0_2.length c0_2] 57 (0, 0)) (by (with_reducible repeat (first | refine blk_drewN ?_ _ | refine blk_drew ?_ | refine blk_alloc ?_ _)); exact BK431.out) hb)
                                            have n2_ := Aside0.mk (below_step (by repeat (first | (with_reducible first | exact HB.out | apply below_alloc | apply pw_below_drewN | apply below_drew1 | refine below_set ?_ GE431.out) | exact HB.out)) hb)
                                            clear HO453
                                            clear BK431
                                            clear HB
                                            have HO453 := n0_
                                            have BK431 := n1_
                                            have HB := n2_
                                            clear n0_ n1_ n2_
                                            (try clear hb)
                                            (try clear hb2)
                                            (try clear hk)
                                            (try clear hi)
                                            refine hK.out _ _ ⟨(blk_cell BK431.out 0).trans rfl, (blk_cell BK431.out 1).trans rfl, (blk_cell BK431.out 2).trans rfl, ((HB.out.cell (World.block_lt_of_cell? w _ hw457_0)).trans hw457_0), ((HB.out.cell (World.block_lt_of_cell? w _ hw457_1)).trans hw457_1)⟩ (fun hHeld => ?_)
                                            clear hK K
                                            refine norm_ (a' := ?_) ?_ ?_
                                            rotate_left
                                            · show Act.put _ (some 79) _ = _
                                              simp only [Act.put, List.setIfInBounds_toArray, List.set_cons_zero, List.set_cons_succ, i64_w, i32_w]
                                              rfl
                                            refine pure_ (i := 13) (N := some 80) (v := ?_) (a' := ?_) #[true, true, true, true, true, true, true, true, true, true, true, true, true, true, true, true, true, false, false, false, true, true, true, false, false, true, true, false, true, true, true, false, false, false, false] rfl rfl (any_of HT_.out (by kernel_rfl)) (fun _ _ _ h => h) (Or.inl ⟨by rfl, ?_⟩) ?_ ?_
                                            rotate_left
                                            · intro w'
                                              go_simp
                                              with_reducible rfl
                                            rotate_left
                                            · simp only [Act.put, List.setIfInBounds_toArray, List.set_cons_zero, List.set_cons_succ, i64_w, i32_w]
                                              rfl
                                            refine one_ (i := 17) (N := some 84) #[true, true, true, true, true, true, true, true, true, true, true, true, true, true, true, true, true, true, false, false, true, true, true, false, false, true, true, false, true, true, true, false, false, false, false] rfl rfl (one_of HT_.out (by kernel_rfl)) (by decide) (fun K hK => ?_)
                                            refine goes_ Try.func53 (by kernel_rfl) rfl #[.slice A1 l1.length c1, .int .i64 (wrap64 (x8_1 + 1))] (by rfl) rfl rfl (by (try simp only [List.map_toArray, List.map_cons, List.map_nil]); first | done | rfl | (simp only [List.length_drop, List.length_take]; rfl)) ?_
                                            with_reducible refine (winklelaw13_put.calls _ _ l1 (wrap64 (x8_1 + 1)) t459 _ ?side1 ?side2 A40.out).mono ?_
                                            (case side1 => repeat (first | exact (Kd.C_below HR1.out HB.out) | (with_reducible refine Kd.C_alloc ?_ _) | (with_reducible refine Kd.C_drewN ?_ _) | (with_reducible refine Kd.C_drew ?_)))
                                            (case side2 => exact HC1.out)
                                            rintro e w58 ⟨rfl, hb⟩
                                            refine ⟨_, rfl, ?_⟩
                                            have n0_ := Aside0.mk (Kd.R_below (by (with_reducible repeat (first | apply Kd.R_alloc | apply Kd.R_drewN | apply Kd.R_drew)); exact HO453.out) hb)
                                            have n1_ := Aside0.mk (blk_below (g := gb431) (o := .cells #[.string a0_0, .string a0_1, .slice (some ad450) l0_2.length c0_2] 57 (0, 0)) (by (with_reducible repeat (first | refine blk_drewN ?_ _ | refine blk_drew ?_ | refine blk_alloc ?_ _)); exact BK431.out) hb)
                                            have n2_ := Aside0.mk (below_step (by repeat (first | (with_reducible first | exact HB.out | apply below_alloc | apply pw_below_drewN | apply below_drew1 | refine below_set ?_ GE431.out) | exact HB.out)) hb)
                                            clear HO453
                                            clear BK431
                                            clear HB
                                            have HO453 := n0_
                                            have BK431 := n1_
                                            have HB := n2_
                                            clear n0_ n1_ n2_
                                            (try clear hb)
                                            (try clear hb2)
                                            (try clear hk)
                                            (try clear hi)
                                            refine hK.out _ _ ⟨(blk_cell BK431.out 0).trans rfl, (blk_cell BK431.out 1).trans rfl, (blk_cell BK431.out 2).trans rfl, ((HB.out.cell (World.block_lt_of_cell? w _ hw457_0)).trans hw457_0), ((HB.out.cell (World.block_lt_of_cell? w _ hw457_1)).trans hw457_1)⟩ (fun hHeld => ?_)
                                            clear hK K
                                            refine norm_ (a' := ?_) ?_ ?_
                                            rotate_left
                                            · show Act.put _ (some 84) _ = _
                                              simp only [Act.put, List.setIfInBounds_toArray, List.set_cons_zero, List.set_cons_succ, i64_w, i32_w]
                                              rfl
                                            refine pure_ (i := 18) (N := some 85) (v := ?_) (a' := ?_) #[true, true, true, true, true, true, true, true, true, true, true, true, true, true, true, true, true, true, true, false, true, true, true, false, false, true, true, false, true, true, true, false, false, false, false] rfl rfl (any_of HT_.out (by kernel_rfl)) (fun _ _ _ h => h) (Or.inl ⟨by rfl, ?_⟩) ?_ ?_
                                            rotate_left
                                            · intro w'
                                              go_simp
                                              with_reducible rfl
                                            rotate_left
                                            · simp only [Act.put, List.setIfInBounds_toArray, List.set_cons_zero, List.set_cons_succ, i64_w, i32_w]
                                              rfl
                                            refine pure_ (i := 19) (N := some 86) (v := ?_) (a' := ?_) #[true, true, true, true, true, true, true, true, true, true, true, true, true, true, true, true, true, true, true, true, true, true, true, false, false, true, true, false, true, true, true, false, false, false, false] rfl rfl (any_of HT_.out (by kernel_rfl)) (fun _ _ _ h => h) (Or.inl ⟨by rfl, ?_⟩) ?_ ?_
                                            rotate_left
                                            · intro w'
                                              go_simp
                                              with_reducible rfl
                                            rotate_left
                                            · simp only [Act.put, List.setIfInBounds_toArray, List.set_cons_zero, List.set_cons_succ, i64_w, i32_w]
                                              rfl
                                            refine one_ (i := 23) (N := some 90) #[true, true, true, true, true, true, true, true, true, true, true, true, true, true, true, true, true, true, true, true, true, true, true, true, false, true, true, false, true, true, true, false, false, false, false] rfl rfl (one_of HT_.out (by kernel_rfl)) (by decide) (fun K hK => ?_)
                                            refine goes_ Try.func53 (by kernel_rfl) rfl #[.slice A1 l1.length c1, .int .i64 (wrap64 (x8_1 + 2))] (by rfl) rfl rfl (by (try simp only [List.map_toArray, List.map_cons, List.map_nil]); first | done | rfl | (simp only [List.length_drop, List.length_take]; rfl)) ?_
                                            with_reducible refine (winklelaw13_put.calls _ _ l1 (wrap64 (x8_1 + 2)) t460 _ ?side1 ?side2 A43.out).mono ?_
                                            (case side1 => repeat (first | exact (Kd.C_below HR1.out HB.out) | (with_reducible refine Kd.C_alloc ?_ _) | (with_reducible refine Kd.C_drewN ?_ _) | (with_reducible refine Kd.C_drew ?_)))
                                            (case side2 => exact HC1.out)
                                            rintro e w59 ⟨rfl, hb⟩
                                            refine ⟨_, rfl, ?_⟩
                                            have n0_ := Aside0.mk (Kd.R_below (by (with_reducible repeat (first | apply Kd.R_alloc | apply Kd.R_drewN | apply Kd.R_drew)); exact HO453.out) hb)
                                            have n1_ := Aside0.mk (blk_below (g := gb431) (o := .cells #[.string a0_0, .string a0_1, .slice (some ad450) l0_2.length c0_2] 57 (0, 0)) (by (with_reducible repeat (first | refine blk_drewN ?_ _ | refine blk_drew ?_ | refine blk_alloc ?_ _)); exact BK431.out) hb)
                                            have n2_ := Aside0.mk (below_step (by repeat (first | (with_reducible first | exact HB.out | apply below_alloc | apply pw_below_drewN | apply below_drew1 | refine below_set ?_ GE431.out) | exact HB.out)) hb)
                                            clear HO453
                                            clear BK431
                                            clear HB
                                            have HO453 := n0_
                                            have BK431 := n1_
                                            have HB := n2_
                                            clear n0_ n1_ n2_
                                            (try clear hb)
                                            (try clear hb2)
                                            (try clear hk)
                                            (try clear hi)
                                            refine hK.out _ _ ⟨(blk_cell BK431.out 0).trans rfl, (blk_cell BK431.out 1).trans rfl, (blk_cell BK431.out 2).trans rfl, ((HB.out.cell (World.block_lt_of_cell? w _ hw457_0)).trans hw457_0), ((HB.out.cell (World.block_lt_of_cell? w _ hw457_1)).trans hw457_1)⟩ (fun hHeld => ?_)
                                            clear hK K
                                            refine norm_ (a' := ?_) ?_ ?_
                                            rotate_left
                                            · show Act.put _ (some 90) _ = _
                                              simp only [Act.put, List.setIfInBounds_toArray, List.set_cons_zero, List.set_cons_succ, i64_w, i32_w]
                                              rfl
                                            refine pure_ (i := 24) (N := some 91) (v := ?_) (a' := ?_) #[true, true, true, true, true, true, true, true, true, true, true, true, true, true, true, true, true, true, true, true, true, true, true, true, true, true, true, false, true, true, true, false, false, false, false] rfl rfl (any_of HT_.out (by kernel_rfl)) (fun _ _ _ h => h) (Or.inl ⟨by rfl, ?_⟩) ?_ ?_
                                            rotate_left
                                            · intro w'
                                              go_simp
                                              with_reducible rfl
                                            rotate_left
                                            · simp only [Act.put, List.setIfInBounds_toArray, List.set_cons_zero, List.set_cons_succ, i64_w, i32_w]
                                              rfl
                                            refine pure_ (i := 27) (N := some 94) (v := ?_) (a' := ?_) #[true, true, true, true, true, true, true, true, true, true, true, true, true, true, true, true, true, true, true, true, true, true, true, true, true, true, true, true, true, true, true, false, false, false, false] rfl rfl (any_of HT_.out (by kernel_rfl)) (fun _ _ _ h => h) (Or.inl ⟨by rfl, ?_⟩) ?_ ?_
                                            rotate_left
                                            · intro w'
                                              go_simp
                                              with_reducible rfl
                                            rotate_left
                                            · simp only [Act.put, List.setIfInBounds_toArray, List.set_cons_zero, List.set_cons_succ, i64_w, i32_w]
                                              rfl
                                            refine one_ (i := 31) (N := some 98) #[true, true, true, true, true, true, true, true, true, true, true, true, true, true, true, true, true, true, true, true, true, true, true, true, true, true, true, true, true, true, true, true, false, false, false] rfl rfl (one_of HT_.out (by kernel_rfl)) (by decide) (fun K hK => ?_)
                                            refine goes_ Try.func53 (by kernel_rfl) rfl #[.slice A1 l1.length c1, .int .i64 (wrap64 (x8_1 + 3))] (by rfl) rfl rfl (by (try simp only [List.map_toArray, List.map_cons, List.map_nil]); first | done | rfl | (simp only [List.length_drop, List.length_take]; rfl)) ?_
                                            with_reducible refine (winklelaw13_put.calls _ _ l1 (wrap64 (x8_1 + 3)) t461 _ ?side1 ?side2 A47.out).mono ?_
                                            (case side1 => repeat (first | exact (Kd.C_below HR1.out HB.out) | (with_reducible refine Kd.C_alloc ?_ _) | (with_reducible refine Kd.C_drewN ?_ _) | (with_reducible refine Kd.C_drew ?_)))
                                            (case side2 => exact HC1.out)
                                            rintro e w60 ⟨rfl, hb⟩
                                            refine ⟨_, rfl, ?_⟩
                                            have n0_ := Aside0.mk (Kd.R_below (by (with_reducible repeat (first | apply Kd.R_alloc | apply Kd.R_drewN | apply Kd.R_drew)); exact HO453.out) hb)
                                            have n1_ := Aside0.mk (blk_below (g := gb431) (o := .cells #[.string a0_0, .string a0_1, .slice (some ad450) l0_2.length c0_2] 57 (0, 0)) (by (with_reducible repeat (first | refine blk_drewN ?_ _ | refine blk_drew ?_ | refine blk_alloc ?_ _)); exact BK431.out) hb)
                                            have n2_ := Aside0.mk (below_step (by repeat (first | (with_reducible first | exact HB.out | apply below_alloc | apply pw_below_drewN | apply below_drew1 | refine below_set ?_ GE431.out) | exact HB.out)) hb)
                                            clear HO453
                                            clear BK431
                                            clear HB
                                            have HO453 := n0_
                                            have BK431 := n1_
                                            have HB := n2_
                                            clear n0_ n1_ n2_
                                            (try clear hb)
                                            (try clear hb2)
                                            (try clear hk)
                                            (try clear hi)
                                            refine hK.out _ _ ⟨(blk_cell BK431.out 0).trans rfl, (blk_cell BK431.out 1).trans rfl, (blk_cell BK431.out 2).trans rfl, ((HB.out.cell (World.block_lt_of_cell? w _ hw457_0)).trans hw457_0), ((HB.out.cell (World.block_lt_of_cell? w _ hw457_1)).trans hw457_1)⟩ (fun hHeld => ?_)
                                            clear hK K
                                            refine norm_ (a' := ?_) ?_ ?_
                                            rotate_left
                                            · show Act.put _ (some 98) _ = _
                                              simp only [Act.put, List.setIfInBounds_toArray, List.set_cons_zero, List.set_cons_succ, i64_w, i32_w]
                                              rfl
                                            refine pure_ (i := 32) (N := some 99) (v := ?_) (a' := ?_) #[true, true, true, true, true, true, true, true, true, true, true, true, true, true, true, true, true, true, true, true, true, true, true, true, true, true, true, true, true, true, true, true, true, false, false] rfl rfl (any_of HT_.out (by kernel_rfl)) (fun _ _ _ h => h) (Or.inl ⟨by rfl, ?_⟩) ?_ ?_
                                            rotate_left
                                            · intro w'
                                              go_simp
                                              with_reducible rfl
                                            rotate_left
                                            · simp only [Act.put, List.setIfInBounds_toArray, List.set_cons_zero, List.set_cons_succ, i64_w, i32_w]
                                              rfl
                                            refine pure_ (i := 33) (N := some 100) (v := ?_) (a' := ?_) #[true, true, true, true, true, true, true, true, true, true, true, true, true, true, true, true, true, true, true, true, true, true, true, true, true, true, true, true, true, true, true, true, true, true, false] rfl rfl (any_of HT_.out (by kernel_rfl)) (fun _ _ _ h => h) (Or.inl ⟨by rfl, ?_⟩) ?_ ?_
                                            rotate_left
                                            · intro w'
                                              go_simp
                                              with_reducible rfl
                                            rotate_left
                                            · simp only [Act.put, List.setIfInBounds_toArray, List.set_cons_zero, List.set_cons_succ, i64_w, i32_w]
                                              rfl
                                            refine pure_ (i := 34) (N := some 7) (v := ?_) (a' := ?_) #[true, true, true, true, true, true, true, true, true, true, true, true, true, true, true, true, true, true, true, true, true, true, true, true, true, true, true, true, true, true, true, true, true, true, true] rfl rfl (any_of HT_.out (by kernel_rfl)) (fun _ _ _ h => h) (Or.inl ⟨by rfl, ?_⟩) ?_ ?_
                                            rotate_left
                                            · intro w'
                                              go_simp
                                              with_reducible rfl
                                            rotate_left
                                            · simp only [Act.put, List.setIfInBounds_toArray, List.set_cons_zero, List.set_cons_succ, i64_w, i32_w]
                                              rfl
                                            refine done_ (done_of HT_.out (by kernel_rfl)) ?_
                                            try go_wp2
                                            go_roundg k1
                                            case measure => have := HK1.out; omega
                                            case rel => exact ⟨(x7_1 ++ ((((((((⟨#[59]⟩ : ByteArray) ++ t456) ++ t458) ++ t459) ++ (⟨#[61]⟩ : ByteArray)) ++ t460) ++ (t454.extract 7 t454.size)) ++ t461)), (wrap64 (x8_1 + 1)), (by first | rfl | (simp; done) | (simp [*]; done) | (simp [isEmpty_bne]; done)), (by first | rfl | (simp; done) | (simp [*]; done) | (simp [isEmpty_bne]; done)), H', ⟨by have := HK1.out; omega⟩, ⟨by (with_reducible repeat (first | refine blk_drewN ?_ _ | refine blk_drew ?_ | refine blk_alloc ?_ _)); exact BK431.out⟩, ⟨by repeat (first | (with_reducible first | exact HB.out | apply below_alloc | apply pw_below_drewN | apply below_drew1 | refine below_set ?_ GE431.out) | exact HB.out)⟩⟩
                                          · rw [if_neg c49] at H
                                            exact absurd H (by simp)
                                        · rw [if_neg c48] at H
                                          exact absurd H (by simp)
                                      · rw [if_neg c46] at H
                                        exact absurd H (by simp)
                                    · rw [if_neg c45] at H
                                      exact absurd H (by simp)
                                  · rw [if_neg c44] at H
                                    exact absurd H (by simp)
                                · rw [if_neg c42] at H
                                  exact absurd H (by simp)
                              · rw [if_neg c41] at H
                                exact absurd H (by simp)
                            · rw [if_neg c39] at H
                              exact absurd H (by simp)
                          · rw [if_neg c37] at H
                            exact absurd H (by simp)
                      · rw [if_neg c28] at H
                        exact absurd H (by simp)
                    · rw [if_neg c27] at H
                      have c27b0 : decide (x8_1 < (l0_2.length : Int)) = false := decide_eq_false c27
                      clear c27
                      replace H := Option.bind_eq_some_iff.mp H
                      obtain ⟨⟨t441, t442, t443, t446⟩, A610, H⟩ := H
                      replace H : (if t446 = true then (if t441.toList = a0_0.toList then (if t442.toList = a0_1.toList then ((winkleref12_Fields.f k1 t443 l0_2).bind fun t448 => (if t448 = true then ((winklelaw13_awake.f k1).bind fun t449 => (some t449)) else (some false))) else (some false)) else (some false)) else (some false)) = some r := H
                      have A61 := Aside0.mk A610
                      clear A610
                      by_cases c62 : t446 = true
                      · subst c62
                        have H1 : (if t441.toList = a0_0.toList then (if t442.toList = a0_1.toList then ((winkleref12_Fields.f k1 t443 l0_2).bind fun t448 => (if t448 = true then ((winklelaw13_awake.f k1).bind fun t449 => (some t449)) else (some false))) else (some false)) else (some false)) = some r := by rw [if_pos rfl] at H; exact H
                        clear H
                        have H := H1
                        clear H1
                        by_cases c63 : t441.toList = a0_0.toList
                        · rw [if_pos c63] at H
                          have c63b0 : (t441.toList == a0_0.toList) = true := beq_iff_eq.mpr c63
                          have c63b1 : (t441.toList != a0_0.toList) = false := bne_eq_false_iff_eq.mpr c63
                          clear c63
                          by_cases c64 : t442.toList = a0_1.toList
                          · rw [if_pos c64] at H
                            have c64b0 : (t442.toList == a0_1.toList) = true := beq_iff_eq.mpr c64
                            have c64b1 : (t442.toList != a0_1.toList) = false := bne_eq_false_iff_eq.mpr c64
                            clear c64
                            replace H := Option.bind_eq_some_iff.mp H
                            obtain ⟨t448, A650, H⟩ := H
                            replace H : (if t448 = true then ((winklelaw13_awake.f k1).bind fun t449 => (some t449)) else (some false)) = some r := H
                            have A65 := Aside0.mk A650
                            clear A650
                            by_cases c66 : t448 = true
                            · subst c66
                              have H1 : ((winklelaw13_awake.f k1).bind fun t449 => (some t449)) = some r := by rw [if_pos rfl] at H; exact H
                              clear H
                              have H := H1
                              clear H1
                              replace H := Option.bind_eq_some_iff.mp H
                              obtain ⟨t449, A670, H⟩ := H
                              replace H : (some t449) = some r := H
                              have A67 := Aside0.mk A670
                              clear A670
                              obtain rfl := Option.some.inj H
                              have hcz68_0 : wr.cell? ⟨gb431, 0, none⟩ = some (.string a0_0) := (blk_cell BK431.out 0).trans rfl
                              have hcz68_1 : wr.cell? ⟨gb431, 1, none⟩ = some (.string a0_1) := (blk_cell BK431.out 1).trans rfl
                              have hcz68_2 : wr.cell? ⟨gb431, 2, none⟩ = some (.slice A0_2 l0_2.length c0_2) := (blk_cell BK431.out 2).trans rfl
                              have hfz68_0 := blk_frozen BK431.out 0
                              have hfz68_1 := blk_frozen BK431.out 1
                              have hfz68_2 := blk_frozen BK431.out 2
                              go_wp2_with (first | ((with_reducible refine gate_callee (f := 38) rfl ?_); refine goesL_ (some 103) rfl rfl Try.func38 (by kernel_rfl) rfl #[.string x7_1] rfl (by (try simp only [List.map_toArray, List.map_cons, List.map_nil]); first | done | rfl | (simp only [List.length_drop, List.length_take]; rfl)) ?_; (with_reducible refine (mimetype_Type.calls x7_1 t441 t442 t443 true _ A61.out).mono ?_); rintro e w69 ⟨v444, rfl, ho0, hb⟩; refine ⟨_, rfl, ?_⟩; have n0_ := Aside0.mk (Kd.R_lower ho0 (below_size (by repeat (first | (with_reducible first | exact HB.out | apply below_alloc | apply pw_below_drewN | apply below_drew1 | refine below_set ?_ GE431.out) | exact HB.out)))); have n1_ := Aside0.mk (blk_below (g := gb431) (o := .cells #[.string a0_0, .string a0_1, .slice A0_2 l0_2.length c0_2] 57 (0, 0)) (by (with_reducible repeat (first | refine blk_drewN ?_ _ | refine blk_drew ?_ | refine blk_alloc ?_ _)); exact BK431.out) hb); have n2_ := Aside0.mk (below_step (by repeat (first | (with_reducible first | exact HB.out | apply below_alloc | apply pw_below_drewN | apply below_drew1 | refine below_set ?_ GE431.out) | exact HB.out)) hb); clear BK431; clear HB; have HO445 := n0_; have BK431 := n1_; have HB := n2_; clear n0_ n1_ n2_; (try clear hb); (try clear hb2); (try clear hk); (try clear hi); (try clear ho0)) | ((with_reducible refine gate_dst (N := 11) rfl ?_); refine box_event ?hg (N := 11) ?hd (cs := #[.string (⟨#[]⟩ : ByteArray), .string (⟨#[]⟩ : ByteArray), .slice none 0 0]) (t := 57) ?hr ?_; (case hd => rfl); (case hg => rfl); (case hr => first | (go_simp; done) | (go_simp; rfl)); intro gb447 hg w70 hbox hb; have n0_ := Aside0.mk (Kd.R_below (by (with_reducible repeat (first | apply Kd.R_alloc | apply Kd.R_drewN | apply Kd.R_drew)); exact HO445.out) hb); have n1_ := Aside0.mk (blk_below (g := gb431) (o := .cells #[.string a0_0, .string a0_1, .slice A0_2 l0_2.length c0_2] 57 (0, 0)) (by (with_reducible repeat (first | refine blk_drewN ?_ _ | refine blk_drew ?_ | refine blk_alloc ?_ _)); exact BK431.out) hb); have n2_ := Aside0.mk (below_step (by repeat (first | (with_reducible first | exact HB.out | apply below_alloc | apply pw_below_drewN | apply below_drew1 | refine below_set ?_ GE431.out) | exact HB.out)) hb); have n3_ := Aside0.mk (hbox); have n4_ := Aside0.mk ((by rw [hg]; exact (below_size (by repeat (first | (with_reducible first | exact HB.out | apply below_alloc | apply pw_below_drewN | apply below_drew1 | refine below_set ?_ GE431.out) | exact HB.out))) : w.heap.size ≤ gb447)); have n5_ := Aside0.mk ((by rw [hg]; exact (below_size (by repeat (first | (with_reducible first | exact HB.out | apply below_alloc | apply pw_below_drewN | apply below_drew1 | refine below_set ?_ GE431.out) | exact HB.out))) : w.heap.size ≤ gb447)); have n6_ := Aside0.mk ((by rw [hg]; exact Nat.ne_of_lt (blk_lt (g := gb431) (o := .cells #[.string a0_0, .string a0_1, .slice A0_2 l0_2.length c0_2] 57 (0, 0)) (by (with_reducible repeat (first | refine blk_drewN ?_ _ | refine blk_drew ?_ | refine blk_alloc ?_ _)); exact BK431.out)) : gb431 ≠ gb447)); have n7_ := Aside0.mk ((by rw [hg]; exact Nat.ne_of_gt (blk_lt (g := gb431) (o := .cells #[.string a0_0, .string a0_1, .slice A0_2 l0_2.length c0_2] 57 (0, 0)) (by (with_reducible repeat (first | refine blk_drewN ?_ _ | refine blk_drew ?_ | refine blk_alloc ?_ _)); exact BK431.out)) : gb447 ≠ gb431)); clear HO445; clear BK431; clear HB; have HO445 := n0_; have BK431 := n1_; have HB := n2_; have BK447 := n3_; have GW447 := n4_; have GE447 := n5_; have NB431_447 := n6_; have NB447_431 := n7_; clear n0_ n1_ n2_ n3_ n4_ n5_ n6_ n7_; clear hb hbox hg; have hnb71 := NB447_431.out; have hnc71 := NB431_447.out; have hcz72_0 : w70.cell? ⟨gb447, 0, none⟩ = some (.string (⟨#[]⟩ : ByteArray)) := (blk_cell BK447.out 0).trans rfl; have hcz72_1 : w70.cell? ⟨gb447, 1, none⟩ = some (.string (⟨#[]⟩ : ByteArray)) := (blk_cell BK447.out 1).trans rfl; have hcz72_2 : w70.cell? ⟨gb447, 2, none⟩ = some (.slice none 0 0) := (blk_cell BK447.out 2).trans rfl; have hfz72_0 := blk_frozen BK447.out 0; have hfz72_1 := blk_frozen BK447.out 1; have hfz72_2 := blk_frozen BK447.out 2; obtain ⟨Ao73, co73, eo73⟩ := Kd.R_slice HO445.out; subst eo73; have hcz74_0 : w70.cell? ⟨gb431, 0, none⟩ = some (.string a0_0) := (blk_cell BK431.out 0).trans rfl; have hcz74_1 : w70.cell? ⟨gb431, 1, none⟩ = some (.string a0_1) := (blk_cell BK431.out 1).trans rfl; have hcz74_2 : w70.cell? ⟨gb431, 2, none⟩ = some (.slice A0_2 l0_2.length c0_2) := (blk_cell BK431.out 2).trans rfl; have hfz74_0 := blk_frozen BK431.out 0; have hfz74_1 := blk_frozen BK431.out 1; have hfz74_2 := blk_frozen BK431.out 2) | (go_at_call 24; (with_reducible refine (winkleref12_Fields.calls k1 _ _ t443 _ _ l0_2 true _ ?side1 ?side2 ?side3 ?side4 A65.out).mono ?_); (case side1 => refine (Kd.R_reads' (e := 42) (base := w.heap.size) (ok := fun k_ => True) (n := t443.length) (c := co73) ?_).2.2; exact (by (with_reducible repeat (first | apply Kd.R_alloc | apply Kd.R_drewN | apply Kd.R_drew)); exact (Kd.R_mono (Kd.R_far (p := ⟨gb447, 2, none⟩) (Kd.R_far (p := ⟨gb447, 1, none⟩) (Kd.R_far (p := ⟨gb447, 0, none⟩) (Kd.R_types HO445.out BK447.out (by decide)) (fun _ hk => hk.2) (.string t441)) (fun _ hk => hk.2) (.string t442)) (fun _ hk => hk.2) (.slice Ao73 t443.length co73)) (fun _ h_ => h_.1)))); (case side2 => exact (Kd.R_reads' HO445.out).2.1); (case side3 => exact Kd.C_below HR0_2.out (by repeat (first | (with_reducible first | exact HB.out | apply below_alloc | apply pw_below_drewN | apply below_drew1 | refine below_set ?_ GE431.out | refine below_set ?_ GE447.out) | exact HB.out))); (case side4 => exact HC0_2.out); rintro e w' ⟨rfl, ⟨nd, rfl⟩⟩) | (go_at_call 45; (with_reducible refine (winklelaw13_awake.calls k1  t449 _ A67.out).mono ?_); rintro e w75 ⟨rfl, hb⟩; have n0_ := Aside0.mk (Kd.R_below (by (with_reducible repeat (first | apply Kd.R_alloc | apply Kd.R_drewN | apply Kd.R_drew)); exact (Kd.R_mono (Kd.R_far (p := ⟨gb447, 2, none⟩) (Kd.R_far (p := ⟨gb447, 1, none⟩) (Kd.R_far (p := ⟨gb447, 0, none⟩) (Kd.R_types HO445.out BK447.out (by decide)) (fun _ hk => hk.2) (.string t441)) (fun _ hk => hk.2) (.string t442)) (fun _ hk => hk.2) (.slice Ao73 t443.length co73)) (fun _ h_ => h_.1))) hb); have n1_ := Aside0.mk (blk_below (g := gb431) (o := .cells #[.string a0_0, .string a0_1, .slice A0_2 l0_2.length c0_2] 57 (0, 0)) (by (with_reducible repeat (first | refine blk_drewN ?_ _ | refine blk_drew ?_ | refine blk_alloc ?_ _)); refine blk_far ?_ NB431_447.out _; (with_reducible repeat (first | refine blk_drewN ?_ _ | refine blk_drew ?_ | refine blk_alloc ?_ _)); refine blk_far ?_ NB431_447.out _; (with_reducible repeat (first | refine blk_drewN ?_ _ | refine blk_drew ?_ | refine blk_alloc ?_ _)); refine blk_far ?_ NB431_447.out _; (with_reducible repeat (first | refine blk_drewN ?_ _ | refine blk_drew ?_ | refine blk_alloc ?_ _)); exact BK431.out) hb); have n2_ := Aside0.mk (blk_below (g := gb447) (o := .cells #[.string t441, .string t442, .slice Ao73 t443.length co73] 57 (0, 0)) (by (with_reducible repeat (first | refine blk_drewN ?_ _ | refine blk_drew ?_ | refine blk_alloc ?_ _)); refine blk_put (cs := #[.string t441, .string t442, .slice none 0 0]) ?_ 2 _ rfl; (with_reducible repeat (first | refine blk_drewN ?_ _ | refine blk_drew ?_ | refine blk_alloc ?_ _)); refine blk_put (cs := #[.string t441, .string (⟨#[]⟩ : ByteArray), .slice none 0 0]) ?_ 1 _ rfl; (with_reducible repeat (first | refine blk_drewN ?_ _ | refine blk_drew ?_ | refine blk_alloc ?_ _)); refine blk_put (cs := #[.string (⟨#[]⟩ : ByteArray), .string (⟨#[]⟩ : ByteArray), .slice none 0 0]) ?_ 0 _ rfl; (with_reducible repeat (first | refine blk_drewN ?_ _ | refine blk_drew ?_ | refine blk_alloc ?_ _)); exact BK447.out) hb); have n3_ := Aside0.mk (below_step (by repeat (first | (with_reducible first | exact HB.out | apply below_alloc | apply pw_below_drewN | apply below_drew1 | refine below_set ?_ GE431.out | refine below_set ?_ GE447.out) | exact HB.out)) hb); clear HO445; clear BK431; clear BK447; clear HB; have HO445 := n0_; have BK431 := n1_; have BK447 := n2_; have HB := n3_; clear n0_ n1_ n2_ n3_; (try clear hb); (try clear hb2); (try clear hk); (try clear hi)))
                              go_ret
                              exact ⟨by first | rfl | (simp [errW_none, errW_some] <;> rfl) | (simp [*, errW_none, errW_some] <;> rfl), by repeat (first | (with_reducible first | exact HB.out | apply below_alloc | apply pw_below_drewN | apply below_drew1 | refine below_set ?_ GE431.out | refine below_set ?_ GE447.out) | exact HB.out)⟩
                            · replace c66 := Bool.eq_false_iff.mpr c66
                              subst c66
                              have H1 : (some false) = some r := by rw [if_neg (show ¬ (false = true) by decide)] at H; exact H
                              clear H
                              have H := H1
                              clear H1
                              obtain rfl := Option.some.inj H
                              have hcz76_0 : wr.cell? ⟨gb431, 0, none⟩ = some (.string a0_0) := (blk_cell BK431.out 0).trans rfl
                              have hcz76_1 : wr.cell? ⟨gb431, 1, none⟩ = some (.string a0_1) := (blk_cell BK431.out 1).trans rfl
                              have hcz76_2 : wr.cell? ⟨gb431, 2, none⟩ = some (.slice A0_2 l0_2.length c0_2) := (blk_cell BK431.out 2).trans rfl
                              have hfz76_0 := blk_frozen BK431.out 0
                              have hfz76_1 := blk_frozen BK431.out 1
                              have hfz76_2 := blk_frozen BK431.out 2
                              go_wp2_with (first | ((with_reducible refine gate_callee (f := 38) rfl ?_); refine goesL_ (some 103) rfl rfl Try.func38 (by kernel_rfl) rfl #[.string x7_1] rfl (by (try simp only [List.map_toArray, List.map_cons, List.map_nil]); first | done | rfl | (simp only [List.length_drop, List.length_take]; rfl)) ?_; (with_reducible refine (mimetype_Type.calls x7_1 t441 t442 t443 true _ A61.out).mono ?_); rintro e w77 ⟨v444, rfl, ho0, hb⟩; refine ⟨_, rfl, ?_⟩; have n0_ := Aside0.mk (Kd.R_lower ho0 (below_size (by repeat (first | (with_reducible first | exact HB.out | apply below_alloc | apply pw_below_drewN | apply below_drew1 | refine below_set ?_ GE431.out) | exact HB.out)))); have n1_ := Aside0.mk (blk_below (g := gb431) (o := .cells #[.string a0_0, .string a0_1, .slice A0_2 l0_2.length c0_2] 57 (0, 0)) (by (with_reducible repeat (first | refine blk_drewN ?_ _ | refine blk_drew ?_ | refine blk_alloc ?_ _)); exact BK431.out) hb); have n2_ := Aside0.mk (below_step (by repeat (first | (with_reducible first | exact HB.out | apply below_alloc | apply pw_below_drewN | apply below_drew1 | refine below_set ?_ GE431.out) | exact HB.out)) hb); clear BK431; clear HB; have HO445 := n0_; have BK431 := n1_; have HB := n2_; clear n0_ n1_ n2_; (try clear hb); (try clear hb2); (try clear hk); (try clear hi); (try clear ho0)) | ((with_reducible refine gate_dst (N := 11) rfl ?_); refine box_event ?hg (N := 11) ?hd (cs := #[.string (⟨#[]⟩ : ByteArray), .string (⟨#[]⟩ : ByteArray), .slice none 0 0]) (t := 57) ?hr ?_; (case hd => rfl); (case hg => rfl); (case hr => first | (go_simp; done) | (go_simp; rfl)); intro gb447 hg w78 hbox hb; have n0_ := Aside0.mk (Kd.R_below (by (with_reducible repeat (first | apply Kd.R_alloc | apply Kd.R_drewN | apply Kd.R_drew)); exact HO445.out) hb); have n1_ := Aside0.mk (blk_below (g := gb431) (o := .cells #[.string a0_0, .string a0_1, .slice A0_2 l0_2.length c0_2] 57 (0, 0)) (by (with_reducible repeat (first | refine blk_drewN ?_ _ | refine blk_drew ?_ | refine blk_alloc ?_ _)); exact BK431.out) hb); have n2_ := Aside0.mk (below_step (by repeat (first | (with_reducible first | exact HB.out | apply below_alloc | apply pw_below_drewN | apply below_drew1 | refine below_set ?_ GE431.out) | exact HB.out)) hb); have n3_ := Aside0.mk (hbox); have n4_ := Aside0.mk ((by rw [hg]; exact (below_size (by repeat (first | (with_reducible first | exact HB.out | apply below_alloc | apply pw_below_drewN | apply below_drew1 | refine below_set ?_ GE431.out) | exact HB.out))) : w.heap.size ≤ gb447)); have n5_ := Aside0.mk ((by rw [hg]; exact (below_size (by repeat (first | (with_reducible first | exact HB.out | apply below_alloc | apply pw_below_drewN | apply below_drew1 | refine below_set ?_ GE431.out) | exact HB.out))) : w.heap.size ≤ gb447)); have n6_ := Aside0.mk ((by rw [hg]; exact Nat.ne_of_lt (blk_lt (g := gb431) (o := .cells #[.string a0_0, .string a0_1, .slice A0_2 l0_2.length c0_2] 57 (0, 0)) (by (with_reducible repeat (first | refine blk_drewN ?_ _ | refine blk_drew ?_ | refine blk_alloc ?_ _)); exact BK431.out)) : gb431 ≠ gb447)); have n7_ := Aside0.mk ((by rw [hg]; exact Nat.ne_of_gt (blk_lt (g := gb431) (o := .cells #[.string a0_0, .string a0_1, .slice A0_2 l0_2.length c0_2] 57 (0, 0)) (by (with_reducible repeat (first | refine blk_drewN ?_ _ | refine blk_drew ?_ | refine blk_alloc ?_ _)); exact BK431.out)) : gb447 ≠ gb431)); clear HO445; clear BK431; clear HB; have HO445 := n0_; have BK431 := n1_; have HB := n2_; have BK447 := n3_; have GW447 := n4_; have GE447 := n5_; have NB431_447 := n6_; have NB447_431 := n7_; clear n0_ n1_ n2_ n3_ n4_ n5_ n6_ n7_; clear hb hbox hg; have hnb79 := NB447_431.out; have hnc79 := NB431_447.out; have hcz80_0 : w78.cell? ⟨gb447, 0, none⟩ = some (.string (⟨#[]⟩ : ByteArray)) := (blk_cell BK447.out 0).trans rfl; have hcz80_1 : w78.cell? ⟨gb447, 1, none⟩ = some (.string (⟨#[]⟩ : ByteArray)) := (blk_cell BK447.out 1).trans rfl; have hcz80_2 : w78.cell? ⟨gb447, 2, none⟩ = some (.slice none 0 0) := (blk_cell BK447.out 2).trans rfl; have hfz80_0 := blk_frozen BK447.out 0; have hfz80_1 := blk_frozen BK447.out 1; have hfz80_2 := blk_frozen BK447.out 2; obtain ⟨Ao81, co81, eo81⟩ := Kd.R_slice HO445.out; subst eo81; have hcz82_0 : w78.cell? ⟨gb431, 0, none⟩ = some (.string a0_0) := (blk_cell BK431.out 0).trans rfl; have hcz82_1 : w78.cell? ⟨gb431, 1, none⟩ = some (.string a0_1) := (blk_cell BK431.out 1).trans rfl; have hcz82_2 : w78.cell? ⟨gb431, 2, none⟩ = some (.slice A0_2 l0_2.length c0_2) := (blk_cell BK431.out 2).trans rfl; have hfz82_0 := blk_frozen BK431.out 0; have hfz82_1 := blk_frozen BK431.out 1; have hfz82_2 := blk_frozen BK431.out 2) | (go_at_call 24; (with_reducible refine (winkleref12_Fields.calls k1 _ _ t443 _ _ l0_2 false _ ?side1 ?side2 ?side3 ?side4 A65.out).mono ?_); (case side1 => refine (Kd.R_reads' (e := 42) (base := w.heap.size) (ok := fun k_ => True) (n := t443.length) (c := co81) ?_).2.2; exact (by (with_reducible repeat (first | apply Kd.R_alloc | apply Kd.R_drewN | apply Kd.R_drew)); exact (Kd.R_mono (Kd.R_far (p := ⟨gb447, 2, none⟩) (Kd.R_far (p := ⟨gb447, 1, none⟩) (Kd.R_far (p := ⟨gb447, 0, none⟩) (Kd.R_types HO445.out BK447.out (by decide)) (fun _ hk => hk.2) (.string t441)) (fun _ hk => hk.2) (.string t442)) (fun _ hk => hk.2) (.slice Ao81 t443.length co81)) (fun _ h_ => h_.1)))); (case side2 => exact (Kd.R_reads' HO445.out).2.1); (case side3 => exact Kd.C_below HR0_2.out (by repeat (first | (with_reducible first | exact HB.out | apply below_alloc | apply pw_below_drewN | apply below_drew1 | refine below_set ?_ GE431.out | refine below_set ?_ GE447.out) | exact HB.out))); (case side4 => exact HC0_2.out); rintro e w' ⟨rfl, ⟨nd, rfl⟩⟩))
                              go_ret
                              exact ⟨by first | rfl | (simp [errW_none, errW_some] <;> rfl) | (simp [*, errW_none, errW_some] <;> rfl), by repeat (first | (with_reducible first | exact HB.out | apply below_alloc | apply pw_below_drewN | apply below_drew1 | refine below_set ?_ GE431.out | refine below_set ?_ GE447.out) | exact HB.out)⟩
                          · rw [if_neg c64] at H
                            have c64b0 : (t442.toList == a0_1.toList) = false := beq_eq_false_iff_ne.mpr c64
                            have c64b1 : (t442.toList != a0_1.toList) = true := bne_iff_ne.mpr c64
                            obtain rfl := Option.some.inj H
                            have hcz83_0 : wr.cell? ⟨gb431, 0, none⟩ = some (.string a0_0) := (blk_cell BK431.out 0).trans rfl
                            have hcz83_1 : wr.cell? ⟨gb431, 1, none⟩ = some (.string a0_1) := (blk_cell BK431.out 1).trans rfl
                            have hcz83_2 : wr.cell? ⟨gb431, 2, none⟩ = some (.slice A0_2 l0_2.length c0_2) := (blk_cell BK431.out 2).trans rfl
                            have hfz83_0 := blk_frozen BK431.out 0
                            have hfz83_1 := blk_frozen BK431.out 1
                            have hfz83_2 := blk_frozen BK431.out 2
                            go_wp2_with (first | ((with_reducible refine gate_callee (f := 38) rfl ?_); refine goesL_ (some 103) rfl rfl Try.func38 (by kernel_rfl) rfl #[.string x7_1] rfl (by (try simp only [List.map_toArray, List.map_cons, List.map_nil]); first | done | rfl | (simp only [List.length_drop, List.length_take]; rfl)) ?_; (with_reducible refine (mimetype_Type.calls x7_1 t441 t442 t443 true _ A61.out).mono ?_); rintro e w84 ⟨v444, rfl, ho0, hb⟩; refine ⟨_, rfl, ?_⟩; have n0_ := Aside0.mk (Kd.R_lower ho0 (below_size (by repeat (first | (with_reducible first | exact HB.out | apply below_alloc | apply pw_below_drewN | apply below_drew1 | refine below_set ?_ GE431.out) | exact HB.out)))); have n1_ := Aside0.mk (blk_below (g := gb431) (o := .cells #[.string a0_0, .string a0_1, .slice A0_2 l0_2.length c0_2] 57 (0, 0)) (by (with_reducible repeat (first | refine blk_drewN ?_ _ | refine blk_drew ?_ | refine blk_alloc ?_ _)); exact BK431.out) hb); have n2_ := Aside0.mk (below_step (by repeat (first | (with_reducible first | exact HB.out | apply below_alloc | apply pw_below_drewN | apply below_drew1 | refine below_set ?_ GE431.out) | exact HB.out)) hb); clear BK431; clear HB; have HO445 := n0_; have BK431 := n1_; have HB := n2_; clear n0_ n1_ n2_; (try clear hb); (try clear hb2); (try clear hk); (try clear hi); (try clear ho0)) | ((with_reducible refine gate_dst (N := 11) rfl ?_); refine box_event ?hg (N := 11) ?hd (cs := #[.string (⟨#[]⟩ : ByteArray), .string (⟨#[]⟩ : ByteArray), .slice none 0 0]) (t := 57) ?hr ?_; (case hd => rfl); (case hg => rfl); (case hr => first | (go_simp; done) | (go_simp; rfl)); intro gb447 hg w85 hbox hb; have n0_ := Aside0.mk (Kd.R_below (by (with_reducible repeat (first | apply Kd.R_alloc | apply Kd.R_drewN | apply Kd.R_drew)); exact HO445.out) hb); have n1_ := Aside0.mk (blk_below (g := gb431) (o := .cells #[.string a0_0, .string a0_1, .slice A0_2 l0_2.length c0_2] 57 (0, 0)) (by (with_reducible repeat (first | refine blk_drewN ?_ _ | refine blk_drew ?_ | refine blk_alloc ?_ _)); exact BK431.out) hb); have n2_ := Aside0.mk (below_step (by repeat (first | (with_reducible first | exact HB.out | apply below_alloc | apply pw_below_drewN | apply below_drew1 | refine below_set ?_ GE431.out) | exact HB.out)) hb); have n3_ := Aside0.mk (hbox); have n4_ := Aside0.mk ((by rw [hg]; exact (below_size (by repeat (first | (with_reducible first | exact HB.out | apply below_alloc | apply pw_below_drewN | apply below_drew1 | refine below_set ?_ GE431.out) | exact HB.out))) : w.heap.size ≤ gb447)); have n5_ := Aside0.mk ((by rw [hg]; exact (below_size (by repeat (first | (with_reducible first | exact HB.out | apply below_alloc | apply pw_below_drewN | apply below_drew1 | refine below_set ?_ GE431.out) | exact HB.out))) : w.heap.size ≤ gb447)); have n6_ := Aside0.mk ((by rw [hg]; exact Nat.ne_of_lt (blk_lt (g := gb431) (o := .cells #[.string a0_0, .string a0_1, .slice A0_2 l0_2.length c0_2] 57 (0, 0)) (by (with_reducible repeat (first | refine blk_drewN ?_ _ | refine blk_drew ?_ | refine blk_alloc ?_ _)); exact BK431.out)) : gb431 ≠ gb447)); have n7_ := Aside0.mk ((by rw [hg]; exact Nat.ne_of_gt (blk_lt (g := gb431) (o := .cells #[.string a0_0, .string a0_1, .slice A0_2 l0_2.length c0_2] 57 (0, 0)) (by (with_reducible repeat (first | refine blk_drewN ?_ _ | refine blk_drew ?_ | refine blk_alloc ?_ _)); exact BK431.out)) : gb447 ≠ gb431)); clear HO445; clear BK431; clear HB; have HO445 := n0_; have BK431 := n1_; have HB := n2_; have BK447 := n3_; have GW447 := n4_; have GE447 := n5_; have NB431_447 := n6_; have NB447_431 := n7_; clear n0_ n1_ n2_ n3_ n4_ n5_ n6_ n7_; clear hb hbox hg; have hnb86 := NB447_431.out; have hnc86 := NB431_447.out; have hcz87_0 : w85.cell? ⟨gb447, 0, none⟩ = some (.string (⟨#[]⟩ : ByteArray)) := (blk_cell BK447.out 0).trans rfl; have hcz87_1 : w85.cell? ⟨gb447, 1, none⟩ = some (.string (⟨#[]⟩ : ByteArray)) := (blk_cell BK447.out 1).trans rfl; have hcz87_2 : w85.cell? ⟨gb447, 2, none⟩ = some (.slice none 0 0) := (blk_cell BK447.out 2).trans rfl; have hfz87_0 := blk_frozen BK447.out 0; have hfz87_1 := blk_frozen BK447.out 1; have hfz87_2 := blk_frozen BK447.out 2; obtain ⟨Ao88, co88, eo88⟩ := Kd.R_slice HO445.out; subst eo88; have hcz89_0 : w85.cell? ⟨gb431, 0, none⟩ = some (.string a0_0) := (blk_cell BK431.out 0).trans rfl; have hcz89_1 : w85.cell? ⟨gb431, 1, none⟩ = some (.string a0_1) := (blk_cell BK431.out 1).trans rfl; have hcz89_2 : w85.cell? ⟨gb431, 2, none⟩ = some (.slice A0_2 l0_2.length c0_2) := (blk_cell BK431.out 2).trans rfl; have hfz89_0 := blk_frozen BK431.out 0; have hfz89_1 := blk_frozen BK431.out 1; have hfz89_2 := blk_frozen BK431.out 2))
                            go_ret
                            exact ⟨by first | rfl | (simp [errW_none, errW_some] <;> rfl) | (simp [*, errW_none, errW_some] <;> rfl), by repeat (first | (with_reducible first | exact HB.out | apply below_alloc | apply pw_below_drewN | apply below_drew1 | refine below_set ?_ GE431.out | refine below_set ?_ GE447.out) | exact HB.out)⟩
                        · rw [if_neg c63] at H
                          have c63b0 : (t441.toList == a0_0.toList) = false := beq_eq_false_iff_ne.mpr c63
                          have c63b1 : (t441.toList != a0_0.toList) = true := bne_iff_ne.mpr c63
                          obtain rfl := Option.some.inj H
                          have hcz90_0 : wr.cell? ⟨gb431, 0, none⟩ = some (.string a0_0) := (blk_cell BK431.out 0).trans rfl
                          have hcz90_1 : wr.cell? ⟨gb431, 1, none⟩ = some (.string a0_1) := (blk_cell BK431.out 1).trans rfl
                          have hcz90_2 : wr.cell? ⟨gb431, 2, none⟩ = some (.slice A0_2 l0_2.length c0_2) := (blk_cell BK431.out 2).trans rfl
                          have hfz90_0 := blk_frozen BK431.out 0
                          have hfz90_1 := blk_frozen BK431.out 1
                          have hfz90_2 := blk_frozen BK431.out 2
                          go_wp2_with (first | ((with_reducible refine gate_callee (f := 38) rfl ?_); refine goesL_ (some 103) rfl rfl Try.func38 (by kernel_rfl) rfl #[.string x7_1] rfl (by (try simp only [List.map_toArray, List.map_cons, List.map_nil]); first | done | rfl | (simp only [List.length_drop, List.length_take]; rfl)) ?_; (with_reducible refine (mimetype_Type.calls x7_1 t441 t442 t443 true _ A61.out).mono ?_); rintro e w91 ⟨v444, rfl, ho0, hb⟩; refine ⟨_, rfl, ?_⟩; have n0_ := Aside0.mk (Kd.R_lower ho0 (below_size (by repeat (first | (with_reducible first | exact HB.out | apply below_alloc | apply pw_below_drewN | apply below_drew1 | refine below_set ?_ GE431.out) | exact HB.out)))); have n1_ := Aside0.mk (blk_below (g := gb431) (o := .cells #[.string a0_0, .string a0_1, .slice A0_2 l0_2.length c0_2] 57 (0, 0)) (by (with_reducible repeat (first | refine blk_drewN ?_ _ | refine blk_drew ?_ | refine blk_alloc ?_ _)); exact BK431.out) hb); have n2_ := Aside0.mk (below_step (by repeat (first | (with_reducible first | exact HB.out | apply below_alloc | apply pw_below_drewN | apply below_drew1 | refine below_set ?_ GE431.out) | exact HB.out)) hb); clear BK431; clear HB; have HO445 := n0_; have BK431 := n1_; have HB := n2_; clear n0_ n1_ n2_; (try clear hb); (try clear hb2); (try clear hk); (try clear hi); (try clear ho0)) | ((with_reducible refine gate_dst (N := 11) rfl ?_); refine box_event ?hg (N := 11) ?hd (cs := #[.string (⟨#[]⟩ : ByteArray), .string (⟨#[]⟩ : ByteArray), .slice none 0 0]) (t := 57) ?hr ?_; (case hd => rfl); (case hg => rfl); (case hr => first | (go_simp; done) | (go_simp; rfl)); intro gb447 hg w92 hbox hb; have n0_ := Aside0.mk (Kd.R_below (by (with_reducible repeat (first | apply Kd.R_alloc | apply Kd.R_drewN | apply Kd.R_drew)); exact HO445.out) hb); have n1_ := Aside0.mk (blk_below (g := gb431) (o := .cells #[.string a0_0, .string a0_1, .slice A0_2 l0_2.length c0_2] 57 (0, 0)) (by (with_reducible repeat (first | refine blk_drewN ?_ _ | refine blk_drew ?_ | refine blk_alloc ?_ _)); exact BK431.out) hb); have n2_ := Aside0.mk (below_step (by repeat (first | (with_reducible first | exact HB.out | apply below_alloc | apply pw_below_drewN | apply below_drew1 | refine below_set ?_ GE431.out) | exact HB.out)) hb); have n3_ := Aside0.mk (hbox); have n4_ := Aside0.mk ((by rw [hg]; exact (below_size (by repeat (first | (with_reducible first | exact HB.out | apply below_alloc | apply pw_below_drewN | apply below_drew1 | refine below_set ?_ GE431.out) | exact HB.out))) : w.heap.size ≤ gb447)); have n5_ := Aside0.mk ((by rw [hg]; exact (below_size (by repeat (first | (with_reducible first | exact HB.out | apply below_alloc | apply pw_below_drewN | apply below_drew1 | refine below_set ?_ GE431.out) | exact HB.out))) : w.heap.size ≤ gb447)); have n6_ := Aside0.mk ((by rw [hg]; exact Nat.ne_of_lt (blk_lt (g := gb431) (o := .cells #[.string a0_0, .string a0_1, .slice A0_2 l0_2.length c0_2] 57 (0, 0)) (by (with_reducible repeat (first | refine blk_drewN ?_ _ | refine blk_drew ?_ | refine blk_alloc ?_ _)); exact BK431.out)) : gb431 ≠ gb447)); have n7_ := Aside0.mk ((by rw [hg]; exact Nat.ne_of_gt (blk_lt (g := gb431) (o := .cells #[.string a0_0, .string a0_1, .slice A0_2 l0_2.length c0_2] 57 (0, 0)) (by (with_reducible repeat (first | refine blk_drewN ?_ _ | refine blk_drew ?_ | refine blk_alloc ?_ _)); exact BK431.out)) : gb447 ≠ gb431)); clear HO445; clear BK431; clear HB; have HO445 := n0_; have BK431 := n1_; have HB := n2_; have BK447 := n3_; have GW447 := n4_; have GE447 := n5_; have NB431_447 := n6_; have NB447_431 := n7_; clear n0_ n1_ n2_ n3_ n4_ n5_ n6_ n7_; clear hb hbox hg; have hnb93 := NB447_431.out; have hnc93 := NB431_447.out; have hcz94_0 : w92.cell? ⟨gb447, 0, none⟩ = some (.string (⟨#[]⟩ : ByteArray)) := (blk_cell BK447.out 0).trans rfl; have hcz94_1 : w92.cell? ⟨gb447, 1, none⟩ = some (.string (⟨#[]⟩ : ByteArray)) := (blk_cell BK447.out 1).trans rfl; have hcz94_2 : w92.cell? ⟨gb447, 2, none⟩ = some (.slice none 0 0) := (blk_cell BK447.out 2).trans rfl; have hfz94_0 := blk_frozen BK447.out 0; have hfz94_1 := blk_frozen BK447.out 1; have hfz94_2 := blk_frozen BK447.out 2; obtain ⟨Ao95, co95, eo95⟩ := Kd.R_slice HO445.out; subst eo95; have hcz96_0 : w92.cell? ⟨gb431, 0, none⟩ = some (.string a0_0) := (blk_cell BK431.out 0).trans rfl; have hcz96_1 : w92.cell? ⟨gb431, 1, none⟩ = some (.string a0_1) := (blk_cell BK431.out 1).trans rfl; have hcz96_2 : w92.cell? ⟨gb431, 2, none⟩ = some (.slice A0_2 l0_2.length c0_2) := (blk_cell BK431.out 2).trans rfl; have hfz96_0 := blk_frozen BK431.out 0; have hfz96_1 := blk_frozen BK431.out 1; have hfz96_2 := blk_frozen BK431.out 2))
                          go_ret
                          exact ⟨by first | rfl | (simp [errW_none, errW_some] <;> rfl) | (simp [*, errW_none, errW_some] <;> rfl), by repeat (first | (with_reducible first | exact HB.out | apply below_alloc | apply pw_below_drewN | apply below_drew1 | refine below_set ?_ GE431.out | refine below_set ?_ GE447.out) | exact HB.out)⟩
                      · replace c62 := Bool.eq_false_iff.mpr c62
                        subst c62
                        have H1 : (some false) = some r := by rw [if_neg (show ¬ (false = true) by decide)] at H; exact H
                        clear H
                        have H := H1
                        clear H1
                        obtain rfl := Option.some.inj H
                        have hcz97_0 : wr.cell? ⟨gb431, 0, none⟩ = some (.string a0_0) := (blk_cell BK431.out 0).trans rfl
                        have hcz97_1 : wr.cell? ⟨gb431, 1, none⟩ = some (.string a0_1) := (blk_cell BK431.out 1).trans rfl
                        have hcz97_2 : wr.cell? ⟨gb431, 2, none⟩ = some (.slice A0_2 l0_2.length c0_2) := (blk_cell BK431.out 2).trans rfl
                        have hfz97_0 := blk_frozen BK431.out 0
                        have hfz97_1 := blk_frozen BK431.out 1
                        have hfz97_2 := blk_frozen BK431.out 2
                        go_wp2_with (first | ((with_reducible refine gate_callee (f := 38) rfl ?_); refine goesL_ (some 103) rfl rfl Try.func38 (by kernel_rfl) rfl #[.string x7_1] rfl (by (try simp only [List.map_toArray, List.map_cons, List.map_nil]); first | done | rfl | (simp only [List.length_drop, List.length_take]; rfl)) ?_; (with_reducible refine (mimetype_Type.calls x7_1 t441 t442 t443 false _ A61.out).mono ?_); rintro e w98 ⟨v444, rfl, ho0, hb⟩; refine ⟨_, rfl, ?_⟩; have n0_ := Aside0.mk (Kd.R_lower ho0 (below_size (by repeat (first | (with_reducible first | exact HB.out | apply below_alloc | apply pw_below_drewN | apply below_drew1 | refine below_set ?_ GE431.out) | exact HB.out)))); have n1_ := Aside0.mk (blk_below (g := gb431) (o := .cells #[.string a0_0, .string a0_1, .slice A0_2 l0_2.length c0_2] 57 (0, 0)) (by (with_reducible repeat (first | refine blk_drewN ?_ _ | refine blk_drew ?_ | refine blk_alloc ?_ _)); exact BK431.out) hb); have n2_ := Aside0.mk (below_step (by repeat (first | (with_reducible first | exact HB.out | apply below_alloc | apply pw_below_drewN | apply below_drew1 | refine below_set ?_ GE431.out) | exact HB.out)) hb); clear BK431; clear HB; have HO445 := n0_; have BK431 := n1_; have HB := n2_; clear n0_ n1_ n2_; (try clear hb); (try clear hb2); (try clear hk); (try clear hi); (try clear ho0)) | ((with_reducible refine gate_dst (N := 11) rfl ?_); refine box_event ?hg (N := 11) ?hd (cs := #[.string (⟨#[]⟩ : ByteArray), .string (⟨#[]⟩ : ByteArray), .slice none 0 0]) (t := 57) ?hr ?_; (case hd => rfl); (case hg => rfl); (case hr => first | (go_simp; done) | (go_simp; rfl)); intro gb447 hg w99 hbox hb; have n0_ := Aside0.mk (Kd.R_below (by (with_reducible repeat (first | apply Kd.R_alloc | apply Kd.R_drewN | apply Kd.R_drew)); exact HO445.out) hb); have n1_ := Aside0.mk (blk_below (g := gb431) (o := .cells #[.string a0_0, .string a0_1, .slice A0_2 l0_2.length c0_2] 57 (0, 0)) (by (with_reducible repeat (first | refine blk_drewN ?_ _ | refine blk_drew ?_ | refine blk_alloc ?_ _)); exact BK431.out) hb); have n2_ := Aside0.mk (below_step (by repeat (first | (with_reducible first | exact HB.out | apply below_alloc | apply pw_below_drewN | apply below_drew1 | refine below_set ?_ GE431.out) | exact HB.out)) hb); have n3_ := Aside0.mk (hbox); have n4_ := Aside0.mk ((by rw [hg]; exact (below_size (by repeat (first | (with_reducible first | exact HB.out | apply below_alloc | apply pw_below_drewN | apply below_drew1 | refine below_set ?_ GE431.out) | exact HB.out))) : w.heap.size ≤ gb447)); have n5_ := Aside0.mk ((by rw [hg]; exact (below_size (by repeat (first | (with_reducible first | exact HB.out | apply below_alloc | apply pw_below_drewN | apply below_drew1 | refine below_set ?_ GE431.out) | exact HB.out))) : w.heap.size ≤ gb447)); have n6_ := Aside0.mk ((by rw [hg]; exact Nat.ne_of_lt (blk_lt (g := gb431) (o := .cells #[.string a0_0, .string a0_1, .slice A0_2 l0_2.length c0_2] 57 (0, 0)) (by (with_reducible repeat (first | refine blk_drewN ?_ _ | refine blk_drew ?_ | refine blk_alloc ?_ _)); exact BK431.out)) : gb431 ≠ gb447)); have n7_ := Aside0.mk ((by rw [hg]; exact Nat.ne_of_gt (blk_lt (g := gb431) (o := .cells #[.string a0_0, .string a0_1, .slice A0_2 l0_2.length c0_2] 57 (0, 0)) (by (with_reducible repeat (first | refine blk_drewN ?_ _ | refine blk_drew ?_ | refine blk_alloc ?_ _)); exact BK431.out)) : gb447 ≠ gb431)); clear HO445; clear BK431; clear HB; have HO445 := n0_; have BK431 := n1_; have HB := n2_; have BK447 := n3_; have GW447 := n4_; have GE447 := n5_; have NB431_447 := n6_; have NB447_431 := n7_; clear n0_ n1_ n2_ n3_ n4_ n5_ n6_ n7_; clear hb hbox hg; have hnb100 := NB447_431.out; have hnc100 := NB431_447.out; have hcz101_0 : w99.cell? ⟨gb447, 0, none⟩ = some (.string (⟨#[]⟩ : ByteArray)) := (blk_cell BK447.out 0).trans rfl; have hcz101_1 : w99.cell? ⟨gb447, 1, none⟩ = some (.string (⟨#[]⟩ : ByteArray)) := (blk_cell BK447.out 1).trans rfl; have hcz101_2 : w99.cell? ⟨gb447, 2, none⟩ = some (.slice none 0 0) := (blk_cell BK447.out 2).trans rfl; have hfz101_0 := blk_frozen BK447.out 0; have hfz101_1 := blk_frozen BK447.out 1; have hfz101_2 := blk_frozen BK447.out 2; obtain ⟨Ao102, co102, eo102⟩ := Kd.R_slice HO445.out; subst eo102))
                        go_ret
                        exact ⟨by first | rfl | (simp [errW_none, errW_some] <;> rfl) | (simp [*, errW_none, errW_some] <;> rfl), by repeat (first | (with_reducible first | exact HB.out | apply below_alloc | apply pw_below_drewN | apply below_drew1 | refine below_set ?_ GE431.out | refine below_set ?_ GE447.out) | exact HB.out)⟩
              · rw [if_neg c16] at H
                exact absurd H (by simp)
            · rw [if_neg c14] at H
              exact absurd H (by simp)
          · rw [if_neg c12] at H
            exact absurd H (by simp)
        · rw [if_neg c10] at H
          exact absurd H (by simp)
      · rw [if_neg c8] at H
        exact absurd H (by simp)
    · rw [if_neg c7] at H
      exact absurd H (by simp)
  · replace c4 := Bool.eq_false_iff.mpr c4
    subst c4
    have H1 : ((winklelaw13_awake.f k).bind fun t434 => (some t434)) = some r := by rw [if_neg (show ¬ (false = true) by decide)] at H; exact H
    clear H
    have H := H1
    clear H1
    replace H := Option.bind_eq_some_iff.mp H
    obtain ⟨t434, A1030, H⟩ := H
    replace H : (some t434) = some r := H
    have A103 := Aside0.mk A1030
    clear A1030
    obtain rfl := Option.some.inj H
    go_enter Try.func15, Try.ntmps15
    go_wp2_with (first | ((with_reducible refine gate_dst (N := 2) rfl ?_); refine box_event ?hg (N := 2) ?hd (cs := #[.string a0_0, .string a0_1, .slice A0_2 l0_2.length c0_2]) (t := 57) ?hr ?_; (case hd => rfl); (case hg => rfl); (case hr => first | (go_simp; done) | (go_simp; rfl)); intro gb431 hg w104 hbox hb; have n0_ := Aside0.mk (below_step (by repeat (first | (with_reducible first | exact HB.out | apply below_alloc | apply pw_below_drewN | apply below_drew1) | exact HB.out)) hb); have n1_ := Aside0.mk (hbox); have n2_ := Aside0.mk ((by rw [hg]; exact (below_size (by repeat (first | (with_reducible first | exact HB.out | apply below_alloc | apply pw_below_drewN | apply below_drew1) | exact HB.out))) : w.heap.size ≤ gb431)); have n3_ := Aside0.mk ((by rw [hg]; exact (below_size (by repeat (first | (with_reducible first | exact HB.out | apply below_alloc | apply pw_below_drewN | apply below_drew1) | exact HB.out))) : w.heap.size ≤ gb431)); clear HB; have HB := n0_; have BK431 := n1_; have GW431 := n2_; have GE431 := n3_; clear n0_ n1_ n2_ n3_; clear hb hbox hg; have hcz105_0 : w104.cell? ⟨gb431, 0, none⟩ = some (.string a0_0) := (blk_cell BK431.out 0).trans rfl; have hcz105_1 : w104.cell? ⟨gb431, 1, none⟩ = some (.string a0_1) := (blk_cell BK431.out 1).trans rfl; have hcz105_2 : w104.cell? ⟨gb431, 2, none⟩ = some (.slice A0_2 l0_2.length c0_2) := (blk_cell BK431.out 2).trans rfl; have hfz105_0 := blk_frozen BK431.out 0; have hfz105_1 := blk_frozen BK431.out 1; have hfz105_2 := blk_frozen BK431.out 2) | ((with_reducible refine gate_callee (f := 46) rfl ?_); refine goesL_ (some 15) rfl rfl Try.func46 (by kernel_rfl) rfl #[.agg #[.string a0_0, .string a0_1, .slice A0_2 l0_2.length c0_2]] rfl (by (try simp only [List.map_toArray, List.map_cons, List.map_nil]); first | done | rfl | (simp only [List.length_drop, List.length_take]; rfl)) ?_; (with_reducible refine (mimetype_Text.calls k a0_0 a0_1 _ _ l0_2 t432 false _ ?side1 ?side2 A3.out).mono ?_); (case side1 => repeat (first | exact (Kd.C_below HR0_2.out HB.out) | (with_reducible refine Kd.C_alloc ?_ _) | (with_reducible refine Kd.C_drewN ?_ _) | (with_reducible refine Kd.C_drew ?_))); (case side2 => exact HC0_2.out); rintro e w106 ⟨rfl, hb⟩; refine ⟨_, rfl, ?_⟩; have n0_ := Aside0.mk (blk_below (g := gb431) (o := .cells #[.string a0_0, .string a0_1, .slice A0_2 l0_2.length c0_2] 57 (0, 0)) (by (with_reducible repeat (first | refine blk_drewN ?_ _ | refine blk_drew ?_ | refine blk_alloc ?_ _)); exact BK431.out) hb); have n1_ := Aside0.mk (below_step (by repeat (first | (with_reducible first | exact HB.out | apply below_alloc | apply pw_below_drewN | apply below_drew1 | refine below_set ?_ GE431.out) | exact HB.out)) hb); clear BK431; clear HB; have BK431 := n0_; have HB := n1_; clear n0_ n1_; (try clear hb); (try clear hb2); (try clear hk); (try clear hi)) | ((with_reducible refine gate_callee (f := 45) rfl ?_); refine goesL_ (some 20) rfl rfl Try.func45 (by kernel_rfl) rfl #[] rfl (by (try simp only [List.map_toArray, List.map_cons, List.map_nil]); first | done | rfl | (simp only [List.length_drop, List.length_take]; rfl)) ?_; (with_reducible refine (winklelaw13_awake.calls k  t434 _ A103.out).mono ?_); rintro e w107 ⟨rfl, hb⟩; refine ⟨_, rfl, ?_⟩; have n0_ := Aside0.mk (blk_below (g := gb431) (o := .cells #[.string a0_0, .string a0_1, .slice A0_2 l0_2.length c0_2] 57 (0, 0)) (by (with_reducible repeat (first | refine blk_drewN ?_ _ | refine blk_drew ?_ | refine blk_alloc ?_ _)); exact BK431.out) hb); have n1_ := Aside0.mk (below_step (by repeat (first | (with_reducible first | exact HB.out | apply below_alloc | apply pw_below_drewN | apply below_drew1 | refine below_set ?_ GE431.out) | exact HB.out)) hb); clear BK431; clear HB; have BK431 := n0_; have HB := n1_; clear n0_ n1_; (try clear hb); (try clear hb2); (try clear hk); (try clear hi)))
    go_ret
    exact ⟨by first | rfl | (simp [errW_none, errW_some] <;> rfl) | (simp [*, errW_none, errW_some] <;> rfl), by repeat (first | (with_reducible first | exact HB.out | apply below_alloc | apply pw_below_drewN | apply below_drew1 | refine below_set ?_ GE431.out) | exact HB.out)⟩
end Go.Proofs.Ytodidfdfbanliaa.PAll
