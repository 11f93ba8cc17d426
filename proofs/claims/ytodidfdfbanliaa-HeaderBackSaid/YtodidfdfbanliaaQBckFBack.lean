/- HeaderBack's walk: printed by the turned print; the conversion by hand (HConv). -/
import Derived.Test.YtodidfdfbanliaaQBckPAllx0
import Derived.Test.YtodidfdfbanliaaQBckFNamed
import Derived.Test.YtodidfdfbanliaaQBckFFields
import Derived.Test.YtodidfdfbanliaaQBckHAwake12
import Derived.Test.YtodidfdfbanliaaQBckHWhole
import Derived.Test.YtodidfdfbanliaaQBckHConv
namespace Go.Proofs.Ytodidfdfbanliaa.PAll
open Go.RowKit Go.Proofs.YtodidfdfbanliaaW.PrintWords Go.Proofs.YtodidfdfbanliaaW.PrintLast Go.Proofs.YtodidfdfbanliaaW.PrintMore
attribute [local go_sem] conv_at
set_option linter.unusedVariables false
set_option linter.unusedSimpArgs false
mutual
def winklelaw12_HeaderBack.j0 : Nat → List (List Int) → List (List Int) → Int → ByteArray → Option (Bool)
  | 0, _, _, _, _ => none
  | k + 1, x0, x1, x2, x7 => winklelaw12_HeaderBack.l0 k x0 x1 x2 x7 (⟨#[]⟩ : ByteArray) ([] : List (S42)) 0
def winklelaw12_HeaderBack.l0 : Nat → List (List Int) → List (List Int) → Int → ByteArray → ByteArray → List (S42) → Int → Option (Bool)
  | 0, _, _, _, _, _, _, _ => none
  | k + 1, x0, x1, x2, x7, x8, x9, x10 => if x10 < (x0.length : Int) then (if x10 < (x1.length : Int) then (winklelaw12_HeaderBack.j2 k x0 x1 x2 x7 x8 x9 x10 (decide (x10 < 64))) else (winklelaw12_HeaderBack.j2 k x0 x1 x2 x7 x8 x9 x10 false)) else (winklelaw12_HeaderBack.j2 k x0 x1 x2 x7 x8 x9 x10 false)
def winklelaw12_HeaderBack.j2 : Nat → List (List Int) → List (List Int) → Int → ByteArray → ByteArray → List (S42) → Int → Bool → Option (Bool)
  | 0, _, _, _, _, _, _, _, _ => none
  | k + 1, x0, x1, x2, x7, x8, x9, x10, x35 => if x35 = true then (if 0 ≤ x10 then (if x10 < (x0.length : Int) then ((winklelaw12_named.f k (rd_L3 x0 x10)).bind fun t181 => (if x10 < (x1.length : Int) then ((winklelaw12_valued.f k (rd_L3 x1 x10)).bind fun t183 => (if x9.length < 4398046511104 then ((some (x9 ++ [(⟨t181, t183⟩ : S42)] : List (S42))).bind fun y185 => (if (Int.tmod x2 4) ≥ 2 then (winklelaw12_HeaderBack.l1 k x0 x1 x2 x7 x8 y185 x10 t183 (⟨#[]⟩ : ByteArray) 0 t181 t183) else (if t181.size + 2 ≤ 9223372036854775807 then (if (t181 ++ (⟨#[58, 32]⟩ : ByteArray)).size + t183.size ≤ 9223372036854775807 then (if ((t181 ++ (⟨#[58, 32]⟩ : ByteArray)) ++ t183).size + x7.size ≤ 9223372036854775807 then (if x8.size + (((t181 ++ (⟨#[58, 32]⟩ : ByteArray)) ++ t183) ++ x7).size ≤ 9223372036854775807 then (winklelaw12_HeaderBack.l0 k x0 x1 x2 x7 (x8 ++ (((t181 ++ (⟨#[58, 32]⟩ : ByteArray)) ++ t183) ++ x7)) y185 (wrap64 (x10 + 1))) else (none)) else (none)) else (none)) else (none)))) else (none))) else (none))) else (none)) else (none)) else (if x8.size + x7.size ≤ 9223372036854775807 then (if (x8 ++ x7).size + 4 ≤ 9223372036854775807 then ((header_Whole.f ((bytesOf ((x8 ++ x7) ++ (⟨#[98, 111, 100, 121]⟩ : ByteArray)))) 65536).bind fun bt172 => ((winkleref12_Fields.f k bt172.1 x9).bind fun t178 => (if t178 = true then (if bt172.2.1 = (wrap64 ((x8.size : Int) + (x7.size : Int))) then (if bt172.2.2.1 = 0 then (if bt172.2.2.2 = 0 then ((winklelaw12_awake.f).bind fun t179 => (some t179)) else (some false)) else (some false)) else (some false)) else (some false)))) else (none)) else (none))
def winklelaw12_HeaderBack.l1 : Nat → List (List Int) → List (List Int) → Int → ByteArray → ByteArray → List (S42) → Int → ByteArray → ByteArray → Int → ByteArray → ByteArray → Option (Bool)
  | 0, _, _, _, _, _, _, _, _, _, _, _, _ => none
  | k + 1, x0, x1, x2, x7, x8, x9, x10, x12, x13, x14, x185000, x185001 => if x14 < (x12.size : Int) then (if x14 > 0 then (if 0 ≤ x14 then (if (bt x12 x14) = 32 then (if 0 ≤ (wrap64 (x14 - 1)) then (if (wrap64 (x14 - 1)) < (x12.size : Int) then (if (bt x12 (wrap64 (x14 - 1))) = 32 then (if x14 ≤ (wrap64 (x14 + 1)) then (if (wrap64 (x14 + 1)) ≤ (x12.size : Int) then (if x13.size + (x12.extract (x14 : Int).toNat ((wrap64 (x14 + 1)) : Int).toNat).size ≤ 9223372036854775807 then (winklelaw12_HeaderBack.l1 k x0 x1 x2 x7 x8 x9 x10 x12 (x13 ++ (x12.extract (x14 : Int).toNat ((wrap64 (x14 + 1)) : Int).toNat)) (wrap64 (x14 + 1)) x185000 x185001) else (none)) else (none)) else (none)) else (if (bt x12 (wrap64 (x14 - 1))) = 9 then (if x14 ≤ (wrap64 (x14 + 1)) then (if (wrap64 (x14 + 1)) ≤ (x12.size : Int) then (if x13.size + (x12.extract (x14 : Int).toNat ((wrap64 (x14 + 1)) : Int).toNat).size ≤ 9223372036854775807 then (winklelaw12_HeaderBack.l1 k x0 x1 x2 x7 x8 x9 x10 x12 (x13 ++ (x12.extract (x14 : Int).toNat ((wrap64 (x14 + 1)) : Int).toNat)) (wrap64 (x14 + 1)) x185000 x185001) else (none)) else (none)) else (none)) else (if x13.size + x7.size ≤ 9223372036854775807 then (if x14 ≤ (wrap64 (x14 + 1)) then (if (wrap64 (x14 + 1)) ≤ (x12.size : Int) then (if (x13 ++ x7).size + (x12.extract (x14 : Int).toNat ((wrap64 (x14 + 1)) : Int).toNat).size ≤ 9223372036854775807 then (winklelaw12_HeaderBack.l1 k x0 x1 x2 x7 x8 x9 x10 x12 ((x13 ++ x7) ++ (x12.extract (x14 : Int).toNat ((wrap64 (x14 + 1)) : Int).toNat)) (wrap64 (x14 + 1)) x185000 x185001) else (none)) else (none)) else (none)) else (none)))) else (none)) else (none)) else (if (bt x12 x14) = 9 then (if 0 ≤ (wrap64 (x14 - 1)) then (if (wrap64 (x14 - 1)) < (x12.size : Int) then (if (bt x12 (wrap64 (x14 - 1))) = 32 then (if x14 ≤ (wrap64 (x14 + 1)) then (if (wrap64 (x14 + 1)) ≤ (x12.size : Int) then (if x13.size + (x12.extract (x14 : Int).toNat ((wrap64 (x14 + 1)) : Int).toNat).size ≤ 9223372036854775807 then (winklelaw12_HeaderBack.l1 k x0 x1 x2 x7 x8 x9 x10 x12 (x13 ++ (x12.extract (x14 : Int).toNat ((wrap64 (x14 + 1)) : Int).toNat)) (wrap64 (x14 + 1)) x185000 x185001) else (none)) else (none)) else (none)) else (if (bt x12 (wrap64 (x14 - 1))) = 9 then (if x14 ≤ (wrap64 (x14 + 1)) then (if (wrap64 (x14 + 1)) ≤ (x12.size : Int) then (if x13.size + (x12.extract (x14 : Int).toNat ((wrap64 (x14 + 1)) : Int).toNat).size ≤ 9223372036854775807 then (winklelaw12_HeaderBack.l1 k x0 x1 x2 x7 x8 x9 x10 x12 (x13 ++ (x12.extract (x14 : Int).toNat ((wrap64 (x14 + 1)) : Int).toNat)) (wrap64 (x14 + 1)) x185000 x185001) else (none)) else (none)) else (none)) else (if x13.size + x7.size ≤ 9223372036854775807 then (if x14 ≤ (wrap64 (x14 + 1)) then (if (wrap64 (x14 + 1)) ≤ (x12.size : Int) then (if (x13 ++ x7).size + (x12.extract (x14 : Int).toNat ((wrap64 (x14 + 1)) : Int).toNat).size ≤ 9223372036854775807 then (winklelaw12_HeaderBack.l1 k x0 x1 x2 x7 x8 x9 x10 x12 ((x13 ++ x7) ++ (x12.extract (x14 : Int).toNat ((wrap64 (x14 + 1)) : Int).toNat)) (wrap64 (x14 + 1)) x185000 x185001) else (none)) else (none)) else (none)) else (none)))) else (none)) else (none)) else (if x14 ≤ (wrap64 (x14 + 1)) then (if (wrap64 (x14 + 1)) ≤ (x12.size : Int) then (if x13.size + (x12.extract (x14 : Int).toNat ((wrap64 (x14 + 1)) : Int).toNat).size ≤ 9223372036854775807 then (winklelaw12_HeaderBack.l1 k x0 x1 x2 x7 x8 x9 x10 x12 (x13 ++ (x12.extract (x14 : Int).toNat ((wrap64 (x14 + 1)) : Int).toNat)) (wrap64 (x14 + 1)) x185000 x185001) else (none)) else (none)) else (none)))) else (none)) else (if 0 ≤ x14 then (if x14 ≤ (wrap64 (x14 + 1)) then (if (wrap64 (x14 + 1)) ≤ (x12.size : Int) then (if x13.size + (x12.extract (x14 : Int).toNat ((wrap64 (x14 + 1)) : Int).toNat).size ≤ 9223372036854775807 then (winklelaw12_HeaderBack.l1 k x0 x1 x2 x7 x8 x9 x10 x12 (x13 ++ (x12.extract (x14 : Int).toNat ((wrap64 (x14 + 1)) : Int).toNat)) (wrap64 (x14 + 1)) x185000 x185001) else (none)) else (none)) else (none)) else (none))) else (if x185000.size + 2 ≤ 9223372036854775807 then (if (x185000 ++ (⟨#[58, 32]⟩ : ByteArray)).size + x13.size ≤ 9223372036854775807 then (if ((x185000 ++ (⟨#[58, 32]⟩ : ByteArray)) ++ x13).size + x7.size ≤ 9223372036854775807 then (if x8.size + (((x185000 ++ (⟨#[58, 32]⟩ : ByteArray)) ++ x13) ++ x7).size ≤ 9223372036854775807 then (winklelaw12_HeaderBack.l0 k x0 x1 x2 x7 (x8 ++ (((x185000 ++ (⟨#[58, 32]⟩ : ByteArray)) ++ x13) ++ x7)) x9 (wrap64 (x10 + 1))) else (none)) else (none)) else (none)) else (none))
end
def winklelaw12_HeaderBack.f (k : Nat) (l0 : List (List Int)) (l1 : List (List Int)) (a2 : Int) : Option (Bool) := if (Int.tmod a2 2) = 1 then (winklelaw12_HeaderBack.j0 k l0 l1 a2 (⟨#[10]⟩ : ByteArray)) else (winklelaw12_HeaderBack.j0 k l0 l1 a2 (⟨#[13, 10]⟩ : ByteArray))
def winklelaw12_HeaderBack.T9 : Bool × List (List Nat × List Nat) := (true, [([], []), ([], []), ([0, 1], [0, 1]), ([2], [2]), ([3], [3]), ([], []), ([], []), ([5, 6], [5, 6]), ([7], [7]), ([8, 4], [8]), ([4, 9], [4, 9]), ([], []), ([11, 10, 9, 0, 1, 2, 3, 4, 5, 6, 7, 8, 9, 10, 11], [10, 11])])
def winklelaw12_HeaderBack.B9 : List Nat := [0, 0, 3, 7, 15, 0, 0, 96, 224, 511, 1023, 0, 4095]
theorem winklelaw12_HeaderBack.tab9 : rtab .any (opsOf Try.f5 9) = winklelaw12_HeaderBack.T9 := by kernel_rfl
theorem winklelaw12_HeaderBack.bits9 : waitsOk winklelaw12_HeaderBack.T9.2 winklelaw12_HeaderBack.B9 = true := by kernel_rfl
set_option maxHeartbeats 8000000 in
set_option maxRecDepth 100000 in
theorem winklelaw12_HeaderBack.calls (k : Nat) (A0 : Option Addr) (c0 : Nat) (l0 : List (List Int)) (A1 : Option Addr) (c1 : Nat) (l1 : List (List Int)) (a2 : Int) (r : Bool) (w : World) (hr0 : Kd.C (Kd.slice 5 (Kd.int .u8)) w A0 l0.length l0) (hc0 : l0.length ≤ c0) (hr1 : Kd.C (Kd.slice 5 (Kd.int .u8)) w A1 l1.length l1) (hc1 : l1.length ≤ c1) (h : winklelaw12_HeaderBack.f k l0 l1 a2 = some r) :
    Calls Try.prog 5 #[.slice A0 l0.length c0, .slice A1 l1.length c1, .int .u8 a2] w fun e w' => e = .returned (.bool r) ∧ Below w.heap.size w w' := by
  have hu42 := Try.underlying42
  have HR0 := Aside0.mk hr0
  have HC0 := Aside0.mk hc0
  clear hr0 hc0
  have HR1 := Aside0.mk hr1
  have HC1 := Aside0.mk hc1
  clear hr1 hc1
  have HB := Aside0.mk (Below.refl w.heap.size w)
  have H : (if (Int.tmod a2 2) = 1 then (winklelaw12_HeaderBack.j0 k l0 l1 a2 (⟨#[10]⟩ : ByteArray)) else (winklelaw12_HeaderBack.j0 k l0 l1 a2 (⟨#[13, 10]⟩ : ByteArray))) = some r := h
  clear h
  have HC4 := Aside0.mk H
  clear H
  go_enter Try.func5, Try.ntmps5
  go_upto_if 21 with (fail)
  go_cut [7] (fun v7 wc => ∃ (kq : Nat) (x7_3 : ByteArray), v7 = .string x7_3 ∧ Aside0 (winklelaw12_HeaderBack.j0 kq l0 l1 a2 x7_3 = some r) ∧ Aside0 (kq ≤ k) ∧ Aside0 (Below w.heap.size w wc))
  case first =>
    have H := HC4.out
    clear HC4
    by_cases c5 : (Int.tmod a2 2) = 1
    · rw [if_pos c5] at H
      have c5b0 : ((Int.tmod a2 2) == 1) = true := beq_iff_eq.mpr c5
      have c5b1 : ((Int.tmod a2 2) != 1) = false := bne_eq_false_iff_eq.mpr c5
      clear c5
      (first | rw [c5b0] | (simp only [i64_w, i32_w]; rw [c5b0]) | skip)
      have H' := Aside0.mk H
      clear H
      go_wp2
      go_meet
      case rel => exact ⟨_, ((⟨#[10]⟩ : ByteArray)), (by first | rfl | (simp; done) | (simp [*]; done) | (simp [isEmpty_bne]; done)), H', ⟨by first | omega | exact Nat.le_refl _⟩, ⟨by repeat (first | (with_reducible first | exact HB.out | apply below_alloc | apply pw_below_drewN | apply below_drew1) | exact HB.out)⟩⟩
    · rw [if_neg c5] at H
      have c5b0 : ((Int.tmod a2 2) == 1) = false := beq_eq_false_iff_ne.mpr c5
      have c5b1 : ((Int.tmod a2 2) != 1) = true := bne_iff_ne.mpr c5
      (first | rw [c5b0] | (simp only [i64_w, i32_w]; rw [c5b0]) | skip)
      have H' := Aside0.mk H
      clear H
      go_wp2
      go_meet
      case rel => exact ⟨_, ((⟨#[13, 10]⟩ : ByteArray)), (by first | rfl | (simp; done) | (simp [*]; done) | (simp [isEmpty_bne]; done)), H', ⟨by first | omega | exact Nat.le_refl _⟩, ⟨by repeat (first | (with_reducible first | exact HB.out | apply below_alloc | apply pw_below_drewN | apply below_drew1) | exact HB.out)⟩⟩
  case rest =>
    clear HC4
    try clear c1
    try clear p2
    try clear c5
    try clear c5b0
    try clear c5b1
    obtain ⟨kq, x7_3, rfl, HA, HJ3, HB⟩ := hcut
    cases kq with
    | zero => exact absurd HA.out (by simp [winklelaw12_HeaderBack.j0])
    | succ kj3 =>
      have H := HA.out
      clear HA
      simp only [winklelaw12_HeaderBack.j0] at H
      have H' := Aside0.mk H
      clear H
      go_wp2
      go_loopg [8, 9, 10] kj3 (fun kq v8 v9 v10 w' => ∃ (x8_2 : ByteArray) (x9_2 : List (S42)) (x10_2 : Int), v8 = .string x8_2 ∧ v10 = .int .i64 x10_2 ∧ Aside0 (winklelaw12_HeaderBack.l0 kq l0 l1 a2 x7_3 x8_2 x9_2 x10_2 = some r) ∧ Aside0 (kq ≤ kj3) ∧ Aside0 (Kd.R k42 42 w' w.heap.size (fun _ => True) v9 x9_2) ∧ Aside0 (Below w.heap.size w w'))
      case atStart => exact ⟨((⟨#[]⟩ : ByteArray)), (([] : List (S42))), (0), (by first | rfl | (simp; done) | (simp [*]; done) | (simp [isEmpty_bne]; done)), (by first | rfl | (simp; done) | (simp [*]; done) | (simp [isEmpty_bne]; done)), H', ⟨Nat.le_refl _⟩, ⟨by first | exact Kd.R_nil _ _ _ _ _ | exact Kd.N_nil _ _ _ _ _ | exact Kd.V_nil _ _ _ _ _ | exact Kd.Q_nil _ _ _ _ _ | exact Kd.S_nil _ _ _ _ _⟩, ⟨by repeat (first | (with_reducible first | exact HB.out | apply below_alloc | apply pw_below_drewN | apply below_drew1) | exact HB.out)⟩⟩
      case round =>
        clear H'
        try clear c1
        try clear p2
        try clear c5
        try clear c5b0
        try clear c5b1
        try clear p2
        obtain ⟨x8_2, x9_2, x10_2, rfl, rfl, HA, HK2, HO_9, HB⟩ := hrel
        cases gk with
        | zero => exact absurd HA.out (by simp [winklelaw12_HeaderBack.l0])
        | succ k2 =>
          have H := HA.out
          clear HA
          simp only [winklelaw12_HeaderBack.l0] at H
          have HC6 := Aside0.mk H
          clear H
          go_upto_region 7 with (fail)
          go_cut [35] (fun v35 wc => ∃ (kq : Nat) (x35_5 : Bool), v35 = .bool x35_5 ∧ Aside0 (winklelaw12_HeaderBack.j2 kq l0 l1 a2 x7_3 x8_2 x9_2 x10_2 x35_5 = some r) ∧ Aside0 (kq ≤ k2) ∧ Aside0 (Kd.R k42 42 wc w.heap.size (fun _ => True) u9 x9_2) ∧ Aside0 (Below w.heap.size w wc))
          case first =>
            have H := HC6.out
            clear HC6
            by_cases c7 : x10_2 < (l0.length : Int)
            · rw [if_pos c7] at H
              have c7b0 : decide (x10_2 < (l0.length : Int)) = true := decide_eq_true c7
              clear c7
              (first | rw [c7b0] | (simp only [i64_w, i32_w]; rw [c7b0]) | skip)
              by_cases c8 : x10_2 < (l1.length : Int)
              · rw [if_pos c8] at H
                have c8b0 : decide (x10_2 < (l1.length : Int)) = true := decide_eq_true c8
                clear c8
                have H' := Aside0.mk H
                clear H
                go_wp2
                go_meet
                case rel => exact ⟨_, (decide (x10_2 < 64)), (by first | rfl | (simp; done) | (simp [*]; done) | (simp [isEmpty_bne]; done)), H', ⟨by have := HJ3.out; have := HK2.out; first | omega | exact Nat.le_refl _⟩, ⟨by (with_reducible repeat (first | apply Kd.R_alloc | apply Kd.R_drewN | apply Kd.R_drew)); exact HO_9.out⟩, ⟨by repeat (first | (with_reducible first | exact HB.out | apply below_alloc | apply pw_below_drewN | apply below_drew1) | exact HB.out)⟩⟩
              · rw [if_neg c8] at H
                have c8b0 : decide (x10_2 < (l1.length : Int)) = false := decide_eq_false c8
                clear c8
                have H' := Aside0.mk H
                clear H
                go_wp2
                go_meet
                case rel => exact ⟨_, (false), (by first | rfl | (simp; done) | (simp [*]; done) | (simp [isEmpty_bne]; done)), H', ⟨by have := HJ3.out; have := HK2.out; first | omega | exact Nat.le_refl _⟩, ⟨by (with_reducible repeat (first | apply Kd.R_alloc | apply Kd.R_drewN | apply Kd.R_drew)); exact HO_9.out⟩, ⟨by repeat (first | (with_reducible first | exact HB.out | apply below_alloc | apply pw_below_drewN | apply below_drew1) | exact HB.out)⟩⟩
            · rw [if_neg c7] at H
              have c7b0 : decide (x10_2 < (l0.length : Int)) = false := decide_eq_false c7
              clear c7
              (first | rw [c7b0] | (simp only [i64_w, i32_w]; rw [c7b0]) | skip)
              have H' := Aside0.mk H
              clear H
              go_wp2
              go_meet
              case rel => exact ⟨_, (false), (by first | rfl | (simp; done) | (simp [*]; done) | (simp [isEmpty_bne]; done)), H', ⟨by have := HJ3.out; have := HK2.out; first | omega | exact Nat.le_refl _⟩, ⟨by (with_reducible repeat (first | apply Kd.R_alloc | apply Kd.R_drewN | apply Kd.R_drew)); exact HO_9.out⟩, ⟨by repeat (first | (with_reducible first | exact HB.out | apply below_alloc | apply pw_below_drewN | apply below_drew1) | exact HB.out)⟩⟩
          case rest =>
            clear HC6
            try clear c1
            try clear p2
            try clear c5
            try clear c5b0
            try clear c5b1
            try clear c7
            try clear c7b0
            try clear c8
            try clear c8b0
            try clear p2
            obtain ⟨kq, x35_5, rfl, HA, HJ5, HO_9, HB⟩ := hcut
            cases kq with
            | zero => exact absurd HA.out (by simp [winklelaw12_HeaderBack.j2])
            | succ kj5 =>
              have H := HA.out
              clear HA
              simp only [winklelaw12_HeaderBack.j2] at H
              by_cases c9 : x35_5 = true
              · subst c9
                have H1 : (if 0 ≤ x10_2 then (if x10_2 < (l0.length : Int) then ((winklelaw12_named.f kj5 (rd_L3 l0 x10_2)).bind fun t181 => (if x10_2 < (l1.length : Int) then ((winklelaw12_valued.f kj5 (rd_L3 l1 x10_2)).bind fun t183 => (if x9_2.length < 4398046511104 then ((some (x9_2 ++ [(⟨t181, t183⟩ : S42)] : List (S42))).bind fun y185 => (if (Int.tmod a2 4) ≥ 2 then (winklelaw12_HeaderBack.l1 kj5 l0 l1 a2 x7_3 x8_2 y185 x10_2 t183 (⟨#[]⟩ : ByteArray) 0 t181 t183) else (if t181.size + 2 ≤ 9223372036854775807 then (if (t181 ++ (⟨#[58, 32]⟩ : ByteArray)).size + t183.size ≤ 9223372036854775807 then (if ((t181 ++ (⟨#[58, 32]⟩ : ByteArray)) ++ t183).size + x7_3.size ≤ 9223372036854775807 then (if x8_2.size + (((t181 ++ (⟨#[58, 32]⟩ : ByteArray)) ++ t183) ++ x7_3).size ≤ 9223372036854775807 then (winklelaw12_HeaderBack.l0 kj5 l0 l1 a2 x7_3 (x8_2 ++ (((t181 ++ (⟨#[58, 32]⟩ : ByteArray)) ++ t183) ++ x7_3)) y185 (wrap64 (x10_2 + 1))) else (none)) else (none)) else (none)) else (none)))) else (none))) else (none))) else (none)) else (none)) = some r := by rw [if_pos rfl] at H; exact H
                clear H
                have H := H1
                clear H1
                by_cases c10 : 0 ≤ x10_2
                · rw [if_pos c10] at H
                  have c10b0 : decide (0 ≤ x10_2) = true := decide_eq_true c10
                  clear c10
                  by_cases c11 : x10_2 < (l0.length : Int)
                  · rw [if_pos c11] at H
                    have c11b0 : decide (x10_2 < (l0.length : Int)) = true := decide_eq_true c11
                    clear c11
                    replace H := Option.bind_eq_some_iff.mp H
                    obtain ⟨t181, A120, H⟩ := H
                    replace H : (if x10_2 < (l1.length : Int) then ((winklelaw12_valued.f kj5 (rd_L3 l1 x10_2)).bind fun t183 => (if x9_2.length < 4398046511104 then ((some (x9_2 ++ [(⟨t181, t183⟩ : S42)] : List (S42))).bind fun y185 => (if (Int.tmod a2 4) ≥ 2 then (winklelaw12_HeaderBack.l1 kj5 l0 l1 a2 x7_3 x8_2 y185 x10_2 t183 (⟨#[]⟩ : ByteArray) 0 t181 t183) else (if t181.size + 2 ≤ 9223372036854775807 then (if (t181 ++ (⟨#[58, 32]⟩ : ByteArray)).size + t183.size ≤ 9223372036854775807 then (if ((t181 ++ (⟨#[58, 32]⟩ : ByteArray)) ++ t183).size + x7_3.size ≤ 9223372036854775807 then (if x8_2.size + (((t181 ++ (⟨#[58, 32]⟩ : ByteArray)) ++ t183) ++ x7_3).size ≤ 9223372036854775807 then (winklelaw12_HeaderBack.l0 kj5 l0 l1 a2 x7_3 (x8_2 ++ (((t181 ++ (⟨#[58, 32]⟩ : ByteArray)) ++ t183) ++ x7_3)) y185 (wrap64 (x10_2 + 1))) else (none)) else (none)) else (none)) else (none)))) else (none))) else (none)) = some r := H
                    have A12 := Aside0.mk A120
                    clear A120
                    by_cases c13 : x10_2 < (l1.length : Int)
                    · rw [if_pos c13] at H
                      have c13b0 : decide (x10_2 < (l1.length : Int)) = true := decide_eq_true c13
                      clear c13
                      replace H := Option.bind_eq_some_iff.mp H
                      obtain ⟨t183, A140, H⟩ := H
                      replace H : (if x9_2.length < 4398046511104 then ((some (x9_2 ++ [(⟨t181, t183⟩ : S42)] : List (S42))).bind fun y185 => (if (Int.tmod a2 4) ≥ 2 then (winklelaw12_HeaderBack.l1 kj5 l0 l1 a2 x7_3 x8_2 y185 x10_2 t183 (⟨#[]⟩ : ByteArray) 0 t181 t183) else (if t181.size + 2 ≤ 9223372036854775807 then (if (t181 ++ (⟨#[58, 32]⟩ : ByteArray)).size + t183.size ≤ 9223372036854775807 then (if ((t181 ++ (⟨#[58, 32]⟩ : ByteArray)) ++ t183).size + x7_3.size ≤ 9223372036854775807 then (if x8_2.size + (((t181 ++ (⟨#[58, 32]⟩ : ByteArray)) ++ t183) ++ x7_3).size ≤ 9223372036854775807 then (winklelaw12_HeaderBack.l0 kj5 l0 l1 a2 x7_3 (x8_2 ++ (((t181 ++ (⟨#[58, 32]⟩ : ByteArray)) ++ t183) ++ x7_3)) y185 (wrap64 (x10_2 + 1))) else (none)) else (none)) else (none)) else (none)))) else (none)) = some r := H
                      have A14 := Aside0.mk A140
                      clear A140
                      by_cases c15 : x9_2.length < 4398046511104
                      · rw [if_pos c15] at H
                        have LMc15 := Aside0.mk c15
                        clear c15
                        obtain ⟨y185, hy185⟩ : ∃ y_ : List (S42), y_ = (x9_2 ++ [(⟨t181, t183⟩ : S42)]) := ⟨_, rfl⟩
                        replace H : (if (Int.tmod a2 4) ≥ 2 then (winklelaw12_HeaderBack.l1 kj5 l0 l1 a2 x7_3 x8_2 y185 x10_2 t183 (⟨#[]⟩ : ByteArray) 0 t181 t183) else (if t181.size + 2 ≤ 9223372036854775807 then (if (t181 ++ (⟨#[58, 32]⟩ : ByteArray)).size + t183.size ≤ 9223372036854775807 then (if ((t181 ++ (⟨#[58, 32]⟩ : ByteArray)) ++ t183).size + x7_3.size ≤ 9223372036854775807 then (if x8_2.size + (((t181 ++ (⟨#[58, 32]⟩ : ByteArray)) ++ t183) ++ x7_3).size ≤ 9223372036854775807 then (winklelaw12_HeaderBack.l0 kj5 l0 l1 a2 x7_3 (x8_2 ++ (((t181 ++ (⟨#[58, 32]⟩ : ByteArray)) ++ t183) ++ x7_3)) y185 (wrap64 (x10_2 + 1))) else (none)) else (none)) else (none)) else (none))) = some r := by first | (rw [hy185]; with_reducible exact H) | (have H2_ := (Option.bind_some _ _).symm.trans H; rw [hy185]; with_reducible exact H2_) | (have H2_ := (Option.bind_some _ _).symm.trans H; with_reducible exact H2_) | with_reducible exact H | (rw [hy185]; exact H) | exact H
                        have Ny185 := Aside0.mk hy185
                        clear hy185
                        by_cases c16 : (Int.tmod a2 4) ≥ 2
                        · rw [if_pos c16] at H
                          have c16b0 : decide (2 ≤ (Int.tmod a2 4)) = true := decide_eq_true c16
                          clear c16
                          have H' := Aside0.mk H
                          clear H
                          try go_wp2
                          have n0_ := Aside0.mk (Kd.R_drew HO_9.out)
                          have n1_ := Aside0.mk (below_drew1 HB.out)
                          clear HO_9
                          clear HB
                          have HO_9 := n0_
                          have HB := n1_
                          clear n0_ n1_
                          have p180 : 0 ≤ (x10_2 : Int) := of_decide_eq_true (by first | (with_reducible assumption) | assumption)
                          have q180 : x10_2 < (l0.length : Int) := of_decide_eq_true (by first | (with_reducible assumption) | assumption)
                          obtain ⟨ad180, A180_0, c180_0, e180, hx180_0, hl180_0, hi180_0⟩ := at_L3 HR0.out x10_2 p180 q180
                          have hw180_0 := hx180_0
                          cases e180
                          replace hx180_0 := (HB.out.cell (World.block_lt_of_cell? w _ hx180_0)).trans hx180_0
                          have HR180_0 := Aside0.mk hi180_0
                          have HC180_0 := Aside0.mk hl180_0
                          clear hi180_0 hl180_0
                          replace p180 := eq_true p180
                          replace q180 := eq_true q180
                          have p182 : 0 ≤ (x10_2 : Int) := of_decide_eq_true (by first | (with_reducible assumption) | assumption)
                          have q182 : x10_2 < (l1.length : Int) := of_decide_eq_true (by first | (with_reducible assumption) | assumption)
                          obtain ⟨ad182, A182_0, c182_0, e182, hx182_0, hl182_0, hi182_0⟩ := at_L3 HR1.out x10_2 p182 q182
                          have hw182_0 := hx182_0
                          cases e182
                          replace hx182_0 := (HB.out.cell (World.block_lt_of_cell? w _ hx182_0)).trans hx182_0
                          have HR182_0 := Aside0.mk hi182_0
                          have HC182_0 := Aside0.mk hl182_0
                          clear hi182_0 hl182_0
                          replace p182 := eq_true p182
                          replace q182 := eq_true q182
                          refine start_ (n := 13) (S := fun w' => w'.cell? (ad180.add (x10_2).toNat) = some (.slice A180_0 (rd_L3 l0 x10_2).length c180_0) ∧ w'.cell? (ad182.add (x10_2).toNat) = some (.slice A182_0 (rd_L3 l1 x10_2).length c182_0)) (ds := []) #[false, false, false, false, false, false, false, false, false, false, false, false, false] (by kernel_rfl) rfl rfl ⟨((HB.out.cell (World.block_lt_of_cell? w _ hw180_0)).trans hw180_0), ((HB.out.cell (World.block_lt_of_cell? w _ hw182_0)).trans hw182_0)⟩ (fun hHeld => ?_); refine with_tabW winklelaw12_HeaderBack.tab9 winklelaw12_HeaderBack.bits9 (fun HT_ HW_ => ?_)
                          generalize wc.drew = w17 at HO_9 HB HR180_0 HR182_0 hx180_0 hx182_0 hHeld ⊢
                          refine pure_ (i := 0) (N := some 38) (v := ?_) (a' := ?_) #[true, false, false, false, false, false, false, false, false, false, false, false, false] rfl rfl (any_of HT_.out (by kernel_rfl)) (fun _ _ _ h => h) (Or.inl ⟨by rfl, ?_⟩) ?_ ?_
                          rotate_left
                          · intro w'
                            go_simp
                            with_reducible rfl
                          rotate_left
                          · simp only [Act.put, List.setIfInBounds_toArray, List.set_cons_zero, List.set_cons_succ, i64_w, i32_w]
                            rfl
                          refine pure_ (i := 1) (N := some 39) (v := ?_) (a' := ?_) #[true, true, false, false, false, false, false, false, false, false, false, false, false] rfl rfl (any_of HT_.out (by kernel_rfl)) (fun _ _ _ h => h) (Or.inl ⟨by rfl, ?_⟩) ?_ ?_
                          rotate_left
                          · intro w'
                            go_simp
                            with_reducible rfl
                          rotate_left
                          · simp only [Act.put, List.setIfInBounds_toArray, List.set_cons_zero, List.set_cons_succ, i64_w, i32_w]
                            rfl
                          refine pure_ (i := 2) (N := some 40) (v := ?_) (a' := ?_) #[true, true, true, false, false, false, false, false, false, false, false, false, false] rfl rfl (any_of HT_.out (by kernel_rfl)) (fun _ _ _ h => h) (Or.inl ⟨by rfl, ?_⟩) ?_ ?_
                          rotate_left
                          · intro w'
                            go_simp
                            with_reducible rfl
                          rotate_left
                          · simp only [Act.put, List.setIfInBounds_toArray, List.set_cons_zero, List.set_cons_succ, i64_w, i32_w]
                            rfl
                          refine pure_ (i := 5) (N := some 43) (v := ?_) (a' := ?_) #[true, true, true, false, false, true, false, false, false, false, false, false, false] rfl rfl (any_of HT_.out (by kernel_rfl)) (fun _ _ _ h => h) (Or.inl ⟨by rfl, ?_⟩) ?_ ?_
                          rotate_left
                          · intro w'
                            go_simp
                            with_reducible rfl
                          rotate_left
                          · simp only [Act.put, List.setIfInBounds_toArray, List.set_cons_zero, List.set_cons_succ, i64_w, i32_w]
                            rfl
                          refine pure_ (i := 6) (N := some 44) (v := ?_) (a' := ?_) #[true, true, true, false, false, true, true, false, false, false, false, false, false] rfl rfl (any_of HT_.out (by kernel_rfl)) (fun _ _ _ h => h) (Or.inl ⟨by rfl, ?_⟩) ?_ ?_
                          rotate_left
                          · intro w'
                            go_simp
                            with_reducible rfl
                          rotate_left
                          · simp only [Act.put, List.setIfInBounds_toArray, List.set_cons_zero, List.set_cons_succ, i64_w, i32_w]
                            rfl
                          refine pure_ (i := 7) (N := some 45) (v := ?_) (a' := ?_) #[true, true, true, false, false, true, true, true, false, false, false, false, false] rfl rfl (any_of HT_.out (by kernel_rfl)) (fun _ _ _ h => h) (Or.inl ⟨by rfl, ?_⟩) ?_ ?_
                          rotate_left
                          · intro w'
                            go_simp
                            with_reducible rfl
                          rotate_left
                          · simp only [Act.put, List.setIfInBounds_toArray, List.set_cons_zero, List.set_cons_succ, i64_w, i32_w]
                            rfl
                          refine take_ (i := 3) (N := some 41) (v := ?_) (a' := ?_) #[true, true, true, true, false, true, true, true, false, false, false, false, false] rfl rfl (take_ofW HT_.out HW_.out (by kernel_rfl)) (fun _ _ _ h => h) (Or.inl ⟨by rfl, ?_⟩) hHeld ?_ ?_
                          rotate_left
                          · rintro w' ⟨s0, s1⟩
                            go_simp
                            with_reducible rfl
                          rotate_left
                          · simp only [Act.put, List.setIfInBounds_toArray, List.set_cons_zero, List.set_cons_succ, i64_w, i32_w]
                            rfl
                          refine take_ (i := 8) (N := some 46) (v := ?_) (a' := ?_) #[true, true, true, true, false, true, true, true, true, false, false, false, false] rfl rfl (take_ofW HT_.out HW_.out (by kernel_rfl)) (fun _ _ _ h => h) (Or.inl ⟨by rfl, ?_⟩) hHeld ?_ ?_
                          rotate_left
                          · rintro w' ⟨s0, s1⟩
                            go_simp
                            with_reducible rfl
                          rotate_left
                          · simp only [Act.put, List.setIfInBounds_toArray, List.set_cons_zero, List.set_cons_succ, i64_w, i32_w]
                            rfl
                          refine join_ (σ := Nat) 1 #[true, true, true, true, true, true, true, true, true, true, true, true, false] (fun s_ => [(42, .string t181), (47, .string t183), (11, .pointer (some ⟨s_, 0, none⟩)), (48, .agg #[.string t181, .string t183])]) (fun s_ w' => (w'.cell? (ad180.add (x10_2).toNat) = some (.slice A180_0 (rd_L3 l0 x10_2).length c180_0) ∧ w'.cell? (ad182.add (x10_2).toNat) = some (.slice A182_0 (rd_L3 l1 x10_2).length c182_0)) ∧ (Kd.R k42 42 w' w.heap.size (fun k_ => k_ ≠ s_) u9 x9_2) ∧ (w'.heap[s_]? = some (.cells #[.string (⟨#[]⟩ : ByteArray), .string (⟨#[]⟩ : ByteArray)] 42 (0, 0))) ∧ (w.heap.size ≤ s_) ∧ (w.heap.size ≤ s_) ∧ (Below w.heap.size w w')) ?_ ?_
                          rotate_left
                          · intro hCont
                            refine two_ (i := 4) (j := 11) (Ni := some 42) (Nj := some 11) #[true, true, true, true, true, true, true, true, true, false, false, false, false] #[true, true, true, true, false, true, true, true, true, false, false, true, false] rfl rfl rfl rfl (two_of HT_.out (by kernel_rfl)) (by decide) (by decide) (fun K hK => ?_) (fun K hK => ?_)
                            · skip
                              refine goes_ Try.func31 (by kernel_rfl) rfl #[.slice A180_0 (rd_L3 l0 x10_2).length c180_0] (by rfl) rfl rfl (by (try simp only [List.map_toArray, List.map_cons, List.map_nil]); first | done | rfl | (simp only [List.length_drop, List.length_take]; rfl)) ?_
                              with_reducible refine (winklelaw12_named.calls kj5 _ _ (rd_L3 l0 x10_2) t181 _ ?side1 ?side2 A12.out).mono ?_
                              (case side1 => repeat (first | exact (Kd.C_below HR180_0.out HB.out) | (with_reducible refine Kd.C_alloc ?_ _) | (with_reducible refine Kd.C_drewN ?_ _) | (with_reducible refine Kd.C_drew ?_)))
                              (case side2 => exact HC180_0.out)
                              rintro e w18 ⟨rfl, hb⟩
                              refine ⟨_, rfl, ?_⟩
                              have n0_ := Aside0.mk (Kd.R_below (by (with_reducible repeat (first | apply Kd.R_alloc | apply Kd.R_drewN | apply Kd.R_drew)); exact HO_9.out) hb)
                              have n1_ := Aside0.mk (below_step (by repeat (first | (with_reducible first | exact HB.out | apply below_alloc | apply pw_below_drewN | apply below_drew1) | exact HB.out)) hb)
                              clear HO_9
                              clear HB
                              have HO_9 := n0_
                              have HB := n1_
                              clear n0_ n1_
                              (try clear hb)
                              (try clear hb2)
                              (try clear hk)
                              (try clear hi)
                              refine hK.out _ _ ⟨((HB.out.cell (World.block_lt_of_cell? w _ hw180_0)).trans hw180_0), ((HB.out.cell (World.block_lt_of_cell? w _ hw182_0)).trans hw182_0)⟩ (fun hHeld => ?_)
                              clear hK K
                              refine norm_ (a' := ?_) ?_ ?_
                              rotate_left
                              · show Act.put _ (some 42) _ = _
                                simp only [Act.put, List.setIfInBounds_toArray, List.set_cons_zero, List.set_cons_succ, i64_w, i32_w]
                                rfl
                              refine two_ (i := 9) (j := 11) (Ni := some 47) (Nj := some 11) #[true, true, true, true, true, true, true, true, true, true, false, false, false] #[true, true, true, true, true, true, true, true, true, false, false, true, false] rfl rfl rfl rfl (two_of HT_.out (by kernel_rfl)) (by decide) (by decide) (fun K hK => ?_) (fun K hK => ?_)
                              · skip
                                refine goes_ Try.func32 (by kernel_rfl) rfl #[.slice A182_0 (rd_L3 l1 x10_2).length c182_0] (by rfl) rfl rfl (by (try simp only [List.map_toArray, List.map_cons, List.map_nil]); first | done | rfl | (simp only [List.length_drop, List.length_take]; rfl)) ?_
                                with_reducible refine (winklelaw12_valued.calls kj5 _ _ (rd_L3 l1 x10_2) t183 _ ?side1 ?side2 A14.out).mono ?_
                                (case side1 => repeat (first | exact (Kd.C_below HR182_0.out HB.out) | (with_reducible refine Kd.C_alloc ?_ _) | (with_reducible refine Kd.C_drewN ?_ _) | (with_reducible refine Kd.C_drew ?_)))
                                (case side2 => exact HC182_0.out)
                                rintro e w19 ⟨rfl, hb⟩
                                refine ⟨_, rfl, ?_⟩
                                have n0_ := Aside0.mk (Kd.R_below (by (with_reducible repeat (first | apply Kd.R_alloc | apply Kd.R_drewN | apply Kd.R_drew)); exact HO_9.out) hb)
                                have n1_ := Aside0.mk (below_step (by repeat (first | (with_reducible first | exact HB.out | apply below_alloc | apply pw_below_drewN | apply below_drew1) | exact HB.out)) hb)
                                clear HO_9
                                clear HB
                                have HO_9 := n0_
                                have HB := n1_
                                clear n0_ n1_
                                (try clear hb)
                                (try clear hb2)
                                (try clear hk)
                                (try clear hi)
                                refine hK.out _ _ ⟨((HB.out.cell (World.block_lt_of_cell? w _ hw180_0)).trans hw180_0), ((HB.out.cell (World.block_lt_of_cell? w _ hw182_0)).trans hw182_0)⟩ (fun hHeld => ?_)
                                clear hK K
                                refine norm_ (a' := ?_) ?_ ?_
                                rotate_left
                                · show Act.put _ (some 47) _ = _
                                  simp only [Act.put, List.setIfInBounds_toArray, List.set_cons_zero, List.set_cons_succ, i64_w, i32_w]
                                  rfl
                                refine pure_ (i := 10) (N := some 48) (v := ?_) (a' := ?_) #[true, true, true, true, true, true, true, true, true, true, true, false, false] rfl rfl (any_of HT_.out (by kernel_rfl)) (fun _ _ _ h => h) (Or.inl ⟨by rfl, ?_⟩) ?_ ?_
                                rotate_left
                                · intro w'
                                  go_simp
                                  with_reducible rfl
                                rotate_left
                                · simp only [Act.put, List.setIfInBounds_toArray, List.set_cons_zero, List.set_cons_succ, i64_w, i32_w]
                                  rfl
                                refine one_ (i := 11) (N := some 11) #[true, true, true, true, true, true, true, true, true, true, true, true, false] rfl rfl (one_of HT_.out (by kernel_rfl)) (by decide) (fun K hK => ?_)
                                refine box_step ?hg (N := 11) ?hd (cs := #[.string (⟨#[]⟩ : ByteArray), .string (⟨#[]⟩ : ByteArray)]) (t := 42) ?hr ?_; (case hd => rfl); (case hg => rfl); (case hr => first | (go_simp; done) | (go_simp; rfl))
                                intro gb184 hg w20 hbox hb
                                have n0_ := Aside0.mk (Kd.R_below (Kd.R_elderB (by (with_reducible repeat (first | apply Kd.R_alloc | apply Kd.R_drewN | apply Kd.R_drew)); exact HO_9.out) gb184 (Nat.le_of_eq hg.symm)) hb)
                                have n1_ := Aside0.mk (below_step (by repeat (first | (with_reducible first | exact HB.out | apply below_alloc | apply pw_below_drewN | apply below_drew1) | exact HB.out)) hb)
                                have n2_ := Aside0.mk (hbox)
                                have n3_ := Aside0.mk ((by rw [hg]; exact (below_size (by repeat (first | (with_reducible first | exact HB.out | apply below_alloc | apply pw_below_drewN | apply below_drew1) | exact HB.out))) : w.heap.size ≤ gb184))
                                have n4_ := Aside0.mk ((by rw [hg]; exact (below_size (by repeat (first | (with_reducible first | exact HB.out | apply below_alloc | apply pw_below_drewN | apply below_drew1) | exact HB.out))) : w.heap.size ≤ gb184))
                                clear HO_9
                                clear HB
                                have HO_9 := n0_
                                have HB := n1_
                                have BK184 := n2_
                                have GW184 := n3_
                                have GE184 := n4_
                                clear n0_ n1_ n2_ n3_ n4_
                                clear hb hbox hg
                                refine hK.out _ _ ⟨((HB.out.cell (World.block_lt_of_cell? w _ hw180_0)).trans hw180_0), ((HB.out.cell (World.block_lt_of_cell? w _ hw182_0)).trans hw182_0)⟩ (fun hHeld => ?_)
                                clear hK K
                                refine norm_ (a' := ?_) ?_ ?_
                                rotate_left
                                · show Act.put _ (some 11) _ = _
                                  simp only [Act.put, List.setIfInBounds_toArray, List.set_cons_zero, List.set_cons_succ, i64_w, i32_w]
                                  rfl
                                exact norm_ (by simp only [putAll, Act.put, List.setIfInBounds_toArray, List.set_cons_zero, List.set_cons_succ]) (hCont (gb184) _ ⟨hHeld, (by (with_reducible repeat (first | apply Kd.R_alloc | apply Kd.R_drewN | apply Kd.R_drew)); exact Kd.R_mono HO_9.out (fun _ hk => hk.2)), (by (with_reducible repeat (first | refine blk_drewN ?_ _ | refine blk_drew ?_ | refine blk_alloc ?_ _)); exact BK184.out), GW184.out, GE184.out, (by repeat (first | (with_reducible first | exact HB.out | apply below_alloc | apply pw_below_drewN | apply below_drew1 | refine below_set ?_ GE184.out) | exact HB.out))⟩)
                              · skip
                                refine box_step ?hg (N := 11) ?hd (cs := #[.string (⟨#[]⟩ : ByteArray), .string (⟨#[]⟩ : ByteArray)]) (t := 42) ?hr ?_; (case hd => rfl); (case hg => rfl); (case hr => first | (go_simp; done) | (go_simp; rfl))
                                intro gb184 hg w19 hbox hb
                                have n0_ := Aside0.mk (Kd.R_below (Kd.R_elderB (by (with_reducible repeat (first | apply Kd.R_alloc | apply Kd.R_drewN | apply Kd.R_drew)); exact HO_9.out) gb184 (Nat.le_of_eq hg.symm)) hb)
                                have n1_ := Aside0.mk (below_step (by repeat (first | (with_reducible first | exact HB.out | apply below_alloc | apply pw_below_drewN | apply below_drew1) | exact HB.out)) hb)
                                have n2_ := Aside0.mk (hbox)
                                have n3_ := Aside0.mk ((by rw [hg]; exact (below_size (by repeat (first | (with_reducible first | exact HB.out | apply below_alloc | apply pw_below_drewN | apply below_drew1) | exact HB.out))) : w.heap.size ≤ gb184))
                                have n4_ := Aside0.mk ((by rw [hg]; exact (below_size (by repeat (first | (with_reducible first | exact HB.out | apply below_alloc | apply pw_below_drewN | apply below_drew1) | exact HB.out))) : w.heap.size ≤ gb184))
                                clear HO_9
                                clear HB
                                have HO_9 := n0_
                                have HB := n1_
                                have BK184 := n2_
                                have GW184 := n3_
                                have GE184 := n4_
                                clear n0_ n1_ n2_ n3_ n4_
                                clear hb hbox hg
                                refine hK.out _ _ ⟨((HB.out.cell (World.block_lt_of_cell? w _ hw180_0)).trans hw180_0), ((HB.out.cell (World.block_lt_of_cell? w _ hw182_0)).trans hw182_0)⟩ (fun hHeld => ?_)
                                clear hK K
                                refine norm_ (a' := ?_) ?_ ?_
                                rotate_left
                                · show Act.put _ (some 11) _ = _
                                  simp only [Act.put, List.setIfInBounds_toArray, List.set_cons_zero, List.set_cons_succ, i64_w, i32_w]
                                  rfl
                                refine one_ (i := 9) (N := some 47) #[true, true, true, true, true, true, true, true, true, true, false, true, false] rfl rfl (one_of HT_.out (by kernel_rfl)) (by decide) (fun K hK => ?_)
                                refine goes_ Try.func32 (by kernel_rfl) rfl #[.slice A182_0 (rd_L3 l1 x10_2).length c182_0] (by rfl) rfl rfl (by (try simp only [List.map_toArray, List.map_cons, List.map_nil]); first | done | rfl | (simp only [List.length_drop, List.length_take]; rfl)) ?_
                                with_reducible refine (winklelaw12_valued.calls kj5 _ _ (rd_L3 l1 x10_2) t183 _ ?side1 ?side2 A14.out).mono ?_
                                (case side1 => repeat (first | exact (Kd.C_below HR182_0.out HB.out) | (with_reducible refine Kd.C_alloc ?_ _) | (with_reducible refine Kd.C_drewN ?_ _) | (with_reducible refine Kd.C_drew ?_)))
                                (case side2 => exact HC182_0.out)
                                rintro e w20 ⟨rfl, hb⟩
                                refine ⟨_, rfl, ?_⟩
                                have n0_ := Aside0.mk (Kd.R_below (by (with_reducible repeat (first | apply Kd.R_alloc | apply Kd.R_drewN | apply Kd.R_drew)); exact HO_9.out) hb)
                                have n1_ := Aside0.mk (blk_below (g := gb184) (o := .cells #[.string (⟨#[]⟩ : ByteArray), .string (⟨#[]⟩ : ByteArray)] 42 (0, 0)) (by (with_reducible repeat (first | refine blk_drewN ?_ _ | refine blk_drew ?_ | refine blk_alloc ?_ _)); exact BK184.out) hb)
                                have n2_ := Aside0.mk (below_step (by repeat (first | (with_reducible first | exact HB.out | apply below_alloc | apply pw_below_drewN | apply below_drew1 | refine below_set ?_ GE184.out) | exact HB.out)) hb)
                                clear HO_9
                                clear BK184
                                clear HB
                                have HO_9 := n0_
                                have BK184 := n1_
                                have HB := n2_
                                clear n0_ n1_ n2_
                                (try clear hb)
                                (try clear hb2)
                                (try clear hk)
                                (try clear hi)
                                refine hK.out _ _ ⟨((HB.out.cell (World.block_lt_of_cell? w _ hw180_0)).trans hw180_0), ((HB.out.cell (World.block_lt_of_cell? w _ hw182_0)).trans hw182_0)⟩ (fun hHeld => ?_)
                                clear hK K
                                refine norm_ (a' := ?_) ?_ ?_
                                rotate_left
                                · show Act.put _ (some 47) _ = _
                                  simp only [Act.put, List.setIfInBounds_toArray, List.set_cons_zero, List.set_cons_succ, i64_w, i32_w]
                                  rfl
                                refine pure_ (i := 10) (N := some 48) (v := ?_) (a' := ?_) #[true, true, true, true, true, true, true, true, true, true, true, true, false] rfl rfl (any_of HT_.out (by kernel_rfl)) (fun _ _ _ h => h) (Or.inl ⟨by rfl, ?_⟩) ?_ ?_
                                rotate_left
                                · intro w'
                                  go_simp
                                  with_reducible rfl
                                rotate_left
                                · simp only [Act.put, List.setIfInBounds_toArray, List.set_cons_zero, List.set_cons_succ, i64_w, i32_w]
                                  rfl
                                exact norm_ (by simp only [putAll, Act.put, List.setIfInBounds_toArray, List.set_cons_zero, List.set_cons_succ]) (hCont (gb184) _ ⟨hHeld, (by (with_reducible repeat (first | apply Kd.R_alloc | apply Kd.R_drewN | apply Kd.R_drew)); exact Kd.R_mono HO_9.out (fun _ hk => hk.2)), (by (with_reducible repeat (first | refine blk_drewN ?_ _ | refine blk_drew ?_ | refine blk_alloc ?_ _)); exact BK184.out), GW184.out, GE184.out, (by repeat (first | (with_reducible first | exact HB.out | apply below_alloc | apply pw_below_drewN | apply below_drew1 | refine below_set ?_ GE184.out) | exact HB.out))⟩)
                            · skip
                              refine box_step ?hg (N := 11) ?hd (cs := #[.string (⟨#[]⟩ : ByteArray), .string (⟨#[]⟩ : ByteArray)]) (t := 42) ?hr ?_; (case hd => rfl); (case hg => rfl); (case hr => first | (go_simp; done) | (go_simp; rfl))
                              intro gb184 hg w18 hbox hb
                              have n0_ := Aside0.mk (Kd.R_below (Kd.R_elderB (by (with_reducible repeat (first | apply Kd.R_alloc | apply Kd.R_drewN | apply Kd.R_drew)); exact HO_9.out) gb184 (Nat.le_of_eq hg.symm)) hb)
                              have n1_ := Aside0.mk (below_step (by repeat (first | (with_reducible first | exact HB.out | apply below_alloc | apply pw_below_drewN | apply below_drew1) | exact HB.out)) hb)
                              have n2_ := Aside0.mk (hbox)
                              have n3_ := Aside0.mk ((by rw [hg]; exact (below_size (by repeat (first | (with_reducible first | exact HB.out | apply below_alloc | apply pw_below_drewN | apply below_drew1) | exact HB.out))) : w.heap.size ≤ gb184))
                              have n4_ := Aside0.mk ((by rw [hg]; exact (below_size (by repeat (first | (with_reducible first | exact HB.out | apply below_alloc | apply pw_below_drewN | apply below_drew1) | exact HB.out))) : w.heap.size ≤ gb184))
                              clear HO_9
                              clear HB
                              have HO_9 := n0_
                              have HB := n1_
                              have BK184 := n2_
                              have GW184 := n3_
                              have GE184 := n4_
                              clear n0_ n1_ n2_ n3_ n4_
                              clear hb hbox hg
                              refine hK.out _ _ ⟨((HB.out.cell (World.block_lt_of_cell? w _ hw180_0)).trans hw180_0), ((HB.out.cell (World.block_lt_of_cell? w _ hw182_0)).trans hw182_0)⟩ (fun hHeld => ?_)
                              clear hK K
                              refine norm_ (a' := ?_) ?_ ?_
                              rotate_left
                              · show Act.put _ (some 11) _ = _
                                simp only [Act.put, List.setIfInBounds_toArray, List.set_cons_zero, List.set_cons_succ, i64_w, i32_w]
                                rfl
                              refine one_ (i := 4) (N := some 42) #[true, true, true, true, true, true, true, true, true, false, false, true, false] rfl rfl (one_of HT_.out (by kernel_rfl)) (by decide) (fun K hK => ?_)
                              refine goes_ Try.func31 (by kernel_rfl) rfl #[.slice A180_0 (rd_L3 l0 x10_2).length c180_0] (by rfl) rfl rfl (by (try simp only [List.map_toArray, List.map_cons, List.map_nil]); first | done | rfl | (simp only [List.length_drop, List.length_take]; rfl)) ?_
                              with_reducible refine (winklelaw12_named.calls kj5 _ _ (rd_L3 l0 x10_2) t181 _ ?side1 ?side2 A12.out).mono ?_
                              (case side1 => repeat (first | exact (Kd.C_below HR180_0.out HB.out) | (with_reducible refine Kd.C_alloc ?_ _) | (with_reducible refine Kd.C_drewN ?_ _) | (with_reducible refine Kd.C_drew ?_)))
                              (case side2 => exact HC180_0.out)
                              rintro e w19 ⟨rfl, hb⟩
                              refine ⟨_, rfl, ?_⟩
                              have n0_ := Aside0.mk (Kd.R_below (by (with_reducible repeat (first | apply Kd.R_alloc | apply Kd.R_drewN | apply Kd.R_drew)); exact HO_9.out) hb)
                              have n1_ := Aside0.mk (blk_below (g := gb184) (o := .cells #[.string (⟨#[]⟩ : ByteArray), .string (⟨#[]⟩ : ByteArray)] 42 (0, 0)) (by (with_reducible repeat (first | refine blk_drewN ?_ _ | refine blk_drew ?_ | refine blk_alloc ?_ _)); exact BK184.out) hb)
                              have n2_ := Aside0.mk (below_step (by repeat (first | (with_reducible first | exact HB.out | apply below_alloc | apply pw_below_drewN | apply below_drew1 | refine below_set ?_ GE184.out) | exact HB.out)) hb)
                              clear HO_9
                              clear BK184
                              clear HB
                              have HO_9 := n0_
                              have BK184 := n1_
                              have HB := n2_
                              clear n0_ n1_ n2_
                              (try clear hb)
                              (try clear hb2)
                              (try clear hk)
                              (try clear hi)
                              refine hK.out _ _ ⟨((HB.out.cell (World.block_lt_of_cell? w _ hw180_0)).trans hw180_0), ((HB.out.cell (World.block_lt_of_cell? w _ hw182_0)).trans hw182_0)⟩ (fun hHeld => ?_)
                              clear hK K
                              refine norm_ (a' := ?_) ?_ ?_
                              rotate_left
                              · show Act.put _ (some 42) _ = _
                                simp only [Act.put, List.setIfInBounds_toArray, List.set_cons_zero, List.set_cons_succ, i64_w, i32_w]
                                rfl
                              refine one_ (i := 9) (N := some 47) #[true, true, true, true, true, true, true, true, true, true, false, true, false] rfl rfl (one_of HT_.out (by kernel_rfl)) (by decide) (fun K hK => ?_)
                              refine goes_ Try.func32 (by kernel_rfl) rfl #[.slice A182_0 (rd_L3 l1 x10_2).length c182_0] (by rfl) rfl rfl (by (try simp only [List.map_toArray, List.map_cons, List.map_nil]); first | done | rfl | (simp only [List.length_drop, List.length_take]; rfl)) ?_
                              with_reducible refine (winklelaw12_valued.calls kj5 _ _ (rd_L3 l1 x10_2) t183 _ ?side1 ?side2 A14.out).mono ?_
                              (case side1 => repeat (first | exact (Kd.C_below HR182_0.out HB.out) | (with_reducible refine Kd.C_alloc ?_ _) | (with_reducible refine Kd.C_drewN ?_ _) | (with_reducible refine Kd.C_drew ?_)))
                              (case side2 => exact HC182_0.out)
                              rintro e w20 ⟨rfl, hb⟩
                              refine ⟨_, rfl, ?_⟩
                              have n0_ := Aside0.mk (Kd.R_below (by (with_reducible repeat (first | apply Kd.R_alloc | apply Kd.R_drewN | apply Kd.R_drew)); exact HO_9.out) hb)
                              have n1_ := Aside0.mk (blk_below (g := gb184) (o := .cells #[.string (⟨#[]⟩ : ByteArray), .string (⟨#[]⟩ : ByteArray)] 42 (0, 0)) (by (with_reducible repeat (first | refine blk_drewN ?_ _ | refine blk_drew ?_ | refine blk_alloc ?_ _)); exact BK184.out) hb)
                              have n2_ := Aside0.mk (below_step (by repeat (first | (with_reducible first | exact HB.out | apply below_alloc | apply pw_below_drewN | apply below_drew1 | refine below_set ?_ GE184.out) | exact HB.out)) hb)
                              clear HO_9
                              clear BK184
                              clear HB
                              have HO_9 := n0_
                              have BK184 := n1_
                              have HB := n2_
                              clear n0_ n1_ n2_
                              (try clear hb)
                              (try clear hb2)
                              (try clear hk)
                              (try clear hi)
                              refine hK.out _ _ ⟨((HB.out.cell (World.block_lt_of_cell? w _ hw180_0)).trans hw180_0), ((HB.out.cell (World.block_lt_of_cell? w _ hw182_0)).trans hw182_0)⟩ (fun hHeld => ?_)
                              clear hK K
                              refine norm_ (a' := ?_) ?_ ?_
                              rotate_left
                              · show Act.put _ (some 47) _ = _
                                simp only [Act.put, List.setIfInBounds_toArray, List.set_cons_zero, List.set_cons_succ, i64_w, i32_w]
                                rfl
                              refine pure_ (i := 10) (N := some 48) (v := ?_) (a' := ?_) #[true, true, true, true, true, true, true, true, true, true, true, true, false] rfl rfl (any_of HT_.out (by kernel_rfl)) (fun _ _ _ h => h) (Or.inl ⟨by rfl, ?_⟩) ?_ ?_
                              rotate_left
                              · intro w'
                                go_simp
                                with_reducible rfl
                              rotate_left
                              · simp only [Act.put, List.setIfInBounds_toArray, List.set_cons_zero, List.set_cons_succ, i64_w, i32_w]
                                rfl
                              exact norm_ (by simp only [putAll, Act.put, List.setIfInBounds_toArray, List.set_cons_zero, List.set_cons_succ]) (hCont (gb184) _ ⟨hHeld, (by (with_reducible repeat (first | apply Kd.R_alloc | apply Kd.R_drewN | apply Kd.R_drew)); exact Kd.R_mono HO_9.out (fun _ hk => hk.2)), (by (with_reducible repeat (first | refine blk_drewN ?_ _ | refine blk_drew ?_ | refine blk_alloc ?_ _)); exact BK184.out), GW184.out, GE184.out, (by repeat (first | (with_reducible first | exact HB.out | apply below_alloc | apply pw_below_drewN | apply below_drew1 | refine below_set ?_ GE184.out) | exact HB.out))⟩)
                          rintro gb184 w21 ⟨hS_, h0_, h1_, h2_, h3_, h4_⟩
                          have n0_ : Aside0 (Kd.R k42 42 w21 w.heap.size (fun k_ => k_ ≠ gb184) u9 x9_2) := ⟨h0_⟩
                          have n1_ : Aside0 (w21.heap[gb184]? = some (.cells #[.string (⟨#[]⟩ : ByteArray), .string (⟨#[]⟩ : ByteArray)] 42 (0, 0))) := ⟨h1_⟩
                          have n2_ : Aside0 (w.heap.size ≤ gb184) := ⟨h2_⟩
                          have n3_ : Aside0 (w.heap.size ≤ gb184) := ⟨h3_⟩
                          have n4_ : Aside0 (Below w.heap.size w w21) := ⟨h4_⟩
                          clear HO_9
                          clear HB
                          clear h0_ h1_ h2_ h3_ h4_
                          have HO_9 := n0_
                          have BK184 := n1_
                          have GW184 := n2_
                          have GE184 := n3_
                          have HB := n4_
                          clear n0_ n1_ n2_ n3_ n4_
                          have hHeld : w21.cell? (ad180.add (x10_2).toNat) = some (.slice A180_0 (rd_L3 l0 x10_2).length c180_0) ∧ w21.cell? (ad182.add (x10_2).toNat) = some (.slice A182_0 (rd_L3 l1 x10_2).length c182_0) := hS_
                          refine norm_ (a' := ?_) ?_ ?_
                          rotate_left
                          · simp only [putAll, Act.put, List.setIfInBounds_toArray, List.set_cons_zero, List.set_cons_succ]
                            rfl
                          refine one_ (i := 12) (N := none) #[true, true, true, true, true, true, true, true, true, true, true, true, true] rfl rfl (one_of HT_.out (by kernel_rfl)) (by decide) (fun K hK => ?_)
                          have hs22 : w21.cell? ⟨gb184, 0, none⟩ = some (.string (⟨#[]⟩ : ByteArray)) := (blk_cell BK184.out 0).trans rfl
                          have hfs22 := blk_frozen BK184.out 0
                          have hs23 : w21.cell? ⟨gb184, 1, none⟩ = some (.string (⟨#[]⟩ : ByteArray)) := (blk_cell BK184.out 1).trans rfl
                          have hfs23 := blk_frozen BK184.out 1
                          refine skip_ (w1 := ?_) (by rfl) rfl ?_ ?_
                          rotate_left
                          · go_simp
                            rfl
                          refine hK.out _ _ ⟨((cell_far (p := ⟨gb184, _, none⟩) (by first | exact Nat.ne_of_lt (Nat.lt_of_lt_of_le (by have := World.block_lt_of_cell? _ _ hw180_0; first | rwa [add_block] at this | exact this) GW184.out) | (rw [add_block]; exact Nat.ne_of_lt (Nat.lt_of_lt_of_le (by have := World.block_lt_of_cell? _ _ hw180_0; first | rwa [add_block] at this | exact this) GW184.out)) | (show (Addr.add _ _).block ≠ _; rw [add_block]; exact Nat.ne_of_lt (Nat.lt_of_lt_of_le (by have := World.block_lt_of_cell? _ _ hw180_0; first | rwa [add_block] at this | exact this) GW184.out)) | (dsimp only; exact Nat.ne_of_lt (Nat.lt_of_lt_of_le (by have := World.block_lt_of_cell? _ _ hw180_0; first | rwa [add_block] at this | exact this) GW184.out))) _).trans (((cell_far (p := ⟨gb184, _, none⟩) (by first | exact Nat.ne_of_lt (Nat.lt_of_lt_of_le (by have := World.block_lt_of_cell? _ _ hw180_0; first | rwa [add_block] at this | exact this) GW184.out) | (rw [add_block]; exact Nat.ne_of_lt (Nat.lt_of_lt_of_le (by have := World.block_lt_of_cell? _ _ hw180_0; first | rwa [add_block] at this | exact this) GW184.out)) | (show (Addr.add _ _).block ≠ _; rw [add_block]; exact Nat.ne_of_lt (Nat.lt_of_lt_of_le (by have := World.block_lt_of_cell? _ _ hw180_0; first | rwa [add_block] at this | exact this) GW184.out)) | (dsimp only; exact Nat.ne_of_lt (Nat.lt_of_lt_of_le (by have := World.block_lt_of_cell? _ _ hw180_0; first | rwa [add_block] at this | exact this) GW184.out))) _).trans (hHeld.1)))), ((cell_far (p := ⟨gb184, _, none⟩) (by first | exact Nat.ne_of_lt (Nat.lt_of_lt_of_le (by have := World.block_lt_of_cell? _ _ hw182_0; first | rwa [add_block] at this | exact this) GW184.out) | (rw [add_block]; exact Nat.ne_of_lt (Nat.lt_of_lt_of_le (by have := World.block_lt_of_cell? _ _ hw182_0; first | rwa [add_block] at this | exact this) GW184.out)) | (show (Addr.add _ _).block ≠ _; rw [add_block]; exact Nat.ne_of_lt (Nat.lt_of_lt_of_le (by have := World.block_lt_of_cell? _ _ hw182_0; first | rwa [add_block] at this | exact this) GW184.out)) | (dsimp only; exact Nat.ne_of_lt (Nat.lt_of_lt_of_le (by have := World.block_lt_of_cell? _ _ hw182_0; first | rwa [add_block] at this | exact this) GW184.out))) _).trans (((cell_far (p := ⟨gb184, _, none⟩) (by first | exact Nat.ne_of_lt (Nat.lt_of_lt_of_le (by have := World.block_lt_of_cell? _ _ hw182_0; first | rwa [add_block] at this | exact this) GW184.out) | (rw [add_block]; exact Nat.ne_of_lt (Nat.lt_of_lt_of_le (by have := World.block_lt_of_cell? _ _ hw182_0; first | rwa [add_block] at this | exact this) GW184.out)) | (show (Addr.add _ _).block ≠ _; rw [add_block]; exact Nat.ne_of_lt (Nat.lt_of_lt_of_le (by have := World.block_lt_of_cell? _ _ hw182_0; first | rwa [add_block] at this | exact this) GW184.out)) | (dsimp only; exact Nat.ne_of_lt (Nat.lt_of_lt_of_le (by have := World.block_lt_of_cell? _ _ hw182_0; first | rwa [add_block] at this | exact this) GW184.out))) _).trans (hHeld.2))))⟩ (fun hHeld => ?_)
                          clear hK K
                          refine done_ (done_of HT_.out (by kernel_rfl)) ?_
                          have hcz24_0 : w21.cell? ⟨gb184, 0, none⟩ = some (.string (⟨#[]⟩ : ByteArray)) := (blk_cell BK184.out 0).trans rfl
                          have hcz24_1 : w21.cell? ⟨gb184, 1, none⟩ = some (.string (⟨#[]⟩ : ByteArray)) := (blk_cell BK184.out 1).trans rfl
                          have hfz24_0 := blk_frozen BK184.out 0
                          have hfz24_1 := blk_frozen BK184.out 1
                          try go_wp2_with (first | ((with_reducible refine gate_builtin (b := .append) (xs := #[.tmp 49, .tmp 51]) rfl ?_); (try (refine gate_guard (by rfl) ?_; dsimp only)); at_builtin; refine Kd.R_append k42 (w0 := w) w.heap.size rfl (.tmp 49) (.tmp 51) 23 42 (.agg #[(.string ⟨#[]⟩), (.string ⟨#[]⟩)]) 32 rfl Try.underlying23 info42 rfl (by decide) (by omega) u9 x9_2 (⟨t181, t183⟩ : S42) [.string t181, .string t183] (fun k_ => k_ ≠ gb184) (fun _ => False) rfl (by first | (go_simp; done) | (go_simp; rfl)) ?aP (fun _ hk => hk.elim) ?aF ?aO ?aB ?aS ?aL ?_; (case aP => exact k42_mkM _ _ _ (⟨t181, t183⟩ : S42)); (case aB => exact (by repeat (first | (with_reducible first | exact HB.out | apply below_alloc | apply pw_below_drewN | apply below_drew1 | refine below_set ?_ GE184.out) | exact HB.out))); (case aF => exact (fun k_ hk => Kd.freshB (g := gb184) (o := .cells #[.string t181, .string t183] 42 (0, 0)) (by (with_reducible repeat (first | refine blk_drewN ?_ _ | refine blk_drew ?_ | refine blk_alloc ?_ _)); refine blk_put (cs := #[.string t181, .string (⟨#[]⟩ : ByteArray)]) ?_ 1 _ rfl; (with_reducible repeat (first | refine blk_drewN ?_ _ | refine blk_drew ?_ | refine blk_alloc ?_ _)); refine blk_put (cs := #[.string (⟨#[]⟩ : ByteArray), .string (⟨#[]⟩ : ByteArray)]) ?_ 0 _ rfl; (with_reducible repeat (first | refine blk_drewN ?_ _ | refine blk_drew ?_ | refine blk_alloc ?_ _)); exact BK184.out) k_ hk)); (case aO => exact (by (with_reducible repeat (first | apply Kd.R_alloc | apply Kd.R_drewN | apply Kd.R_drew)); exact Kd.R_mono (Kd.R_far (p := ⟨gb184, 1, none⟩) (Kd.R_far (p := ⟨gb184, 0, none⟩) (Kd.R_mono HO_9.out (fun k_ hk => (⟨hk, hk⟩ : _ ∧ k_ ≠ gb184))) (fun _ hk => hk.2) (.string t181)) (fun _ hk => hk.2) (.string t183)) (fun _ hk => hk.1))); (case aS => exact (below_size (by repeat (first | (with_reducible first | exact HB.out | apply below_alloc | apply pw_below_drewN | apply below_drew1 | refine below_set ?_ GE184.out) | exact HB.out)))); (case aL => have := LMc15.out; omega); intro v186 w25 ho hb hg hat; rw [← Ny185.out] at ho; have n0_ := Aside0.mk (blk_grown (g := gb184) (o := .cells #[.string t181, .string t183] 42 (0, 0)) (by (with_reducible repeat (first | refine blk_drewN ?_ _ | refine blk_drew ?_ | refine blk_alloc ?_ _)); refine blk_put (cs := #[.string t181, .string (⟨#[]⟩ : ByteArray)]) ?_ 1 _ rfl; (with_reducible repeat (first | refine blk_drewN ?_ _ | refine blk_drew ?_ | refine blk_alloc ?_ _)); refine blk_put (cs := #[.string (⟨#[]⟩ : ByteArray), .string (⟨#[]⟩ : ByteArray)]) ?_ 0 _ rfl; (with_reducible repeat (first | refine blk_drewN ?_ _ | refine blk_drew ?_ | refine blk_alloc ?_ _)); exact BK184.out) hg (Kd.R_away HO_9.out (fun _ hk => hk))); have n1_ := Aside0.mk (hb); have n2_ := Aside0.mk (ho); clear BK184; clear HB; clear HO_9; have BK184 := n0_; have HB := n1_; have HO187 := n2_; clear n0_ n1_ n2_; clear ho hb hg hat; have hcz26_0 : w25.cell? ⟨gb184, 0, none⟩ = some (.string t181) := (blk_cell BK184.out 0).trans rfl; have hcz26_1 : w25.cell? ⟨gb184, 1, none⟩ = some (.string t183) := (blk_cell BK184.out 1).trans rfl; have hfz26_0 := blk_frozen BK184.out 0; have hfz26_1 := blk_frozen BK184.out 1))
                          go_loopg [13, 14] kj5 (fun kq v13 v14 w' => ∃ (x13_4 : ByteArray) (x14_4 : Int), v13 = .string x13_4 ∧ v14 = .int .i64 x14_4 ∧ Aside0 (winklelaw12_HeaderBack.l1 kq l0 l1 a2 x7_3 x8_2 y185 x10_2 t183 x13_4 x14_4 t181 t183 = some r) ∧ Aside0 (kq ≤ kj5) ∧ Aside0 (Kd.R k42 42 w' w.heap.size (fun k_ => k_ ≠ gb184) v186 y185) ∧ Aside0 (w'.heap[gb184]? = some (.cells #[.string t181, .string t183] 42 (0, 0))) ∧ Aside0 (Below w.heap.size w w'))
                          case atStart => exact ⟨((⟨#[]⟩ : ByteArray)), (0), (by first | rfl | (simp; done) | (simp [*]; done) | (simp [isEmpty_bne]; done)), (by first | rfl | (simp; done) | (simp [*]; done) | (simp [isEmpty_bne]; done)), H', ⟨Nat.le_refl _⟩, ⟨by (with_reducible repeat (first | apply Kd.R_alloc | apply Kd.R_drewN | apply Kd.R_drew)); exact HO187.out⟩, ⟨by (with_reducible repeat (first | refine blk_drewN ?_ _ | refine blk_drew ?_ | refine blk_alloc ?_ _)); exact BK184.out⟩, ⟨by repeat (first | (with_reducible first | exact HB.out | apply below_alloc | apply pw_below_drewN | apply below_drew1 | refine below_set ?_ GE184.out) | exact HB.out)⟩⟩
                          case round =>
                            clear H'
                            try clear c1
                            try clear p1
                            try clear q1
                            try clear hx1
                            try clear p2
                            try clear c3
                            try clear c5
                            try clear c5b0
                            try clear c5b1
                            try clear p6
                            try clear c7
                            try clear c7b0
                            try clear c8
                            try clear c8b0
                            try clear c9
                            try clear c10
                            try clear c10b0
                            try clear c11
                            try clear c11b0
                            try clear c13
                            try clear c13b0
                            try clear c15
                            try clear c16
                            try clear c16b0
                            try clear c18
                            try clear p18
                            try clear q18
                            try clear hx18
                            try clear hcz24_0
                            try clear hcz24_1
                            try clear hcz26_0
                            try clear hcz26_1
                            try clear hfz24_0
                            try clear hfz24_1
                            try clear hfz26_0
                            try clear hfz26_1
                            try clear hx180_0
                            try clear hx182_0
                            try clear p180
                            try clear p182
                            try clear p2
                            try clear q180
                            try clear q182
                            obtain ⟨x13_4, x14_4, rfl, rfl, HA, HK4, HO_9, BK184, HB⟩ := hrel
                            cases gk with
                            | zero => exact absurd HA.out (by simp [winklelaw12_HeaderBack.l1])
                            | succ k4 =>
                              have H := HA.out
                              clear HA
                              simp only [winklelaw12_HeaderBack.l1] at H
                              by_cases c27 : x14_4 < (t183.size : Int)
                              · rw [if_pos c27] at H
                                have c27b0 : decide (x14_4 < (t183.size : Int)) = true := decide_eq_true c27
                                clear c27
                                by_cases c28 : x14_4 > 0
                                · rw [if_pos c28] at H
                                  have c28b0 : decide (0 < x14_4) = true := decide_eq_true c28
                                  clear c28
                                  by_cases c29 : 0 ≤ x14_4
                                  · rw [if_pos c29] at H
                                    have c29b0 : decide (0 ≤ x14_4) = true := decide_eq_true c29
                                    clear c29
                                    by_cases c31 : (bt t183 x14_4) = 32
                                    · rw [if_pos c31] at H
                                      have c31b0 : ((bt t183 x14_4) == 32) = true := beq_iff_eq.mpr c31
                                      have c31b1 : ((bt t183 x14_4) != 32) = false := bne_eq_false_iff_eq.mpr c31
                                      clear c31
                                      obtain ⟨ji32, hji32⟩ : ∃ j_ : Int, (wrap64 (x14_4 - 1)) = j_ := ⟨_, rfl⟩
                                      replace H : (if 0 ≤ (ji32) then (if (ji32) < (t183.size : Int) then (if (bt t183 (ji32)) = 32 then (if x14_4 ≤ (wrap64 (x14_4 + 1)) then (if (wrap64 (x14_4 + 1)) ≤ (t183.size : Int) then (if x13_4.size + (t183.extract (x14_4 : Int).toNat ((wrap64 (x14_4 + 1)) : Int).toNat).size ≤ 9223372036854775807 then (winklelaw12_HeaderBack.l1 k4 l0 l1 a2 x7_3 x8_2 y185 x10_2 t183 (x13_4 ++ (t183.extract (x14_4 : Int).toNat ((wrap64 (x14_4 + 1)) : Int).toNat)) (wrap64 (x14_4 + 1)) t181 t183) else (none)) else (none)) else (none)) else (if (bt t183 (ji32)) = 9 then (if x14_4 ≤ (wrap64 (x14_4 + 1)) then (if (wrap64 (x14_4 + 1)) ≤ (t183.size : Int) then (if x13_4.size + (t183.extract (x14_4 : Int).toNat ((wrap64 (x14_4 + 1)) : Int).toNat).size ≤ 9223372036854775807 then (winklelaw12_HeaderBack.l1 k4 l0 l1 a2 x7_3 x8_2 y185 x10_2 t183 (x13_4 ++ (t183.extract (x14_4 : Int).toNat ((wrap64 (x14_4 + 1)) : Int).toNat)) (wrap64 (x14_4 + 1)) t181 t183) else (none)) else (none)) else (none)) else (if x13_4.size + x7_3.size ≤ 9223372036854775807 then (if x14_4 ≤ (wrap64 (x14_4 + 1)) then (if (wrap64 (x14_4 + 1)) ≤ (t183.size : Int) then (if (x13_4 ++ x7_3).size + (t183.extract (x14_4 : Int).toNat ((wrap64 (x14_4 + 1)) : Int).toNat).size ≤ 9223372036854775807 then (winklelaw12_HeaderBack.l1 k4 l0 l1 a2 x7_3 x8_2 y185 x10_2 t183 ((x13_4 ++ x7_3) ++ (t183.extract (x14_4 : Int).toNat ((wrap64 (x14_4 + 1)) : Int).toNat)) (wrap64 (x14_4 + 1)) t181 t183) else (none)) else (none)) else (none)) else (none)))) else (none)) else (none)) = some r := by first | (rw [hji32] at H; exact H) | (simp only [hji32] at H ⊢; exact H)
                                      have hji32w : (IntKind.i64.wrap (x14_4 - 1)) = ji32 := (i64_w _).trans hji32
                                      by_cases c33 : 0 ≤ (ji32)
                                      · rw [if_pos c33] at H
                                        have c33b0 : decide (0 ≤ (ji32)) = true := decide_eq_true c33
                                        clear c33
                                        by_cases c34 : (ji32) < (t183.size : Int)
                                        · rw [if_pos c34] at H
                                          have c34b0 : decide ((ji32) < (t183.size : Int)) = true := decide_eq_true c34
                                          clear c34
                                          by_cases c36 : (bt t183 (ji32)) = 32
                                          · rw [if_pos c36] at H
                                            have c36b0 : ((bt t183 (ji32)) == 32) = true := beq_iff_eq.mpr c36
                                            have c36b1 : ((bt t183 (ji32)) != 32) = false := bne_eq_false_iff_eq.mpr c36
                                            clear c36
                                            have c37b0 := eq_true (of_decide_eq_true (by first | (with_reducible assumption) | assumption) : 0 ≤ x14_4)
                                            by_cases c38 : x14_4 ≤ (wrap64 (x14_4 + 1))
                                            · rw [if_pos c38] at H
                                              have c38b0 := eq_true c38
                                              have c38b1 : decide (x14_4 ≤ (wrap64 (x14_4 + 1))) = true := decide_eq_true c38
                                              by_cases c39 : (wrap64 (x14_4 + 1)) ≤ (t183.size : Int)
                                              · rw [if_pos c39] at H
                                                have c39b0 := eq_true c39
                                                have c39b1 : decide ((wrap64 (x14_4 + 1)) ≤ (t183.size : Int)) = true := decide_eq_true c39
                                                by_cases c40 : x13_4.size + (t183.extract (x14_4 : Int).toNat ((wrap64 (x14_4 + 1)) : Int).toNat).size ≤ 9223372036854775807
                                                · rw [if_pos c40] at H
                                                  have c40b0 := eq_true c40
                                                  have c40b1 : decide (x13_4.size + (t183.extract (x14_4 : Int).toNat ((wrap64 (x14_4 + 1)) : Int).toNat).size ≤ 9223372036854775807) = true := decide_eq_true c40
                                                  try have c40b2 : (9223372036854775807 < x13_4.size + (t183.extract (x14_4 : Int).toNat ((wrap64 (x14_4 + 1)) : Int).toNat).size) = False := eq_false (Nat.not_lt.2 c40)
                                                  have H' := Aside0.mk H
                                                  clear H
                                                  have p30 : 0 ≤ (x14_4 : Int) := of_decide_eq_true (by first | (with_reducible assumption) | assumption)
                                                  have q30 : x14_4 < (t183.size : Int) := of_decide_eq_true (by first | (with_reducible assumption) | assumption)
                                                  have hx30 := bt_at t183 x14_4
                                                  replace p30 := eq_true p30
                                                  replace q30 := eq_true q30
                                                  have p35 : 0 ≤ ((ji32) : Int) := of_decide_eq_true (by first | (with_reducible assumption) | assumption)
                                                  have q35 : (ji32) < (t183.size : Int) := of_decide_eq_true (by first | (with_reducible assumption) | assumption)
                                                  have hx35 := bt_at t183 (ji32)
                                                  replace p35 := eq_true p35
                                                  replace q35 := eq_true q35
                                                  go_wp2
                                                  go_roundg k4
                                                  case measure => have := HJ3.out; have := HK2.out; have := HJ5.out; have := HK4.out; omega
                                                  case rel => exact ⟨(x13_4 ++ (t183.extract (x14_4 : Int).toNat ((wrap64 (x14_4 + 1)) : Int).toNat)), (wrap64 (x14_4 + 1)), (by first | rfl | (simp; done) | (simp [*]; done) | (simp [isEmpty_bne]; done)), (by first | rfl | (simp; done) | (simp [*]; done) | (simp [isEmpty_bne]; done)), H', ⟨by have := HJ3.out; have := HK2.out; have := HJ5.out; have := HK4.out; omega⟩, ⟨by (with_reducible repeat (first | apply Kd.R_alloc | apply Kd.R_drewN | apply Kd.R_drew)); exact HO_9.out⟩, ⟨by (with_reducible repeat (first | refine blk_drewN ?_ _ | refine blk_drew ?_ | refine blk_alloc ?_ _)); exact BK184.out⟩, ⟨by repeat (first | (with_reducible first | exact HB.out | apply below_alloc | apply pw_below_drewN | apply below_drew1 | refine below_set ?_ GE184.out) | exact HB.out)⟩⟩
                                                · rw [if_neg c40] at H
                                                  exact absurd H (by simp)
                                              · rw [if_neg c39] at H
                                                exact absurd H (by simp)
                                            · rw [if_neg c38] at H
                                              exact absurd H (by simp)
                                          · rw [if_neg c36] at H
                                            have c36b0 : ((bt t183 (ji32)) == 32) = false := beq_eq_false_iff_ne.mpr c36
                                            have c36b1 : ((bt t183 (ji32)) != 32) = true := bne_iff_ne.mpr c36
                                            by_cases c42 : (bt t183 (ji32)) = 9
                                            · rw [if_pos c42] at H
                                              have c42b0 : ((bt t183 (ji32)) == 9) = true := beq_iff_eq.mpr c42
                                              have c42b1 : ((bt t183 (ji32)) != 9) = false := bne_eq_false_iff_eq.mpr c42
                                              clear c42
                                              have c43b0 := eq_true (of_decide_eq_true (by first | (with_reducible assumption) | assumption) : 0 ≤ x14_4)
                                              by_cases c44 : x14_4 ≤ (wrap64 (x14_4 + 1))
                                              · rw [if_pos c44] at H
                                                have c44b0 := eq_true c44
                                                have c44b1 : decide (x14_4 ≤ (wrap64 (x14_4 + 1))) = true := decide_eq_true c44
                                                by_cases c45 : (wrap64 (x14_4 + 1)) ≤ (t183.size : Int)
                                                · rw [if_pos c45] at H
                                                  have c45b0 := eq_true c45
                                                  have c45b1 : decide ((wrap64 (x14_4 + 1)) ≤ (t183.size : Int)) = true := decide_eq_true c45
                                                  by_cases c46 : x13_4.size + (t183.extract (x14_4 : Int).toNat ((wrap64 (x14_4 + 1)) : Int).toNat).size ≤ 9223372036854775807
                                                  · rw [if_pos c46] at H
                                                    have c46b0 := eq_true c46
                                                    have c46b1 : decide (x13_4.size + (t183.extract (x14_4 : Int).toNat ((wrap64 (x14_4 + 1)) : Int).toNat).size ≤ 9223372036854775807) = true := decide_eq_true c46
                                                    try have c46b2 : (9223372036854775807 < x13_4.size + (t183.extract (x14_4 : Int).toNat ((wrap64 (x14_4 + 1)) : Int).toNat).size) = False := eq_false (Nat.not_lt.2 c46)
                                                    have H' := Aside0.mk H
                                                    clear H
                                                    have p30 : 0 ≤ (x14_4 : Int) := of_decide_eq_true (by first | (with_reducible assumption) | assumption)
                                                    have q30 : x14_4 < (t183.size : Int) := of_decide_eq_true (by first | (with_reducible assumption) | assumption)
                                                    have hx30 := bt_at t183 x14_4
                                                    replace p30 := eq_true p30
                                                    replace q30 := eq_true q30
                                                    have p35 : 0 ≤ ((ji32) : Int) := of_decide_eq_true (by first | (with_reducible assumption) | assumption)
                                                    have q35 : (ji32) < (t183.size : Int) := of_decide_eq_true (by first | (with_reducible assumption) | assumption)
                                                    have hx35 := bt_at t183 (ji32)
                                                    replace p35 := eq_true p35
                                                    replace q35 := eq_true q35
                                                    have p41 : 0 ≤ ((ji32) : Int) := of_decide_eq_true (by first | (with_reducible assumption) | assumption)
                                                    have q41 : (ji32) < (t183.size : Int) := of_decide_eq_true (by first | (with_reducible assumption) | assumption)
                                                    have hx41 := bt_at t183 (ji32)
                                                    replace p41 := eq_true p41
                                                    replace q41 := eq_true q41
                                                    go_wp2
                                                    go_roundg k4
                                                    case measure => have := HJ3.out; have := HK2.out; have := HJ5.out; have := HK4.out; omega
                                                    case rel => exact ⟨(x13_4 ++ (t183.extract (x14_4 : Int).toNat ((wrap64 (x14_4 + 1)) : Int).toNat)), (wrap64 (x14_4 + 1)), (by first | rfl | (simp; done) | (simp [*]; done) | (simp [isEmpty_bne]; done)), (by first | rfl | (simp; done) | (simp [*]; done) | (simp [isEmpty_bne]; done)), H', ⟨by have := HJ3.out; have := HK2.out; have := HJ5.out; have := HK4.out; omega⟩, ⟨by (with_reducible repeat (first | apply Kd.R_alloc | apply Kd.R_drewN | apply Kd.R_drew)); exact HO_9.out⟩, ⟨by (with_reducible repeat (first | refine blk_drewN ?_ _ | refine blk_drew ?_ | refine blk_alloc ?_ _)); exact BK184.out⟩, ⟨by repeat (first | (with_reducible first | exact HB.out | apply below_alloc | apply pw_below_drewN | apply below_drew1 | refine below_set ?_ GE184.out) | exact HB.out)⟩⟩
                                                  · rw [if_neg c46] at H
                                                    exact absurd H (by simp)
                                                · rw [if_neg c45] at H
                                                  exact absurd H (by simp)
                                              · rw [if_neg c44] at H
                                                exact absurd H (by simp)
                                            · rw [if_neg c42] at H
                                              have c42b0 : ((bt t183 (ji32)) == 9) = false := beq_eq_false_iff_ne.mpr c42
                                              have c42b1 : ((bt t183 (ji32)) != 9) = true := bne_iff_ne.mpr c42
                                              by_cases c47 : x13_4.size + x7_3.size ≤ 9223372036854775807
                                              · rw [if_pos c47] at H
                                                have c47b0 := eq_true c47
                                                have c47b1 : decide (x13_4.size + x7_3.size ≤ 9223372036854775807) = true := decide_eq_true c47
                                                try have c47b2 : (9223372036854775807 < x13_4.size + x7_3.size) = False := eq_false (Nat.not_lt.2 c47)
                                                have c48b0 := eq_true (of_decide_eq_true (by first | (with_reducible assumption) | assumption) : 0 ≤ x14_4)
                                                by_cases c49 : x14_4 ≤ (wrap64 (x14_4 + 1))
                                                · rw [if_pos c49] at H
                                                  have c49b0 := eq_true c49
                                                  have c49b1 : decide (x14_4 ≤ (wrap64 (x14_4 + 1))) = true := decide_eq_true c49
                                                  by_cases c50 : (wrap64 (x14_4 + 1)) ≤ (t183.size : Int)
                                                  · rw [if_pos c50] at H
                                                    have c50b0 := eq_true c50
                                                    have c50b1 : decide ((wrap64 (x14_4 + 1)) ≤ (t183.size : Int)) = true := decide_eq_true c50
                                                    by_cases c51 : (x13_4 ++ x7_3).size + (t183.extract (x14_4 : Int).toNat ((wrap64 (x14_4 + 1)) : Int).toNat).size ≤ 9223372036854775807
                                                    · rw [if_pos c51] at H
                                                      have c51b0 := eq_true c51
                                                      have c51b1 : decide ((x13_4 ++ x7_3).size + (t183.extract (x14_4 : Int).toNat ((wrap64 (x14_4 + 1)) : Int).toNat).size ≤ 9223372036854775807) = true := decide_eq_true c51
                                                      try have c51b2 : (9223372036854775807 < (x13_4 ++ x7_3).size + (t183.extract (x14_4 : Int).toNat ((wrap64 (x14_4 + 1)) : Int).toNat).size) = False := eq_false (Nat.not_lt.2 c51)
                                                      have H' := Aside0.mk H
                                                      clear H
                                                      have p30 : 0 ≤ (x14_4 : Int) := of_decide_eq_true (by first | (with_reducible assumption) | assumption)
                                                      have q30 : x14_4 < (t183.size : Int) := of_decide_eq_true (by first | (with_reducible assumption) | assumption)
                                                      have hx30 := bt_at t183 x14_4
                                                      replace p30 := eq_true p30
                                                      replace q30 := eq_true q30
                                                      have p35 : 0 ≤ ((ji32) : Int) := of_decide_eq_true (by first | (with_reducible assumption) | assumption)
                                                      have q35 : (ji32) < (t183.size : Int) := of_decide_eq_true (by first | (with_reducible assumption) | assumption)
                                                      have hx35 := bt_at t183 (ji32)
                                                      replace p35 := eq_true p35
                                                      replace q35 := eq_true q35
                                                      have p41 : 0 ≤ ((ji32) : Int) := of_decide_eq_true (by first | (with_reducible assumption) | assumption)
                                                      have q41 : (ji32) < (t183.size : Int) := of_decide_eq_true (by first | (with_reducible assumption) | assumption)
                                                      have hx41 := bt_at t183 (ji32)
                                                      replace p41 := eq_true p41
                                                      replace q41 := eq_true q41
                                                      go_wp2
                                                      go_roundg k4
                                                      case measure => have := HJ3.out; have := HK2.out; have := HJ5.out; have := HK4.out; omega
                                                      case rel => exact ⟨((x13_4 ++ x7_3) ++ (t183.extract (x14_4 : Int).toNat ((wrap64 (x14_4 + 1)) : Int).toNat)), (wrap64 (x14_4 + 1)), (by first | rfl | (simp; done) | (simp [*]; done) | (simp [isEmpty_bne]; done)), (by first | rfl | (simp; done) | (simp [*]; done) | (simp [isEmpty_bne]; done)), H', ⟨by have := HJ3.out; have := HK2.out; have := HJ5.out; have := HK4.out; omega⟩, ⟨by (with_reducible repeat (first | apply Kd.R_alloc | apply Kd.R_drewN | apply Kd.R_drew)); exact HO_9.out⟩, ⟨by (with_reducible repeat (first | refine blk_drewN ?_ _ | refine blk_drew ?_ | refine blk_alloc ?_ _)); exact BK184.out⟩, ⟨by repeat (first | (with_reducible first | exact HB.out | apply below_alloc | apply pw_below_drewN | apply below_drew1 | refine below_set ?_ GE184.out) | exact HB.out)⟩⟩
                                                    · rw [if_neg c51] at H
                                                      exact absurd H (by simp)
                                                  · rw [if_neg c50] at H
                                                    exact absurd H (by simp)
                                                · rw [if_neg c49] at H
                                                  exact absurd H (by simp)
                                              · rw [if_neg c47] at H
                                                exact absurd H (by simp)
                                        · rw [if_neg c34] at H
                                          exact absurd H (by simp)
                                      · rw [if_neg c33] at H
                                        exact absurd H (by simp)
                                    · rw [if_neg c31] at H
                                      have c31b0 : ((bt t183 x14_4) == 32) = false := beq_eq_false_iff_ne.mpr c31
                                      have c31b1 : ((bt t183 x14_4) != 32) = true := bne_iff_ne.mpr c31
                                      by_cases c53 : (bt t183 x14_4) = 9
                                      · rw [if_pos c53] at H
                                        have c53b0 : ((bt t183 x14_4) == 9) = true := beq_iff_eq.mpr c53
                                        have c53b1 : ((bt t183 x14_4) != 9) = false := bne_eq_false_iff_eq.mpr c53
                                        clear c53
                                        obtain ⟨ji54, hji54⟩ : ∃ j_ : Int, (wrap64 (x14_4 - 1)) = j_ := ⟨_, rfl⟩
                                        replace H : (if 0 ≤ (ji54) then (if (ji54) < (t183.size : Int) then (if (bt t183 (ji54)) = 32 then (if x14_4 ≤ (wrap64 (x14_4 + 1)) then (if (wrap64 (x14_4 + 1)) ≤ (t183.size : Int) then (if x13_4.size + (t183.extract (x14_4 : Int).toNat ((wrap64 (x14_4 + 1)) : Int).toNat).size ≤ 9223372036854775807 then (winklelaw12_HeaderBack.l1 k4 l0 l1 a2 x7_3 x8_2 y185 x10_2 t183 (x13_4 ++ (t183.extract (x14_4 : Int).toNat ((wrap64 (x14_4 + 1)) : Int).toNat)) (wrap64 (x14_4 + 1)) t181 t183) else (none)) else (none)) else (none)) else (if (bt t183 (ji54)) = 9 then (if x14_4 ≤ (wrap64 (x14_4 + 1)) then (if (wrap64 (x14_4 + 1)) ≤ (t183.size : Int) then (if x13_4.size + (t183.extract (x14_4 : Int).toNat ((wrap64 (x14_4 + 1)) : Int).toNat).size ≤ 9223372036854775807 then (winklelaw12_HeaderBack.l1 k4 l0 l1 a2 x7_3 x8_2 y185 x10_2 t183 (x13_4 ++ (t183.extract (x14_4 : Int).toNat ((wrap64 (x14_4 + 1)) : Int).toNat)) (wrap64 (x14_4 + 1)) t181 t183) else (none)) else (none)) else (none)) else (if x13_4.size + x7_3.size ≤ 9223372036854775807 then (if x14_4 ≤ (wrap64 (x14_4 + 1)) then (if (wrap64 (x14_4 + 1)) ≤ (t183.size : Int) then (if (x13_4 ++ x7_3).size + (t183.extract (x14_4 : Int).toNat ((wrap64 (x14_4 + 1)) : Int).toNat).size ≤ 9223372036854775807 then (winklelaw12_HeaderBack.l1 k4 l0 l1 a2 x7_3 x8_2 y185 x10_2 t183 ((x13_4 ++ x7_3) ++ (t183.extract (x14_4 : Int).toNat ((wrap64 (x14_4 + 1)) : Int).toNat)) (wrap64 (x14_4 + 1)) t181 t183) else (none)) else (none)) else (none)) else (none)))) else (none)) else (none)) = some r := by first | (rw [hji54] at H; exact H) | (simp only [hji54] at H ⊢; exact H)
                                        have hji54w : (IntKind.i64.wrap (x14_4 - 1)) = ji54 := (i64_w _).trans hji54
                                        by_cases c55 : 0 ≤ (ji54)
                                        · rw [if_pos c55] at H
                                          have c55b0 : decide (0 ≤ (ji54)) = true := decide_eq_true c55
                                          clear c55
                                          by_cases c56 : (ji54) < (t183.size : Int)
                                          · rw [if_pos c56] at H
                                            have c56b0 : decide ((ji54) < (t183.size : Int)) = true := decide_eq_true c56
                                            clear c56
                                            by_cases c58 : (bt t183 (ji54)) = 32
                                            · rw [if_pos c58] at H
                                              have c58b0 : ((bt t183 (ji54)) == 32) = true := beq_iff_eq.mpr c58
                                              have c58b1 : ((bt t183 (ji54)) != 32) = false := bne_eq_false_iff_eq.mpr c58
                                              clear c58
                                              have c59b0 := eq_true (of_decide_eq_true (by first | (with_reducible assumption) | assumption) : 0 ≤ x14_4)
                                              by_cases c60 : x14_4 ≤ (wrap64 (x14_4 + 1))
                                              · rw [if_pos c60] at H
                                                have c60b0 := eq_true c60
                                                have c60b1 : decide (x14_4 ≤ (wrap64 (x14_4 + 1))) = true := decide_eq_true c60
                                                by_cases c61 : (wrap64 (x14_4 + 1)) ≤ (t183.size : Int)
                                                · rw [if_pos c61] at H
                                                  have c61b0 := eq_true c61
                                                  have c61b1 : decide ((wrap64 (x14_4 + 1)) ≤ (t183.size : Int)) = true := decide_eq_true c61
                                                  by_cases c62 : x13_4.size + (t183.extract (x14_4 : Int).toNat ((wrap64 (x14_4 + 1)) : Int).toNat).size ≤ 9223372036854775807
                                                  · rw [if_pos c62] at H
                                                    have c62b0 := eq_true c62
                                                    have c62b1 : decide (x13_4.size + (t183.extract (x14_4 : Int).toNat ((wrap64 (x14_4 + 1)) : Int).toNat).size ≤ 9223372036854775807) = true := decide_eq_true c62
                                                    try have c62b2 : (9223372036854775807 < x13_4.size + (t183.extract (x14_4 : Int).toNat ((wrap64 (x14_4 + 1)) : Int).toNat).size) = False := eq_false (Nat.not_lt.2 c62)
                                                    have H' := Aside0.mk H
                                                    clear H
                                                    have p30 : 0 ≤ (x14_4 : Int) := of_decide_eq_true (by first | (with_reducible assumption) | assumption)
                                                    have q30 : x14_4 < (t183.size : Int) := of_decide_eq_true (by first | (with_reducible assumption) | assumption)
                                                    have hx30 := bt_at t183 x14_4
                                                    replace p30 := eq_true p30
                                                    replace q30 := eq_true q30
                                                    have p52 : 0 ≤ (x14_4 : Int) := of_decide_eq_true (by first | (with_reducible assumption) | assumption)
                                                    have q52 : x14_4 < (t183.size : Int) := of_decide_eq_true (by first | (with_reducible assumption) | assumption)
                                                    have hx52 := bt_at t183 x14_4
                                                    replace p52 := eq_true p52
                                                    replace q52 := eq_true q52
                                                    have p57 : 0 ≤ ((ji54) : Int) := of_decide_eq_true (by first | (with_reducible assumption) | assumption)
                                                    have q57 : (ji54) < (t183.size : Int) := of_decide_eq_true (by first | (with_reducible assumption) | assumption)
                                                    have hx57 := bt_at t183 (ji54)
                                                    replace p57 := eq_true p57
                                                    replace q57 := eq_true q57
                                                    go_wp2
                                                    go_roundg k4
                                                    case measure => have := HJ3.out; have := HK2.out; have := HJ5.out; have := HK4.out; omega
                                                    case rel => exact ⟨(x13_4 ++ (t183.extract (x14_4 : Int).toNat ((wrap64 (x14_4 + 1)) : Int).toNat)), (wrap64 (x14_4 + 1)), (by first | rfl | (simp; done) | (simp [*]; done) | (simp [isEmpty_bne]; done)), (by first | rfl | (simp; done) | (simp [*]; done) | (simp [isEmpty_bne]; done)), H', ⟨by have := HJ3.out; have := HK2.out; have := HJ5.out; have := HK4.out; omega⟩, ⟨by (with_reducible repeat (first | apply Kd.R_alloc | apply Kd.R_drewN | apply Kd.R_drew)); exact HO_9.out⟩, ⟨by (with_reducible repeat (first | refine blk_drewN ?_ _ | refine blk_drew ?_ | refine blk_alloc ?_ _)); exact BK184.out⟩, ⟨by repeat (first | (with_reducible first | exact HB.out | apply below_alloc | apply pw_below_drewN | apply below_drew1 | refine below_set ?_ GE184.out) | exact HB.out)⟩⟩
                                                  · rw [if_neg c62] at H
                                                    exact absurd H (by simp)
                                                · rw [if_neg c61] at H
                                                  exact absurd H (by simp)
                                              · rw [if_neg c60] at H
                                                exact absurd H (by simp)
                                            · rw [if_neg c58] at H
                                              have c58b0 : ((bt t183 (ji54)) == 32) = false := beq_eq_false_iff_ne.mpr c58
                                              have c58b1 : ((bt t183 (ji54)) != 32) = true := bne_iff_ne.mpr c58
                                              by_cases c64 : (bt t183 (ji54)) = 9
                                              · rw [if_pos c64] at H
                                                have c64b0 : ((bt t183 (ji54)) == 9) = true := beq_iff_eq.mpr c64
                                                have c64b1 : ((bt t183 (ji54)) != 9) = false := bne_eq_false_iff_eq.mpr c64
                                                clear c64
                                                have c65b0 := eq_true (of_decide_eq_true (by first | (with_reducible assumption) | assumption) : 0 ≤ x14_4)
                                                by_cases c66 : x14_4 ≤ (wrap64 (x14_4 + 1))
                                                · rw [if_pos c66] at H
                                                  have c66b0 := eq_true c66
                                                  have c66b1 : decide (x14_4 ≤ (wrap64 (x14_4 + 1))) = true := decide_eq_true c66
                                                  by_cases c67 : (wrap64 (x14_4 + 1)) ≤ (t183.size : Int)
                                                  · rw [if_pos c67] at H
                                                    have c67b0 := eq_true c67
                                                    have c67b1 : decide ((wrap64 (x14_4 + 1)) ≤ (t183.size : Int)) = true := decide_eq_true c67
                                                    by_cases c68 : x13_4.size + (t183.extract (x14_4 : Int).toNat ((wrap64 (x14_4 + 1)) : Int).toNat).size ≤ 9223372036854775807
                                                    · rw [if_pos c68] at H
                                                      have c68b0 := eq_true c68
                                                      have c68b1 : decide (x13_4.size + (t183.extract (x14_4 : Int).toNat ((wrap64 (x14_4 + 1)) : Int).toNat).size ≤ 9223372036854775807) = true := decide_eq_true c68
                                                      try have c68b2 : (9223372036854775807 < x13_4.size + (t183.extract (x14_4 : Int).toNat ((wrap64 (x14_4 + 1)) : Int).toNat).size) = False := eq_false (Nat.not_lt.2 c68)
                                                      have H' := Aside0.mk H
                                                      clear H
                                                      have p30 : 0 ≤ (x14_4 : Int) := of_decide_eq_true (by first | (with_reducible assumption) | assumption)
                                                      have q30 : x14_4 < (t183.size : Int) := of_decide_eq_true (by first | (with_reducible assumption) | assumption)
                                                      have hx30 := bt_at t183 x14_4
                                                      replace p30 := eq_true p30
                                                      replace q30 := eq_true q30
                                                      have p52 : 0 ≤ (x14_4 : Int) := of_decide_eq_true (by first | (with_reducible assumption) | assumption)
                                                      have q52 : x14_4 < (t183.size : Int) := of_decide_eq_true (by first | (with_reducible assumption) | assumption)
                                                      have hx52 := bt_at t183 x14_4
                                                      replace p52 := eq_true p52
                                                      replace q52 := eq_true q52
                                                      have p57 : 0 ≤ ((ji54) : Int) := of_decide_eq_true (by first | (with_reducible assumption) | assumption)
                                                      have q57 : (ji54) < (t183.size : Int) := of_decide_eq_true (by first | (with_reducible assumption) | assumption)
                                                      have hx57 := bt_at t183 (ji54)
                                                      replace p57 := eq_true p57
                                                      replace q57 := eq_true q57
                                                      have p63 : 0 ≤ ((ji54) : Int) := of_decide_eq_true (by first | (with_reducible assumption) | assumption)
                                                      have q63 : (ji54) < (t183.size : Int) := of_decide_eq_true (by first | (with_reducible assumption) | assumption)
                                                      have hx63 := bt_at t183 (ji54)
                                                      replace p63 := eq_true p63
                                                      replace q63 := eq_true q63
                                                      go_wp2
                                                      go_roundg k4
                                                      case measure => have := HJ3.out; have := HK2.out; have := HJ5.out; have := HK4.out; omega
                                                      case rel => exact ⟨(x13_4 ++ (t183.extract (x14_4 : Int).toNat ((wrap64 (x14_4 + 1)) : Int).toNat)), (wrap64 (x14_4 + 1)), (by first | rfl | (simp; done) | (simp [*]; done) | (simp [isEmpty_bne]; done)), (by first | rfl | (simp; done) | (simp [*]; done) | (simp [isEmpty_bne]; done)), H', ⟨by have := HJ3.out; have := HK2.out; have := HJ5.out; have := HK4.out; omega⟩, ⟨by (with_reducible repeat (first | apply Kd.R_alloc | apply Kd.R_drewN | apply Kd.R_drew)); exact HO_9.out⟩, ⟨by (with_reducible repeat (first | refine blk_drewN ?_ _ | refine blk_drew ?_ | refine blk_alloc ?_ _)); exact BK184.out⟩, ⟨by repeat (first | (with_reducible first | exact HB.out | apply below_alloc | apply pw_below_drewN | apply below_drew1 | refine below_set ?_ GE184.out) | exact HB.out)⟩⟩
                                                    · rw [if_neg c68] at H
                                                      exact absurd H (by simp)
                                                  · rw [if_neg c67] at H
                                                    exact absurd H (by simp)
                                                · rw [if_neg c66] at H
                                                  exact absurd H (by simp)
                                              · rw [if_neg c64] at H
                                                have c64b0 : ((bt t183 (ji54)) == 9) = false := beq_eq_false_iff_ne.mpr c64
                                                have c64b1 : ((bt t183 (ji54)) != 9) = true := bne_iff_ne.mpr c64
                                                by_cases c69 : x13_4.size + x7_3.size ≤ 9223372036854775807
                                                · rw [if_pos c69] at H
                                                  have c69b0 := eq_true c69
                                                  have c69b1 : decide (x13_4.size + x7_3.size ≤ 9223372036854775807) = true := decide_eq_true c69
                                                  try have c69b2 : (9223372036854775807 < x13_4.size + x7_3.size) = False := eq_false (Nat.not_lt.2 c69)
                                                  have c70b0 := eq_true (of_decide_eq_true (by first | (with_reducible assumption) | assumption) : 0 ≤ x14_4)
                                                  by_cases c71 : x14_4 ≤ (wrap64 (x14_4 + 1))
                                                  · rw [if_pos c71] at H
                                                    have c71b0 := eq_true c71
                                                    have c71b1 : decide (x14_4 ≤ (wrap64 (x14_4 + 1))) = true := decide_eq_true c71
                                                    by_cases c72 : (wrap64 (x14_4 + 1)) ≤ (t183.size : Int)
                                                    · rw [if_pos c72] at H
                                                      have c72b0 := eq_true c72
                                                      have c72b1 : decide ((wrap64 (x14_4 + 1)) ≤ (t183.size : Int)) = true := decide_eq_true c72
                                                      by_cases c73 : (x13_4 ++ x7_3).size + (t183.extract (x14_4 : Int).toNat ((wrap64 (x14_4 + 1)) : Int).toNat).size ≤ 9223372036854775807
                                                      · rw [if_pos c73] at H
                                                        have c73b0 := eq_true c73
                                                        have c73b1 : decide ((x13_4 ++ x7_3).size + (t183.extract (x14_4 : Int).toNat ((wrap64 (x14_4 + 1)) : Int).toNat).size ≤ 9223372036854775807) = true := decide_eq_true c73
                                                        try have c73b2 : (9223372036854775807 < (x13_4 ++ x7_3).size + (t183.extract (x14_4 : Int).toNat ((wrap64 (x14_4 + 1)) : Int).toNat).size) = False := eq_false (Nat.not_lt.2 c73)
                                                        have H' := Aside0.mk H
                                                        clear H
                                                        have p30 : 0 ≤ (x14_4 : Int) := of_decide_eq_true (by first | (with_reducible assumption) | assumption)
                                                        have q30 : x14_4 < (t183.size : Int) := of_decide_eq_true (by first | (with_reducible assumption) | assumption)
                                                        have hx30 := bt_at t183 x14_4
                                                        replace p30 := eq_true p30
                                                        replace q30 := eq_true q30
                                                        have p52 : 0 ≤ (x14_4 : Int) := of_decide_eq_true (by first | (with_reducible assumption) | assumption)
                                                        have q52 : x14_4 < (t183.size : Int) := of_decide_eq_true (by first | (with_reducible assumption) | assumption)
                                                        have hx52 := bt_at t183 x14_4
                                                        replace p52 := eq_true p52
                                                        replace q52 := eq_true q52
                                                        have p57 : 0 ≤ ((ji54) : Int) := of_decide_eq_true (by first | (with_reducible assumption) | assumption)
                                                        have q57 : (ji54) < (t183.size : Int) := of_decide_eq_true (by first | (with_reducible assumption) | assumption)
                                                        have hx57 := bt_at t183 (ji54)
                                                        replace p57 := eq_true p57
                                                        replace q57 := eq_true q57
                                                        have p63 : 0 ≤ ((ji54) : Int) := of_decide_eq_true (by first | (with_reducible assumption) | assumption)
                                                        have q63 : (ji54) < (t183.size : Int) := of_decide_eq_true (by first | (with_reducible assumption) | assumption)
                                                        have hx63 := bt_at t183 (ji54)
                                                        replace p63 := eq_true p63
                                                        replace q63 := eq_true q63
                                                        go_wp2
                                                        go_roundg k4
                                                        case measure => have := HJ3.out; have := HK2.out; have := HJ5.out; have := HK4.out; omega
                                                        case rel => exact ⟨((x13_4 ++ x7_3) ++ (t183.extract (x14_4 : Int).toNat ((wrap64 (x14_4 + 1)) : Int).toNat)), (wrap64 (x14_4 + 1)), (by first | rfl | (simp; done) | (simp [*]; done) | (simp [isEmpty_bne]; done)), (by first | rfl | (simp; done) | (simp [*]; done) | (simp [isEmpty_bne]; done)), H', ⟨by have := HJ3.out; have := HK2.out; have := HJ5.out; have := HK4.out; omega⟩, ⟨by (with_reducible repeat (first | apply Kd.R_alloc | apply Kd.R_drewN | apply Kd.R_drew)); exact HO_9.out⟩, ⟨by (with_reducible repeat (first | refine blk_drewN ?_ _ | refine blk_drew ?_ | refine blk_alloc ?_ _)); exact BK184.out⟩, ⟨by repeat (first | (with_reducible first | exact HB.out | apply below_alloc | apply pw_below_drewN | apply below_drew1 | refine below_set ?_ GE184.out) | exact HB.out)⟩⟩
                                                      · rw [if_neg c73] at H
                                                        exact absurd H (by simp)
                                                    · rw [if_neg c72] at H
                                                      exact absurd H (by simp)
                                                  · rw [if_neg c71] at H
                                                    exact absurd H (by simp)
                                                · rw [if_neg c69] at H
                                                  exact absurd H (by simp)
                                          · rw [if_neg c56] at H
                                            exact absurd H (by simp)
                                        · rw [if_neg c55] at H
                                          exact absurd H (by simp)
                                      · rw [if_neg c53] at H
                                        have c53b0 : ((bt t183 x14_4) == 9) = false := beq_eq_false_iff_ne.mpr c53
                                        have c53b1 : ((bt t183 x14_4) != 9) = true := bne_iff_ne.mpr c53
                                        have c74b0 := eq_true (of_decide_eq_true (by first | (with_reducible assumption) | assumption) : 0 ≤ x14_4)
                                        by_cases c75 : x14_4 ≤ (wrap64 (x14_4 + 1))
                                        · rw [if_pos c75] at H
                                          have c75b0 := eq_true c75
                                          have c75b1 : decide (x14_4 ≤ (wrap64 (x14_4 + 1))) = true := decide_eq_true c75
                                          by_cases c76 : (wrap64 (x14_4 + 1)) ≤ (t183.size : Int)
                                          · rw [if_pos c76] at H
                                            have c76b0 := eq_true c76
                                            have c76b1 : decide ((wrap64 (x14_4 + 1)) ≤ (t183.size : Int)) = true := decide_eq_true c76
                                            by_cases c77 : x13_4.size + (t183.extract (x14_4 : Int).toNat ((wrap64 (x14_4 + 1)) : Int).toNat).size ≤ 9223372036854775807
                                            · rw [if_pos c77] at H
                                              have c77b0 := eq_true c77
                                              have c77b1 : decide (x13_4.size + (t183.extract (x14_4 : Int).toNat ((wrap64 (x14_4 + 1)) : Int).toNat).size ≤ 9223372036854775807) = true := decide_eq_true c77
                                              try have c77b2 : (9223372036854775807 < x13_4.size + (t183.extract (x14_4 : Int).toNat ((wrap64 (x14_4 + 1)) : Int).toNat).size) = False := eq_false (Nat.not_lt.2 c77)
                                              have H' := Aside0.mk H
                                              clear H
                                              have p30 : 0 ≤ (x14_4 : Int) := of_decide_eq_true (by first | (with_reducible assumption) | assumption)
                                              have q30 : x14_4 < (t183.size : Int) := of_decide_eq_true (by first | (with_reducible assumption) | assumption)
                                              have hx30 := bt_at t183 x14_4
                                              replace p30 := eq_true p30
                                              replace q30 := eq_true q30
                                              have p52 : 0 ≤ (x14_4 : Int) := of_decide_eq_true (by first | (with_reducible assumption) | assumption)
                                              have q52 : x14_4 < (t183.size : Int) := of_decide_eq_true (by first | (with_reducible assumption) | assumption)
                                              have hx52 := bt_at t183 x14_4
                                              replace p52 := eq_true p52
                                              replace q52 := eq_true q52
                                              go_wp2
                                              go_roundg k4
                                              case measure => have := HJ3.out; have := HK2.out; have := HJ5.out; have := HK4.out; omega
                                              case rel => exact ⟨(x13_4 ++ (t183.extract (x14_4 : Int).toNat ((wrap64 (x14_4 + 1)) : Int).toNat)), (wrap64 (x14_4 + 1)), (by first | rfl | (simp; done) | (simp [*]; done) | (simp [isEmpty_bne]; done)), (by first | rfl | (simp; done) | (simp [*]; done) | (simp [isEmpty_bne]; done)), H', ⟨by have := HJ3.out; have := HK2.out; have := HJ5.out; have := HK4.out; omega⟩, ⟨by (with_reducible repeat (first | apply Kd.R_alloc | apply Kd.R_drewN | apply Kd.R_drew)); exact HO_9.out⟩, ⟨by (with_reducible repeat (first | refine blk_drewN ?_ _ | refine blk_drew ?_ | refine blk_alloc ?_ _)); exact BK184.out⟩, ⟨by repeat (first | (with_reducible first | exact HB.out | apply below_alloc | apply pw_below_drewN | apply below_drew1 | refine below_set ?_ GE184.out) | exact HB.out)⟩⟩
                                            · rw [if_neg c77] at H
                                              exact absurd H (by simp)
                                          · rw [if_neg c76] at H
                                            exact absurd H (by simp)
                                        · rw [if_neg c75] at H
                                          exact absurd H (by simp)
                                  · rw [if_neg c29] at H
                                    exact absurd H (by simp)
                                · rw [if_neg c28] at H
                                  have c28b0 : decide (0 < x14_4) = false := decide_eq_false c28
                                  clear c28
                                  by_cases c78 : 0 ≤ x14_4
                                  · rw [if_pos c78] at H
                                    have c78b0 := eq_true c78
                                    have c78b1 : decide (0 ≤ x14_4) = true := decide_eq_true c78
                                    clear c78
                                    by_cases c79 : x14_4 ≤ (wrap64 (x14_4 + 1))
                                    · rw [if_pos c79] at H
                                      have c79b0 := eq_true c79
                                      have c79b1 : decide (x14_4 ≤ (wrap64 (x14_4 + 1))) = true := decide_eq_true c79
                                      by_cases c80 : (wrap64 (x14_4 + 1)) ≤ (t183.size : Int)
                                      · rw [if_pos c80] at H
                                        have c80b0 := eq_true c80
                                        have c80b1 : decide ((wrap64 (x14_4 + 1)) ≤ (t183.size : Int)) = true := decide_eq_true c80
                                        by_cases c81 : x13_4.size + (t183.extract (x14_4 : Int).toNat ((wrap64 (x14_4 + 1)) : Int).toNat).size ≤ 9223372036854775807
                                        · rw [if_pos c81] at H
                                          have c81b0 := eq_true c81
                                          have c81b1 : decide (x13_4.size + (t183.extract (x14_4 : Int).toNat ((wrap64 (x14_4 + 1)) : Int).toNat).size ≤ 9223372036854775807) = true := decide_eq_true c81
                                          try have c81b2 : (9223372036854775807 < x13_4.size + (t183.extract (x14_4 : Int).toNat ((wrap64 (x14_4 + 1)) : Int).toNat).size) = False := eq_false (Nat.not_lt.2 c81)
                                          have H' := Aside0.mk H
                                          clear H
                                          go_wp2
                                          go_roundg k4
                                          case measure => have := HJ3.out; have := HK2.out; have := HJ5.out; have := HK4.out; omega
                                          case rel => exact ⟨(x13_4 ++ (t183.extract (x14_4 : Int).toNat ((wrap64 (x14_4 + 1)) : Int).toNat)), (wrap64 (x14_4 + 1)), (by first | rfl | (simp; done) | (simp [*]; done) | (simp [isEmpty_bne]; done)), (by first | rfl | (simp; done) | (simp [*]; done) | (simp [isEmpty_bne]; done)), H', ⟨by have := HJ3.out; have := HK2.out; have := HJ5.out; have := HK4.out; omega⟩, ⟨by (with_reducible repeat (first | apply Kd.R_alloc | apply Kd.R_drewN | apply Kd.R_drew)); exact HO_9.out⟩, ⟨by (with_reducible repeat (first | refine blk_drewN ?_ _ | refine blk_drew ?_ | refine blk_alloc ?_ _)); exact BK184.out⟩, ⟨by repeat (first | (with_reducible first | exact HB.out | apply below_alloc | apply pw_below_drewN | apply below_drew1 | refine below_set ?_ GE184.out) | exact HB.out)⟩⟩
                                        · rw [if_neg c81] at H
                                          exact absurd H (by simp)
                                      · rw [if_neg c80] at H
                                        exact absurd H (by simp)
                                    · rw [if_neg c79] at H
                                      exact absurd H (by simp)
                                  · rw [if_neg c78] at H
                                    exact absurd H (by simp)
                              · rw [if_neg c27] at H
                                have c27b0 : decide (x14_4 < (t183.size : Int)) = false := decide_eq_false c27
                                clear c27
                                by_cases c82 : t181.size + 2 ≤ 9223372036854775807
                                · rw [if_pos c82] at H
                                  have c82b0 := eq_true c82
                                  have c82b1 : decide (t181.size + 2 ≤ 9223372036854775807) = true := decide_eq_true c82
                                  try have c82b2 : (9223372036854775807 < t181.size + 2) = False := eq_false (Nat.not_lt.2 c82)
                                  by_cases c83 : (t181 ++ (⟨#[58, 32]⟩ : ByteArray)).size + x13_4.size ≤ 9223372036854775807
                                  · rw [if_pos c83] at H
                                    have c83b0 := eq_true c83
                                    have c83b1 : decide ((t181 ++ (⟨#[58, 32]⟩ : ByteArray)).size + x13_4.size ≤ 9223372036854775807) = true := decide_eq_true c83
                                    try have c83b2 : (9223372036854775807 < (t181 ++ (⟨#[58, 32]⟩ : ByteArray)).size + x13_4.size) = False := eq_false (Nat.not_lt.2 c83)
                                    by_cases c84 : ((t181 ++ (⟨#[58, 32]⟩ : ByteArray)) ++ x13_4).size + x7_3.size ≤ 9223372036854775807
                                    · rw [if_pos c84] at H
                                      have c84b0 := eq_true c84
                                      have c84b1 : decide (((t181 ++ (⟨#[58, 32]⟩ : ByteArray)) ++ x13_4).size + x7_3.size ≤ 9223372036854775807) = true := decide_eq_true c84
                                      try have c84b2 : (9223372036854775807 < ((t181 ++ (⟨#[58, 32]⟩ : ByteArray)) ++ x13_4).size + x7_3.size) = False := eq_false (Nat.not_lt.2 c84)
                                      by_cases c85 : x8_2.size + (((t181 ++ (⟨#[58, 32]⟩ : ByteArray)) ++ x13_4) ++ x7_3).size ≤ 9223372036854775807
                                      · rw [if_pos c85] at H
                                        have c85b0 := eq_true c85
                                        have c85b1 : decide (x8_2.size + (((t181 ++ (⟨#[58, 32]⟩ : ByteArray)) ++ x13_4) ++ x7_3).size ≤ 9223372036854775807) = true := decide_eq_true c85
                                        try have c85b2 : (9223372036854775807 < x8_2.size + (((t181 ++ (⟨#[58, 32]⟩ : ByteArray)) ++ x13_4) ++ x7_3).size) = False := eq_false (Nat.not_lt.2 c85)
                                        have H' := Aside0.mk H
                                        clear H
                                        have hcz86_0 : wr.cell? ⟨gb184, 0, none⟩ = some (.string t181) := (blk_cell BK184.out 0).trans rfl
                                        have hcz86_1 : wr.cell? ⟨gb184, 1, none⟩ = some (.string t183) := (blk_cell BK184.out 1).trans rfl
                                        have hfz86_0 := blk_frozen BK184.out 0
                                        have hfz86_1 := blk_frozen BK184.out 1
                                        go_wp2
                                        go_roundg k4
                                        case measure => have := HJ3.out; have := HK2.out; have := HJ5.out; have := HK4.out; omega
                                        case rel => exact ⟨(x8_2 ++ (((t181 ++ (⟨#[58, 32]⟩ : ByteArray)) ++ x13_4) ++ x7_3)), (y185), (wrap64 (x10_2 + 1)), (by first | rfl | (simp; done) | (simp [*]; done) | (simp [isEmpty_bne]; done)), (by first | rfl | (simp; done) | (simp [*]; done) | (simp [isEmpty_bne]; done)), H', ⟨by have := HJ3.out; have := HK2.out; have := HJ5.out; have := HK4.out; omega⟩, ⟨by (with_reducible repeat (first | apply Kd.R_alloc | apply Kd.R_drewN | apply Kd.R_drew)); exact Kd.R_mono HO_9.out (fun _ hk => trivial)⟩, ⟨by repeat (first | (with_reducible first | exact HB.out | apply below_alloc | apply pw_below_drewN | apply below_drew1 | refine below_set ?_ GE184.out) | exact HB.out)⟩⟩
                                      · rw [if_neg c85] at H
                                        exact absurd H (by simp)
                                    · rw [if_neg c84] at H
                                      exact absurd H (by simp)
                                  · rw [if_neg c83] at H
                                    exact absurd H (by simp)
                                · rw [if_neg c82] at H
                                  exact absurd H (by simp)
                        · rw [if_neg c16] at H
                          have c16b0 : decide (2 ≤ (Int.tmod a2 4)) = false := decide_eq_false c16
                          clear c16
                          by_cases c87 : t181.size + 2 ≤ 9223372036854775807
                          · rw [if_pos c87] at H
                            have c87b0 := eq_true c87
                            have c87b1 : decide (t181.size + 2 ≤ 9223372036854775807) = true := decide_eq_true c87
                            try have c87b2 : (9223372036854775807 < t181.size + 2) = False := eq_false (Nat.not_lt.2 c87)
                            by_cases c88 : (t181 ++ (⟨#[58, 32]⟩ : ByteArray)).size + t183.size ≤ 9223372036854775807
                            · rw [if_pos c88] at H
                              have c88b0 := eq_true c88
                              have c88b1 : decide ((t181 ++ (⟨#[58, 32]⟩ : ByteArray)).size + t183.size ≤ 9223372036854775807) = true := decide_eq_true c88
                              try have c88b2 : (9223372036854775807 < (t181 ++ (⟨#[58, 32]⟩ : ByteArray)).size + t183.size) = False := eq_false (Nat.not_lt.2 c88)
                              by_cases c89 : ((t181 ++ (⟨#[58, 32]⟩ : ByteArray)) ++ t183).size + x7_3.size ≤ 9223372036854775807
                              · rw [if_pos c89] at H
                                have c89b0 := eq_true c89
                                have c89b1 : decide (((t181 ++ (⟨#[58, 32]⟩ : ByteArray)) ++ t183).size + x7_3.size ≤ 9223372036854775807) = true := decide_eq_true c89
                                try have c89b2 : (9223372036854775807 < ((t181 ++ (⟨#[58, 32]⟩ : ByteArray)) ++ t183).size + x7_3.size) = False := eq_false (Nat.not_lt.2 c89)
                                by_cases c90 : x8_2.size + (((t181 ++ (⟨#[58, 32]⟩ : ByteArray)) ++ t183) ++ x7_3).size ≤ 9223372036854775807
                                · rw [if_pos c90] at H
                                  have c90b0 := eq_true c90
                                  have c90b1 : decide (x8_2.size + (((t181 ++ (⟨#[58, 32]⟩ : ByteArray)) ++ t183) ++ x7_3).size ≤ 9223372036854775807) = true := decide_eq_true c90
                                  try have c90b2 : (9223372036854775807 < x8_2.size + (((t181 ++ (⟨#[58, 32]⟩ : ByteArray)) ++ t183) ++ x7_3).size) = False := eq_false (Nat.not_lt.2 c90)
                                  have H' := Aside0.mk H
                                  clear H
                                  try go_wp2
                                  have n0_ := Aside0.mk (Kd.R_drew HO_9.out)
                                  have n1_ := Aside0.mk (below_drew1 HB.out)
                                  clear HO_9
                                  clear HB
                                  have HO_9 := n0_
                                  have HB := n1_
                                  clear n0_ n1_
                                  have p180 : 0 ≤ (x10_2 : Int) := of_decide_eq_true (by first | (with_reducible assumption) | assumption)
                                  have q180 : x10_2 < (l0.length : Int) := of_decide_eq_true (by first | (with_reducible assumption) | assumption)
                                  obtain ⟨ad180, A180_0, c180_0, e180, hx180_0, hl180_0, hi180_0⟩ := at_L3 HR0.out x10_2 p180 q180
                                  have hw180_0 := hx180_0
                                  cases e180
                                  replace hx180_0 := (HB.out.cell (World.block_lt_of_cell? w _ hx180_0)).trans hx180_0
                                  have HR180_0 := Aside0.mk hi180_0
                                  have HC180_0 := Aside0.mk hl180_0
                                  clear hi180_0 hl180_0
                                  replace p180 := eq_true p180
                                  replace q180 := eq_true q180
                                  have p182 : 0 ≤ (x10_2 : Int) := of_decide_eq_true (by first | (with_reducible assumption) | assumption)
                                  have q182 : x10_2 < (l1.length : Int) := of_decide_eq_true (by first | (with_reducible assumption) | assumption)
                                  obtain ⟨ad182, A182_0, c182_0, e182, hx182_0, hl182_0, hi182_0⟩ := at_L3 HR1.out x10_2 p182 q182
                                  have hw182_0 := hx182_0
                                  cases e182
                                  replace hx182_0 := (HB.out.cell (World.block_lt_of_cell? w _ hx182_0)).trans hx182_0
                                  have HR182_0 := Aside0.mk hi182_0
                                  have HC182_0 := Aside0.mk hl182_0
                                  clear hi182_0 hl182_0
                                  replace p182 := eq_true p182
                                  replace q182 := eq_true q182
                                  refine start_ (n := 13) (S := fun w' => w'.cell? (ad180.add (x10_2).toNat) = some (.slice A180_0 (rd_L3 l0 x10_2).length c180_0) ∧ w'.cell? (ad182.add (x10_2).toNat) = some (.slice A182_0 (rd_L3 l1 x10_2).length c182_0)) (ds := []) #[false, false, false, false, false, false, false, false, false, false, false, false, false] (by kernel_rfl) rfl rfl ⟨((HB.out.cell (World.block_lt_of_cell? w _ hw180_0)).trans hw180_0), ((HB.out.cell (World.block_lt_of_cell? w _ hw182_0)).trans hw182_0)⟩ (fun hHeld => ?_); refine with_tabW winklelaw12_HeaderBack.tab9 winklelaw12_HeaderBack.bits9 (fun HT_ HW_ => ?_)
                                  generalize wc.drew = w91 at HO_9 HB HR180_0 HR182_0 hx180_0 hx182_0 hHeld ⊢
                                  refine pure_ (i := 0) (N := some 38) (v := ?_) (a' := ?_) #[true, false, false, false, false, false, false, false, false, false, false, false, false] rfl rfl (any_of HT_.out (by kernel_rfl)) (fun _ _ _ h => h) (Or.inl ⟨by rfl, ?_⟩) ?_ ?_
                                  rotate_left
                                  · intro w'
                                    go_simp
                                    with_reducible rfl
                                  rotate_left
                                  · simp only [Act.put, List.setIfInBounds_toArray, List.set_cons_zero, List.set_cons_succ, i64_w, i32_w]
                                    rfl
                                  refine pure_ (i := 1) (N := some 39) (v := ?_) (a' := ?_) #[true, true, false, false, false, false, false, false, false, false, false, false, false] rfl rfl (any_of HT_.out (by kernel_rfl)) (fun _ _ _ h => h) (Or.inl ⟨by rfl, ?_⟩) ?_ ?_
                                  rotate_left
                                  · intro w'
                                    go_simp
                                    with_reducible rfl
                                  rotate_left
                                  · simp only [Act.put, List.setIfInBounds_toArray, List.set_cons_zero, List.set_cons_succ, i64_w, i32_w]
                                    rfl
                                  refine pure_ (i := 2) (N := some 40) (v := ?_) (a' := ?_) #[true, true, true, false, false, false, false, false, false, false, false, false, false] rfl rfl (any_of HT_.out (by kernel_rfl)) (fun _ _ _ h => h) (Or.inl ⟨by rfl, ?_⟩) ?_ ?_
                                  rotate_left
                                  · intro w'
                                    go_simp
                                    with_reducible rfl
                                  rotate_left
                                  · simp only [Act.put, List.setIfInBounds_toArray, List.set_cons_zero, List.set_cons_succ, i64_w, i32_w]
                                    rfl
                                  refine pure_ (i := 5) (N := some 43) (v := ?_) (a' := ?_) #[true, true, true, false, false, true, false, false, false, false, false, false, false] rfl rfl (any_of HT_.out (by kernel_rfl)) (fun _ _ _ h => h) (Or.inl ⟨by rfl, ?_⟩) ?_ ?_
                                  rotate_left
                                  · intro w'
                                    go_simp
                                    with_reducible rfl
                                  rotate_left
                                  · simp only [Act.put, List.setIfInBounds_toArray, List.set_cons_zero, List.set_cons_succ, i64_w, i32_w]
                                    rfl
                                  refine pure_ (i := 6) (N := some 44) (v := ?_) (a' := ?_) #[true, true, true, false, false, true, true, false, false, false, false, false, false] rfl rfl (any_of HT_.out (by kernel_rfl)) (fun _ _ _ h => h) (Or.inl ⟨by rfl, ?_⟩) ?_ ?_
                                  rotate_left
                                  · intro w'
                                    go_simp
                                    with_reducible rfl
                                  rotate_left
                                  · simp only [Act.put, List.setIfInBounds_toArray, List.set_cons_zero, List.set_cons_succ, i64_w, i32_w]
                                    rfl
                                  refine pure_ (i := 7) (N := some 45) (v := ?_) (a' := ?_) #[true, true, true, false, false, true, true, true, false, false, false, false, false] rfl rfl (any_of HT_.out (by kernel_rfl)) (fun _ _ _ h => h) (Or.inl ⟨by rfl, ?_⟩) ?_ ?_
                                  rotate_left
                                  · intro w'
                                    go_simp
                                    with_reducible rfl
                                  rotate_left
                                  · simp only [Act.put, List.setIfInBounds_toArray, List.set_cons_zero, List.set_cons_succ, i64_w, i32_w]
                                    rfl
                                  refine take_ (i := 3) (N := some 41) (v := ?_) (a' := ?_) #[true, true, true, true, false, true, true, true, false, false, false, false, false] rfl rfl (take_ofW HT_.out HW_.out (by kernel_rfl)) (fun _ _ _ h => h) (Or.inl ⟨by rfl, ?_⟩) hHeld ?_ ?_
                                  rotate_left
                                  · rintro w' ⟨s0, s1⟩
                                    go_simp
                                    with_reducible rfl
                                  rotate_left
                                  · simp only [Act.put, List.setIfInBounds_toArray, List.set_cons_zero, List.set_cons_succ, i64_w, i32_w]
                                    rfl
                                  refine take_ (i := 8) (N := some 46) (v := ?_) (a' := ?_) #[true, true, true, true, false, true, true, true, true, false, false, false, false] rfl rfl (take_ofW HT_.out HW_.out (by kernel_rfl)) (fun _ _ _ h => h) (Or.inl ⟨by rfl, ?_⟩) hHeld ?_ ?_
                                  rotate_left
                                  · rintro w' ⟨s0, s1⟩
                                    go_simp
                                    with_reducible rfl
                                  rotate_left
                                  · simp only [Act.put, List.setIfInBounds_toArray, List.set_cons_zero, List.set_cons_succ, i64_w, i32_w]
                                    rfl
                                  refine join_ (σ := Nat) 1 #[true, true, true, true, true, true, true, true, true, true, true, true, false] (fun s_ => [(42, .string t181), (47, .string t183), (11, .pointer (some ⟨s_, 0, none⟩)), (48, .agg #[.string t181, .string t183])]) (fun s_ w' => (w'.cell? (ad180.add (x10_2).toNat) = some (.slice A180_0 (rd_L3 l0 x10_2).length c180_0) ∧ w'.cell? (ad182.add (x10_2).toNat) = some (.slice A182_0 (rd_L3 l1 x10_2).length c182_0)) ∧ (Kd.R k42 42 w' w.heap.size (fun k_ => k_ ≠ s_) u9 x9_2) ∧ (w'.heap[s_]? = some (.cells #[.string (⟨#[]⟩ : ByteArray), .string (⟨#[]⟩ : ByteArray)] 42 (0, 0))) ∧ (w.heap.size ≤ s_) ∧ (w.heap.size ≤ s_) ∧ (Below w.heap.size w w')) ?_ ?_
                                  rotate_left
                                  · intro hCont
                                    refine two_ (i := 4) (j := 11) (Ni := some 42) (Nj := some 11) #[true, true, true, true, true, true, true, true, true, false, false, false, false] #[true, true, true, true, false, true, true, true, true, false, false, true, false] rfl rfl rfl rfl (two_of HT_.out (by kernel_rfl)) (by decide) (by decide) (fun K hK => ?_) (fun K hK => ?_)
                                    · skip
                                      refine goes_ Try.func31 (by kernel_rfl) rfl #[.slice A180_0 (rd_L3 l0 x10_2).length c180_0] (by rfl) rfl rfl (by (try simp only [List.map_toArray, List.map_cons, List.map_nil]); first | done | rfl | (simp only [List.length_drop, List.length_take]; rfl)) ?_
                                      with_reducible refine (winklelaw12_named.calls kj5 _ _ (rd_L3 l0 x10_2) t181 _ ?side1 ?side2 A12.out).mono ?_
                                      (case side1 => repeat (first | exact (Kd.C_below HR180_0.out HB.out) | (with_reducible refine Kd.C_alloc ?_ _) | (with_reducible refine Kd.C_drewN ?_ _) | (with_reducible refine Kd.C_drew ?_)))
                                      (case side2 => exact HC180_0.out)
                                      rintro e w92 ⟨rfl, hb⟩
                                      refine ⟨_, rfl, ?_⟩
                                      have n0_ := Aside0.mk (Kd.R_below (by (with_reducible repeat (first | apply Kd.R_alloc | apply Kd.R_drewN | apply Kd.R_drew)); exact HO_9.out) hb)
                                      have n1_ := Aside0.mk (below_step (by repeat (first | (with_reducible first | exact HB.out | apply below_alloc | apply pw_below_drewN | apply below_drew1) | exact HB.out)) hb)
                                      clear HO_9
                                      clear HB
                                      have HO_9 := n0_
                                      have HB := n1_
                                      clear n0_ n1_
                                      (try clear hb)
                                      (try clear hb2)
                                      (try clear hk)
                                      (try clear hi)
                                      refine hK.out _ _ ⟨((HB.out.cell (World.block_lt_of_cell? w _ hw180_0)).trans hw180_0), ((HB.out.cell (World.block_lt_of_cell? w _ hw182_0)).trans hw182_0)⟩ (fun hHeld => ?_)
                                      clear hK K
                                      refine norm_ (a' := ?_) ?_ ?_
                                      rotate_left
                                      · show Act.put _ (some 42) _ = _
                                        simp only [Act.put, List.setIfInBounds_toArray, List.set_cons_zero, List.set_cons_succ, i64_w, i32_w]
                                        rfl
                                      refine two_ (i := 9) (j := 11) (Ni := some 47) (Nj := some 11) #[true, true, true, true, true, true, true, true, true, true, false, false, false] #[true, true, true, true, true, true, true, true, true, false, false, true, false] rfl rfl rfl rfl (two_of HT_.out (by kernel_rfl)) (by decide) (by decide) (fun K hK => ?_) (fun K hK => ?_)
                                      · skip
                                        refine goes_ Try.func32 (by kernel_rfl) rfl #[.slice A182_0 (rd_L3 l1 x10_2).length c182_0] (by rfl) rfl rfl (by (try simp only [List.map_toArray, List.map_cons, List.map_nil]); first | done | rfl | (simp only [List.length_drop, List.length_take]; rfl)) ?_
                                        with_reducible refine (winklelaw12_valued.calls kj5 _ _ (rd_L3 l1 x10_2) t183 _ ?side1 ?side2 A14.out).mono ?_
                                        (case side1 => repeat (first | exact (Kd.C_below HR182_0.out HB.out) | (with_reducible refine Kd.C_alloc ?_ _) | (with_reducible refine Kd.C_drewN ?_ _) | (with_reducible refine Kd.C_drew ?_)))
                                        (case side2 => exact HC182_0.out)
                                        rintro e w93 ⟨rfl, hb⟩
                                        refine ⟨_, rfl, ?_⟩
                                        have n0_ := Aside0.mk (Kd.R_below (by (with_reducible repeat (first | apply Kd.R_alloc | apply Kd.R_drewN | apply Kd.R_drew)); exact HO_9.out) hb)
                                        have n1_ := Aside0.mk (below_step (by repeat (first | (with_reducible first | exact HB.out | apply below_alloc | apply pw_below_drewN | apply below_drew1) | exact HB.out)) hb)
                                        clear HO_9
                                        clear HB
                                        have HO_9 := n0_
                                        have HB := n1_
                                        clear n0_ n1_
                                        (try clear hb)
                                        (try clear hb2)
                                        (try clear hk)
                                        (try clear hi)
                                        refine hK.out _ _ ⟨((HB.out.cell (World.block_lt_of_cell? w _ hw180_0)).trans hw180_0), ((HB.out.cell (World.block_lt_of_cell? w _ hw182_0)).trans hw182_0)⟩ (fun hHeld => ?_)
                                        clear hK K
                                        refine norm_ (a' := ?_) ?_ ?_
                                        rotate_left
                                        · show Act.put _ (some 47) _ = _
                                          simp only [Act.put, List.setIfInBounds_toArray, List.set_cons_zero, List.set_cons_succ, i64_w, i32_w]
                                          rfl
                                        refine pure_ (i := 10) (N := some 48) (v := ?_) (a' := ?_) #[true, true, true, true, true, true, true, true, true, true, true, false, false] rfl rfl (any_of HT_.out (by kernel_rfl)) (fun _ _ _ h => h) (Or.inl ⟨by rfl, ?_⟩) ?_ ?_
                                        rotate_left
                                        · intro w'
                                          go_simp
                                          with_reducible rfl
                                        rotate_left
                                        · simp only [Act.put, List.setIfInBounds_toArray, List.set_cons_zero, List.set_cons_succ, i64_w, i32_w]
                                          rfl
                                        refine one_ (i := 11) (N := some 11) #[true, true, true, true, true, true, true, true, true, true, true, true, false] rfl rfl (one_of HT_.out (by kernel_rfl)) (by decide) (fun K hK => ?_)
                                        refine box_step ?hg (N := 11) ?hd (cs := #[.string (⟨#[]⟩ : ByteArray), .string (⟨#[]⟩ : ByteArray)]) (t := 42) ?hr ?_; (case hd => rfl); (case hg => rfl); (case hr => first | (go_simp; done) | (go_simp; rfl))
                                        intro gb184 hg w94 hbox hb
                                        have n0_ := Aside0.mk (Kd.R_below (Kd.R_elderB (by (with_reducible repeat (first | apply Kd.R_alloc | apply Kd.R_drewN | apply Kd.R_drew)); exact HO_9.out) gb184 (Nat.le_of_eq hg.symm)) hb)
                                        have n1_ := Aside0.mk (below_step (by repeat (first | (with_reducible first | exact HB.out | apply below_alloc | apply pw_below_drewN | apply below_drew1) | exact HB.out)) hb)
                                        have n2_ := Aside0.mk (hbox)
                                        have n3_ := Aside0.mk ((by rw [hg]; exact (below_size (by repeat (first | (with_reducible first | exact HB.out | apply below_alloc | apply pw_below_drewN | apply below_drew1) | exact HB.out))) : w.heap.size ≤ gb184))
                                        have n4_ := Aside0.mk ((by rw [hg]; exact (below_size (by repeat (first | (with_reducible first | exact HB.out | apply below_alloc | apply pw_below_drewN | apply below_drew1) | exact HB.out))) : w.heap.size ≤ gb184))
                                        clear HO_9
                                        clear HB
                                        have HO_9 := n0_
                                        have HB := n1_
                                        have BK184 := n2_
                                        have GW184 := n3_
                                        have GE184 := n4_
                                        clear n0_ n1_ n2_ n3_ n4_
                                        clear hb hbox hg
                                        refine hK.out _ _ ⟨((HB.out.cell (World.block_lt_of_cell? w _ hw180_0)).trans hw180_0), ((HB.out.cell (World.block_lt_of_cell? w _ hw182_0)).trans hw182_0)⟩ (fun hHeld => ?_)
                                        clear hK K
                                        refine norm_ (a' := ?_) ?_ ?_
                                        rotate_left
                                        · show Act.put _ (some 11) _ = _
                                          simp only [Act.put, List.setIfInBounds_toArray, List.set_cons_zero, List.set_cons_succ, i64_w, i32_w]
                                          rfl
                                        exact norm_ (by simp only [putAll, Act.put, List.setIfInBounds_toArray, List.set_cons_zero, List.set_cons_succ]) (hCont (gb184) _ ⟨hHeld, (by (with_reducible repeat (first | apply Kd.R_alloc | apply Kd.R_drewN | apply Kd.R_drew)); exact Kd.R_mono HO_9.out (fun _ hk => hk.2)), (by (with_reducible repeat (first | refine blk_drewN ?_ _ | refine blk_drew ?_ | refine blk_alloc ?_ _)); exact BK184.out), GW184.out, GE184.out, (by repeat (first | (with_reducible first | exact HB.out | apply below_alloc | apply pw_below_drewN | apply below_drew1 | refine below_set ?_ GE184.out) | exact HB.out))⟩)
                                      · skip
                                        refine box_step ?hg (N := 11) ?hd (cs := #[.string (⟨#[]⟩ : ByteArray), .string (⟨#[]⟩ : ByteArray)]) (t := 42) ?hr ?_; (case hd => rfl); (case hg => rfl); (case hr => first | (go_simp; done) | (go_simp; rfl))
                                        intro gb184 hg w93 hbox hb
                                        have n0_ := Aside0.mk (Kd.R_below (Kd.R_elderB (by (with_reducible repeat (first | apply Kd.R_alloc | apply Kd.R_drewN | apply Kd.R_drew)); exact HO_9.out) gb184 (Nat.le_of_eq hg.symm)) hb)
                                        have n1_ := Aside0.mk (below_step (by repeat (first | (with_reducible first | exact HB.out | apply below_alloc | apply pw_below_drewN | apply below_drew1) | exact HB.out)) hb)
                                        have n2_ := Aside0.mk (hbox)
                                        have n3_ := Aside0.mk ((by rw [hg]; exact (below_size (by repeat (first | (with_reducible first | exact HB.out | apply below_alloc | apply pw_below_drewN | apply below_drew1) | exact HB.out))) : w.heap.size ≤ gb184))
                                        have n4_ := Aside0.mk ((by rw [hg]; exact (below_size (by repeat (first | (with_reducible first | exact HB.out | apply below_alloc | apply pw_below_drewN | apply below_drew1) | exact HB.out))) : w.heap.size ≤ gb184))
                                        clear HO_9
                                        clear HB
                                        have HO_9 := n0_
                                        have HB := n1_
                                        have BK184 := n2_
                                        have GW184 := n3_
                                        have GE184 := n4_
                                        clear n0_ n1_ n2_ n3_ n4_
                                        clear hb hbox hg
                                        refine hK.out _ _ ⟨((HB.out.cell (World.block_lt_of_cell? w _ hw180_0)).trans hw180_0), ((HB.out.cell (World.block_lt_of_cell? w _ hw182_0)).trans hw182_0)⟩ (fun hHeld => ?_)
                                        clear hK K
                                        refine norm_ (a' := ?_) ?_ ?_
                                        rotate_left
                                        · show Act.put _ (some 11) _ = _
                                          simp only [Act.put, List.setIfInBounds_toArray, List.set_cons_zero, List.set_cons_succ, i64_w, i32_w]
                                          rfl
                                        refine one_ (i := 9) (N := some 47) #[true, true, true, true, true, true, true, true, true, true, false, true, false] rfl rfl (one_of HT_.out (by kernel_rfl)) (by decide) (fun K hK => ?_)
                                        refine goes_ Try.func32 (by kernel_rfl) rfl #[.slice A182_0 (rd_L3 l1 x10_2).length c182_0] (by rfl) rfl rfl (by (try simp only [List.map_toArray, List.map_cons, List.map_nil]); first | done | rfl | (simp only [List.length_drop, List.length_take]; rfl)) ?_
                                        with_reducible refine (winklelaw12_valued.calls kj5 _ _ (rd_L3 l1 x10_2) t183 _ ?side1 ?side2 A14.out).mono ?_
                                        (case side1 => repeat (first | exact (Kd.C_below HR182_0.out HB.out) | (with_reducible refine Kd.C_alloc ?_ _) | (with_reducible refine Kd.C_drewN ?_ _) | (with_reducible refine Kd.C_drew ?_)))
                                        (case side2 => exact HC182_0.out)
                                        rintro e w94 ⟨rfl, hb⟩
                                        refine ⟨_, rfl, ?_⟩
                                        have n0_ := Aside0.mk (Kd.R_below (by (with_reducible repeat (first | apply Kd.R_alloc | apply Kd.R_drewN | apply Kd.R_drew)); exact HO_9.out) hb)
                                        have n1_ := Aside0.mk (blk_below (g := gb184) (o := .cells #[.string (⟨#[]⟩ : ByteArray), .string (⟨#[]⟩ : ByteArray)] 42 (0, 0)) (by (with_reducible repeat (first | refine blk_drewN ?_ _ | refine blk_drew ?_ | refine blk_alloc ?_ _)); exact BK184.out) hb)
                                        have n2_ := Aside0.mk (below_step (by repeat (first | (with_reducible first | exact HB.out | apply below_alloc | apply pw_below_drewN | apply below_drew1 | refine below_set ?_ GE184.out) | exact HB.out)) hb)
                                        clear HO_9
                                        clear BK184
                                        clear HB
                                        have HO_9 := n0_
                                        have BK184 := n1_
                                        have HB := n2_
                                        clear n0_ n1_ n2_
                                        (try clear hb)
                                        (try clear hb2)
                                        (try clear hk)
                                        (try clear hi)
                                        refine hK.out _ _ ⟨((HB.out.cell (World.block_lt_of_cell? w _ hw180_0)).trans hw180_0), ((HB.out.cell (World.block_lt_of_cell? w _ hw182_0)).trans hw182_0)⟩ (fun hHeld => ?_)
                                        clear hK K
                                        refine norm_ (a' := ?_) ?_ ?_
                                        rotate_left
                                        · show Act.put _ (some 47) _ = _
                                          simp only [Act.put, List.setIfInBounds_toArray, List.set_cons_zero, List.set_cons_succ, i64_w, i32_w]
                                          rfl
                                        refine pure_ (i := 10) (N := some 48) (v := ?_) (a' := ?_) #[true, true, true, true, true, true, true, true, true, true, true, true, false] rfl rfl (any_of HT_.out (by kernel_rfl)) (fun _ _ _ h => h) (Or.inl ⟨by rfl, ?_⟩) ?_ ?_
                                        rotate_left
                                        · intro w'
                                          go_simp
                                          with_reducible rfl
                                        rotate_left
                                        · simp only [Act.put, List.setIfInBounds_toArray, List.set_cons_zero, List.set_cons_succ, i64_w, i32_w]
                                          rfl
                                        exact norm_ (by simp only [putAll, Act.put, List.setIfInBounds_toArray, List.set_cons_zero, List.set_cons_succ]) (hCont (gb184) _ ⟨hHeld, (by (with_reducible repeat (first | apply Kd.R_alloc | apply Kd.R_drewN | apply Kd.R_drew)); exact Kd.R_mono HO_9.out (fun _ hk => hk.2)), (by (with_reducible repeat (first | refine blk_drewN ?_ _ | refine blk_drew ?_ | refine blk_alloc ?_ _)); exact BK184.out), GW184.out, GE184.out, (by repeat (first | (with_reducible first | exact HB.out | apply below_alloc | apply pw_below_drewN | apply below_drew1 | refine below_set ?_ GE184.out) | exact HB.out))⟩)
                                    · skip
                                      refine box_step ?hg (N := 11) ?hd (cs := #[.string (⟨#[]⟩ : ByteArray), .string (⟨#[]⟩ : ByteArray)]) (t := 42) ?hr ?_; (case hd => rfl); (case hg => rfl); (case hr => first | (go_simp; done) | (go_simp; rfl))
                                      intro gb184 hg w92 hbox hb
                                      have n0_ := Aside0.mk (Kd.R_below (Kd.R_elderB (by (with_reducible repeat (first | apply Kd.R_alloc | apply Kd.R_drewN | apply Kd.R_drew)); exact HO_9.out) gb184 (Nat.le_of_eq hg.symm)) hb)
                                      have n1_ := Aside0.mk (below_step (by repeat (first | (with_reducible first | exact HB.out | apply below_alloc | apply pw_below_drewN | apply below_drew1) | exact HB.out)) hb)
                                      have n2_ := Aside0.mk (hbox)
                                      have n3_ := Aside0.mk ((by rw [hg]; exact (below_size (by repeat (first | (with_reducible first | exact HB.out | apply below_alloc | apply pw_below_drewN | apply below_drew1) | exact HB.out))) : w.heap.size ≤ gb184))
                                      have n4_ := Aside0.mk ((by rw [hg]; exact (below_size (by repeat (first | (with_reducible first | exact HB.out | apply below_alloc | apply pw_below_drewN | apply below_drew1) | exact HB.out))) : w.heap.size ≤ gb184))
                                      clear HO_9
                                      clear HB
                                      have HO_9 := n0_
                                      have HB := n1_
                                      have BK184 := n2_
                                      have GW184 := n3_
                                      have GE184 := n4_
                                      clear n0_ n1_ n2_ n3_ n4_
                                      clear hb hbox hg
                                      refine hK.out _ _ ⟨((HB.out.cell (World.block_lt_of_cell? w _ hw180_0)).trans hw180_0), ((HB.out.cell (World.block_lt_of_cell? w _ hw182_0)).trans hw182_0)⟩ (fun hHeld => ?_)
                                      clear hK K
                                      refine norm_ (a' := ?_) ?_ ?_
                                      rotate_left
                                      · show Act.put _ (some 11) _ = _
                                        simp only [Act.put, List.setIfInBounds_toArray, List.set_cons_zero, List.set_cons_succ, i64_w, i32_w]
                                        rfl
                                      refine one_ (i := 4) (N := some 42) #[true, true, true, true, true, true, true, true, true, false, false, true, false] rfl rfl (one_of HT_.out (by kernel_rfl)) (by decide) (fun K hK => ?_)
                                      refine goes_ Try.func31 (by kernel_rfl) rfl #[.slice A180_0 (rd_L3 l0 x10_2).length c180_0] (by rfl) rfl rfl (by (try simp only [List.map_toArray, List.map_cons, List.map_nil]); first | done | rfl | (simp only [List.length_drop, List.length_take]; rfl)) ?_
                                      with_reducible refine (winklelaw12_named.calls kj5 _ _ (rd_L3 l0 x10_2) t181 _ ?side1 ?side2 A12.out).mono ?_
                                      (case side1 => repeat (first | exact (Kd.C_below HR180_0.out HB.out) | (with_reducible refine Kd.C_alloc ?_ _) | (with_reducible refine Kd.C_drewN ?_ _) | (with_reducible refine Kd.C_drew ?_)))
                                      (case side2 => exact HC180_0.out)
                                      rintro e w93 ⟨rfl, hb⟩
                                      refine ⟨_, rfl, ?_⟩
                                      have n0_ := Aside0.mk (Kd.R_below (by (with_reducible repeat (first | apply Kd.R_alloc | apply Kd.R_drewN | apply Kd.R_drew)); exact HO_9.out) hb)
                                      have n1_ := Aside0.mk (blk_below (g := gb184) (o := .cells #[.string (⟨#[]⟩ : ByteArray), .string (⟨#[]⟩ : ByteArray)] 42 (0, 0)) (by (with_reducible repeat (first | refine blk_drewN ?_ _ | refine blk_drew ?_ | refine blk_alloc ?_ _)); exact BK184.out) hb)
                                      have n2_ := Aside0.mk (below_step (by repeat (first | (with_reducible first | exact HB.out | apply below_alloc | apply pw_below_drewN | apply below_drew1 | refine below_set ?_ GE184.out) | exact HB.out)) hb)
                                      clear HO_9
                                      clear BK184
                                      clear HB
                                      have HO_9 := n0_
                                      have BK184 := n1_
                                      have HB := n2_
                                      clear n0_ n1_ n2_
                                      (try clear hb)
                                      (try clear hb2)
                                      (try clear hk)
                                      (try clear hi)
                                      refine hK.out _ _ ⟨((HB.out.cell (World.block_lt_of_cell? w _ hw180_0)).trans hw180_0), ((HB.out.cell (World.block_lt_of_cell? w _ hw182_0)).trans hw182_0)⟩ (fun hHeld => ?_)
                                      clear hK K
                                      refine norm_ (a' := ?_) ?_ ?_
                                      rotate_left
                                      · show Act.put _ (some 42) _ = _
                                        simp only [Act.put, List.setIfInBounds_toArray, List.set_cons_zero, List.set_cons_succ, i64_w, i32_w]
                                        rfl
                                      refine one_ (i := 9) (N := some 47) #[true, true, true, true, true, true, true, true, true, true, false, true, false] rfl rfl (one_of HT_.out (by kernel_rfl)) (by decide) (fun K hK => ?_)
                                      refine goes_ Try.func32 (by kernel_rfl) rfl #[.slice A182_0 (rd_L3 l1 x10_2).length c182_0] (by rfl) rfl rfl (by (try simp only [List.map_toArray, List.map_cons, List.map_nil]); first | done | rfl | (simp only [List.length_drop, List.length_take]; rfl)) ?_
                                      with_reducible refine (winklelaw12_valued.calls kj5 _ _ (rd_L3 l1 x10_2) t183 _ ?side1 ?side2 A14.out).mono ?_
                                      (case side1 => repeat (first | exact (Kd.C_below HR182_0.out HB.out) | (with_reducible refine Kd.C_alloc ?_ _) | (with_reducible refine Kd.C_drewN ?_ _) | (with_reducible refine Kd.C_drew ?_)))
                                      (case side2 => exact HC182_0.out)
                                      rintro e w94 ⟨rfl, hb⟩
                                      refine ⟨_, rfl, ?_⟩
                                      have n0_ := Aside0.mk (Kd.R_below (by (with_reducible repeat (first | apply Kd.R_alloc | apply Kd.R_drewN | apply Kd.R_drew)); exact HO_9.out) hb)
                                      have n1_ := Aside0.mk (blk_below (g := gb184) (o := .cells #[.string (⟨#[]⟩ : ByteArray), .string (⟨#[]⟩ : ByteArray)] 42 (0, 0)) (by (with_reducible repeat (first | refine blk_drewN ?_ _ | refine blk_drew ?_ | refine blk_alloc ?_ _)); exact BK184.out) hb)
                                      have n2_ := Aside0.mk (below_step (by repeat (first | (with_reducible first | exact HB.out | apply below_alloc | apply pw_below_drewN | apply below_drew1 | refine below_set ?_ GE184.out) | exact HB.out)) hb)
                                      clear HO_9
                                      clear BK184
                                      clear HB
                                      have HO_9 := n0_
                                      have BK184 := n1_
                                      have HB := n2_
                                      clear n0_ n1_ n2_
                                      (try clear hb)
                                      (try clear hb2)
                                      (try clear hk)
                                      (try clear hi)
                                      refine hK.out _ _ ⟨((HB.out.cell (World.block_lt_of_cell? w _ hw180_0)).trans hw180_0), ((HB.out.cell (World.block_lt_of_cell? w _ hw182_0)).trans hw182_0)⟩ (fun hHeld => ?_)
                                      clear hK K
                                      refine norm_ (a' := ?_) ?_ ?_
                                      rotate_left
                                      · show Act.put _ (some 47) _ = _
                                        simp only [Act.put, List.setIfInBounds_toArray, List.set_cons_zero, List.set_cons_succ, i64_w, i32_w]
                                        rfl
                                      refine pure_ (i := 10) (N := some 48) (v := ?_) (a' := ?_) #[true, true, true, true, true, true, true, true, true, true, true, true, false] rfl rfl (any_of HT_.out (by kernel_rfl)) (fun _ _ _ h => h) (Or.inl ⟨by rfl, ?_⟩) ?_ ?_
                                      rotate_left
                                      · intro w'
                                        go_simp
                                        with_reducible rfl
                                      rotate_left
                                      · simp only [Act.put, List.setIfInBounds_toArray, List.set_cons_zero, List.set_cons_succ, i64_w, i32_w]
                                        rfl
                                      exact norm_ (by simp only [putAll, Act.put, List.setIfInBounds_toArray, List.set_cons_zero, List.set_cons_succ]) (hCont (gb184) _ ⟨hHeld, (by (with_reducible repeat (first | apply Kd.R_alloc | apply Kd.R_drewN | apply Kd.R_drew)); exact Kd.R_mono HO_9.out (fun _ hk => hk.2)), (by (with_reducible repeat (first | refine blk_drewN ?_ _ | refine blk_drew ?_ | refine blk_alloc ?_ _)); exact BK184.out), GW184.out, GE184.out, (by repeat (first | (with_reducible first | exact HB.out | apply below_alloc | apply pw_below_drewN | apply below_drew1 | refine below_set ?_ GE184.out) | exact HB.out))⟩)
                                  rintro gb184 w95 ⟨hS_, h0_, h1_, h2_, h3_, h4_⟩
                                  have n0_ : Aside0 (Kd.R k42 42 w95 w.heap.size (fun k_ => k_ ≠ gb184) u9 x9_2) := ⟨h0_⟩
                                  have n1_ : Aside0 (w95.heap[gb184]? = some (.cells #[.string (⟨#[]⟩ : ByteArray), .string (⟨#[]⟩ : ByteArray)] 42 (0, 0))) := ⟨h1_⟩
                                  have n2_ : Aside0 (w.heap.size ≤ gb184) := ⟨h2_⟩
                                  have n3_ : Aside0 (w.heap.size ≤ gb184) := ⟨h3_⟩
                                  have n4_ : Aside0 (Below w.heap.size w w95) := ⟨h4_⟩
                                  clear HO_9
                                  clear HB
                                  clear h0_ h1_ h2_ h3_ h4_
                                  have HO_9 := n0_
                                  have BK184 := n1_
                                  have GW184 := n2_
                                  have GE184 := n3_
                                  have HB := n4_
                                  clear n0_ n1_ n2_ n3_ n4_
                                  have hHeld : w95.cell? (ad180.add (x10_2).toNat) = some (.slice A180_0 (rd_L3 l0 x10_2).length c180_0) ∧ w95.cell? (ad182.add (x10_2).toNat) = some (.slice A182_0 (rd_L3 l1 x10_2).length c182_0) := hS_
                                  refine norm_ (a' := ?_) ?_ ?_
                                  rotate_left
                                  · simp only [putAll, Act.put, List.setIfInBounds_toArray, List.set_cons_zero, List.set_cons_succ]
                                    rfl
                                  refine one_ (i := 12) (N := none) #[true, true, true, true, true, true, true, true, true, true, true, true, true] rfl rfl (one_of HT_.out (by kernel_rfl)) (by decide) (fun K hK => ?_)
                                  have hs96 : w95.cell? ⟨gb184, 0, none⟩ = some (.string (⟨#[]⟩ : ByteArray)) := (blk_cell BK184.out 0).trans rfl
                                  have hfs96 := blk_frozen BK184.out 0
                                  have hs97 : w95.cell? ⟨gb184, 1, none⟩ = some (.string (⟨#[]⟩ : ByteArray)) := (blk_cell BK184.out 1).trans rfl
                                  have hfs97 := blk_frozen BK184.out 1
                                  refine skip_ (w1 := ?_) (by rfl) rfl ?_ ?_
                                  rotate_left
                                  · go_simp
                                    rfl
                                  refine hK.out _ _ ⟨((cell_far (p := ⟨gb184, _, none⟩) (by first | exact Nat.ne_of_lt (Nat.lt_of_lt_of_le (by have := World.block_lt_of_cell? _ _ hw180_0; first | rwa [add_block] at this | exact this) GW184.out) | (rw [add_block]; exact Nat.ne_of_lt (Nat.lt_of_lt_of_le (by have := World.block_lt_of_cell? _ _ hw180_0; first | rwa [add_block] at this | exact this) GW184.out)) | (show (Addr.add _ _).block ≠ _; rw [add_block]; exact Nat.ne_of_lt (Nat.lt_of_lt_of_le (by have := World.block_lt_of_cell? _ _ hw180_0; first | rwa [add_block] at this | exact this) GW184.out)) | (dsimp only; exact Nat.ne_of_lt (Nat.lt_of_lt_of_le (by have := World.block_lt_of_cell? _ _ hw180_0; first | rwa [add_block] at this | exact this) GW184.out))) _).trans (((cell_far (p := ⟨gb184, _, none⟩) (by first | exact Nat.ne_of_lt (Nat.lt_of_lt_of_le (by have := World.block_lt_of_cell? _ _ hw180_0; first | rwa [add_block] at this | exact this) GW184.out) | (rw [add_block]; exact Nat.ne_of_lt (Nat.lt_of_lt_of_le (by have := World.block_lt_of_cell? _ _ hw180_0; first | rwa [add_block] at this | exact this) GW184.out)) | (show (Addr.add _ _).block ≠ _; rw [add_block]; exact Nat.ne_of_lt (Nat.lt_of_lt_of_le (by have := World.block_lt_of_cell? _ _ hw180_0; first | rwa [add_block] at this | exact this) GW184.out)) | (dsimp only; exact Nat.ne_of_lt (Nat.lt_of_lt_of_le (by have := World.block_lt_of_cell? _ _ hw180_0; first | rwa [add_block] at this | exact this) GW184.out))) _).trans (hHeld.1)))), ((cell_far (p := ⟨gb184, _, none⟩) (by first | exact Nat.ne_of_lt (Nat.lt_of_lt_of_le (by have := World.block_lt_of_cell? _ _ hw182_0; first | rwa [add_block] at this | exact this) GW184.out) | (rw [add_block]; exact Nat.ne_of_lt (Nat.lt_of_lt_of_le (by have := World.block_lt_of_cell? _ _ hw182_0; first | rwa [add_block] at this | exact this) GW184.out)) | (show (Addr.add _ _).block ≠ _; rw [add_block]; exact Nat.ne_of_lt (Nat.lt_of_lt_of_le (by have := World.block_lt_of_cell? _ _ hw182_0; first | rwa [add_block] at this | exact this) GW184.out)) | (dsimp only; exact Nat.ne_of_lt (Nat.lt_of_lt_of_le (by have := World.block_lt_of_cell? _ _ hw182_0; first | rwa [add_block] at this | exact this) GW184.out))) _).trans (((cell_far (p := ⟨gb184, _, none⟩) (by first | exact Nat.ne_of_lt (Nat.lt_of_lt_of_le (by have := World.block_lt_of_cell? _ _ hw182_0; first | rwa [add_block] at this | exact this) GW184.out) | (rw [add_block]; exact Nat.ne_of_lt (Nat.lt_of_lt_of_le (by have := World.block_lt_of_cell? _ _ hw182_0; first | rwa [add_block] at this | exact this) GW184.out)) | (show (Addr.add _ _).block ≠ _; rw [add_block]; exact Nat.ne_of_lt (Nat.lt_of_lt_of_le (by have := World.block_lt_of_cell? _ _ hw182_0; first | rwa [add_block] at this | exact this) GW184.out)) | (dsimp only; exact Nat.ne_of_lt (Nat.lt_of_lt_of_le (by have := World.block_lt_of_cell? _ _ hw182_0; first | rwa [add_block] at this | exact this) GW184.out))) _).trans (hHeld.2))))⟩ (fun hHeld => ?_)
                                  clear hK K
                                  refine done_ (done_of HT_.out (by kernel_rfl)) ?_
                                  have hcz98_0 : w95.cell? ⟨gb184, 0, none⟩ = some (.string (⟨#[]⟩ : ByteArray)) := (blk_cell BK184.out 0).trans rfl
                                  have hcz98_1 : w95.cell? ⟨gb184, 1, none⟩ = some (.string (⟨#[]⟩ : ByteArray)) := (blk_cell BK184.out 1).trans rfl
                                  have hfz98_0 := blk_frozen BK184.out 0
                                  have hfz98_1 := blk_frozen BK184.out 1
                                  try go_wp2_with (first | ((with_reducible refine gate_builtin (b := .append) (xs := #[.tmp 49, .tmp 51]) rfl ?_); (try (refine gate_guard (by rfl) ?_; dsimp only)); at_builtin; refine Kd.R_append k42 (w0 := w) w.heap.size rfl (.tmp 49) (.tmp 51) 23 42 (.agg #[(.string ⟨#[]⟩), (.string ⟨#[]⟩)]) 32 rfl Try.underlying23 info42 rfl (by decide) (by omega) u9 x9_2 (⟨t181, t183⟩ : S42) [.string t181, .string t183] (fun k_ => k_ ≠ gb184) (fun _ => False) rfl (by first | (go_simp; done) | (go_simp; rfl)) ?aP (fun _ hk => hk.elim) ?aF ?aO ?aB ?aS ?aL ?_; (case aP => exact k42_mkM _ _ _ (⟨t181, t183⟩ : S42)); (case aB => exact (by repeat (first | (with_reducible first | exact HB.out | apply below_alloc | apply pw_below_drewN | apply below_drew1 | refine below_set ?_ GE184.out) | exact HB.out))); (case aF => exact (fun k_ hk => Kd.freshB (g := gb184) (o := .cells #[.string t181, .string t183] 42 (0, 0)) (by (with_reducible repeat (first | refine blk_drewN ?_ _ | refine blk_drew ?_ | refine blk_alloc ?_ _)); refine blk_put (cs := #[.string t181, .string (⟨#[]⟩ : ByteArray)]) ?_ 1 _ rfl; (with_reducible repeat (first | refine blk_drewN ?_ _ | refine blk_drew ?_ | refine blk_alloc ?_ _)); refine blk_put (cs := #[.string (⟨#[]⟩ : ByteArray), .string (⟨#[]⟩ : ByteArray)]) ?_ 0 _ rfl; (with_reducible repeat (first | refine blk_drewN ?_ _ | refine blk_drew ?_ | refine blk_alloc ?_ _)); exact BK184.out) k_ hk)); (case aO => exact (by (with_reducible repeat (first | apply Kd.R_alloc | apply Kd.R_drewN | apply Kd.R_drew)); exact Kd.R_mono (Kd.R_far (p := ⟨gb184, 1, none⟩) (Kd.R_far (p := ⟨gb184, 0, none⟩) (Kd.R_mono HO_9.out (fun k_ hk => (⟨hk, hk⟩ : _ ∧ k_ ≠ gb184))) (fun _ hk => hk.2) (.string t181)) (fun _ hk => hk.2) (.string t183)) (fun _ hk => hk.1))); (case aS => exact (below_size (by repeat (first | (with_reducible first | exact HB.out | apply below_alloc | apply pw_below_drewN | apply below_drew1 | refine below_set ?_ GE184.out) | exact HB.out)))); (case aL => have := LMc15.out; omega); intro v186 w99 ho hb hg hat; rw [← Ny185.out] at ho; have n0_ := Aside0.mk (blk_grown (g := gb184) (o := .cells #[.string t181, .string t183] 42 (0, 0)) (by (with_reducible repeat (first | refine blk_drewN ?_ _ | refine blk_drew ?_ | refine blk_alloc ?_ _)); refine blk_put (cs := #[.string t181, .string (⟨#[]⟩ : ByteArray)]) ?_ 1 _ rfl; (with_reducible repeat (first | refine blk_drewN ?_ _ | refine blk_drew ?_ | refine blk_alloc ?_ _)); refine blk_put (cs := #[.string (⟨#[]⟩ : ByteArray), .string (⟨#[]⟩ : ByteArray)]) ?_ 0 _ rfl; (with_reducible repeat (first | refine blk_drewN ?_ _ | refine blk_drew ?_ | refine blk_alloc ?_ _)); exact BK184.out) hg (Kd.R_away HO_9.out (fun _ hk => hk))); have n1_ := Aside0.mk (hb); have n2_ := Aside0.mk (ho); clear BK184; clear HB; clear HO_9; have BK184 := n0_; have HB := n1_; have HO187 := n2_; clear n0_ n1_ n2_; clear ho hb hg hat; have hcz100_0 : w99.cell? ⟨gb184, 0, none⟩ = some (.string t181) := (blk_cell BK184.out 0).trans rfl; have hcz100_1 : w99.cell? ⟨gb184, 1, none⟩ = some (.string t183) := (blk_cell BK184.out 1).trans rfl; have hfz100_0 := blk_frozen BK184.out 0; have hfz100_1 := blk_frozen BK184.out 1))
                                  go_roundg kj5
                                  case measure => have := HJ3.out; have := HK2.out; have := HJ5.out; omega
                                  case rel => exact ⟨(x8_2 ++ (((t181 ++ (⟨#[58, 32]⟩ : ByteArray)) ++ t183) ++ x7_3)), (y185), (wrap64 (x10_2 + 1)), (by first | rfl | (simp; done) | (simp [*]; done) | (simp [isEmpty_bne]; done)), (by first | rfl | (simp; done) | (simp [*]; done) | (simp [isEmpty_bne]; done)), H', ⟨by have := HJ3.out; have := HK2.out; have := HJ5.out; omega⟩, ⟨by (with_reducible repeat (first | apply Kd.R_alloc | apply Kd.R_drewN | apply Kd.R_drew)); exact Kd.R_mono HO187.out (fun _ hk => trivial)⟩, ⟨by repeat (first | (with_reducible first | exact HB.out | apply below_alloc | apply pw_below_drewN | apply below_drew1 | refine below_set ?_ GE184.out) | exact HB.out)⟩⟩
                                · rw [if_neg c90] at H
                                  exact absurd H (by simp)
                              · rw [if_neg c89] at H
                                exact absurd H (by simp)
                            · rw [if_neg c88] at H
                              exact absurd H (by simp)
                          · rw [if_neg c87] at H
                            exact absurd H (by simp)
                      · rw [if_neg c15] at H
                        exact absurd H (by simp)
                    · rw [if_neg c13] at H
                      exact absurd H (by simp)
                  · rw [if_neg c11] at H
                    exact absurd H (by simp)
                · rw [if_neg c10] at H
                  exact absurd H (by simp)
              · replace c9 := Bool.eq_false_iff.mpr c9
                subst c9
                have H1 : (if x8_2.size + x7_3.size ≤ 9223372036854775807 then (if (x8_2 ++ x7_3).size + 4 ≤ 9223372036854775807 then ((header_Whole.f ((bytesOf ((x8_2 ++ x7_3) ++ (⟨#[98, 111, 100, 121]⟩ : ByteArray)))) 65536).bind fun bt172 => ((winkleref12_Fields.f kj5 bt172.1 x9_2).bind fun t178 => (if t178 = true then (if bt172.2.1 = (wrap64 ((x8_2.size : Int) + (x7_3.size : Int))) then (if bt172.2.2.1 = 0 then (if bt172.2.2.2 = 0 then ((winklelaw12_awake.f).bind fun t179 => (some t179)) else (some false)) else (some false)) else (some false)) else (some false)))) else (none)) else (none)) = some r := by rw [if_neg (show ¬ (false = true) by decide)] at H; exact H
                clear H
                have H := H1
                clear H1
                by_cases c101 : x8_2.size + x7_3.size ≤ 9223372036854775807
                · rw [if_pos c101] at H
                  have c101b0 := eq_true c101
                  have c101b1 : decide (x8_2.size + x7_3.size ≤ 9223372036854775807) = true := decide_eq_true c101
                  try have c101b2 : (9223372036854775807 < x8_2.size + x7_3.size) = False := eq_false (Nat.not_lt.2 c101)
                  by_cases c102 : (x8_2 ++ x7_3).size + 4 ≤ 9223372036854775807
                  · rw [if_pos c102] at H
                    have c102b0 := eq_true c102
                    have c102b1 : decide ((x8_2 ++ x7_3).size + 4 ≤ 9223372036854775807) = true := decide_eq_true c102
                    try have c102b2 : (9223372036854775807 < (x8_2 ++ x7_3).size + 4) = False := eq_false (Nat.not_lt.2 c102)
                    have c102b3 : (9223372036854775807 < x8_2.size + x7_3.size + 4) = False := eq_false (Nat.not_lt.2 (by have h_ := c102; rw [ByteArray.size_append] at h_; exact h_))
                    obtain ⟨y169, hy169⟩ : ∃ y_ : List Int, y_ = ((bytesOf ((x8_2 ++ x7_3) ++ (⟨#[98, 111, 100, 121]⟩ : ByteArray)))) := ⟨_, rfl⟩
                    replace H : ((header_Whole.f y169 65536).bind fun bt172 => ((winkleref12_Fields.f kj5 bt172.1 x9_2).bind fun t178 => (if t178 = true then (if bt172.2.1 = (wrap64 ((x8_2.size : Int) + (x7_3.size : Int))) then (if bt172.2.2.1 = 0 then (if bt172.2.2.2 = 0 then ((winklelaw12_awake.f).bind fun t179 => (some t179)) else (some false)) else (some false)) else (some false)) else (some false)))) = some r := by first | (rw [hy169]; with_reducible exact H) | (have H2_ := (Option.bind_some _ _).symm.trans H; rw [hy169]; with_reducible exact H2_) | (have H2_ := (Option.bind_some _ _).symm.trans H; with_reducible exact H2_) | with_reducible exact H | (rw [hy169]; exact H) | exact H
                    have Ny169 := Aside0.mk hy169
                    have CVS_ : ((x8_2 ++ x7_3) ++ (⟨#[98, 111, 100, 121]⟩ : ByteArray)).size ≤ 9223372036854775807 := by (rw [ByteArray.size_append]; exact c102)
                    clear hy169
                    replace H := Option.bind_eq_some_iff.mp H
                    obtain ⟨⟨t172, t173, t174, t175⟩, A1030, H⟩ := H
                    replace H : ((winkleref12_Fields.f kj5 t172 x9_2).bind fun t178 => (if t178 = true then (if t173 = (wrap64 ((x8_2.size : Int) + (x7_3.size : Int))) then (if t174 = 0 then (if t175 = 0 then ((winklelaw12_awake.f).bind fun t179 => (some t179)) else (some false)) else (some false)) else (some false)) else (some false))) = some r := H
                    have A103 := Aside0.mk A1030
                    clear A1030
                    replace H := Option.bind_eq_some_iff.mp H
                    obtain ⟨t178, A1040, H⟩ := H
                    replace H : (if t178 = true then (if t173 = (wrap64 ((x8_2.size : Int) + (x7_3.size : Int))) then (if t174 = 0 then (if t175 = 0 then ((winklelaw12_awake.f).bind fun t179 => (some t179)) else (some false)) else (some false)) else (some false)) else (some false)) = some r := H
                    have A104 := Aside0.mk A1040
                    clear A1040
                    by_cases c105 : t178 = true
                    · subst c105
                      have H1 : (if t173 = (wrap64 ((x8_2.size : Int) + (x7_3.size : Int))) then (if t174 = 0 then (if t175 = 0 then ((winklelaw12_awake.f).bind fun t179 => (some t179)) else (some false)) else (some false)) else (some false)) = some r := by rw [if_pos rfl] at H; exact H
                      clear H
                      have H := H1
                      clear H1
                      by_cases c106 : t173 = (wrap64 ((x8_2.size : Int) + (x7_3.size : Int)))
                      · rw [if_pos c106] at H
                        have c106b0 : (t173 == (wrap64 ((x8_2.size : Int) + (x7_3.size : Int)))) = true := beq_iff_eq.mpr c106
                        have hw_ : wrap64 ((x8_2.size : Int) + (x7_3.size : Int)) = ((x8_2.size : Int) + (x7_3.size : Int)) := by unfold wrap64; omega
                        have c106b4 : (t173 == ((x8_2.size : Int) + (x7_3.size : Int))) = true := by rw [← hw_]; exact c106b0
                        have c106b5 : (t173 = ((x8_2.size : Int) + (x7_3.size : Int))) = True := by rw [← hw_]; exact eq_true c106
                        clear hw_
                        have c106b1 : (t173 != (wrap64 ((x8_2.size : Int) + (x7_3.size : Int)))) = false := bne_eq_false_iff_eq.mpr c106
                        clear c106
                        by_cases c107 : t174 = 0
                        · rw [if_pos c107] at H
                          have c107b0 : (t174 == 0) = true := beq_iff_eq.mpr c107
                          have c107b1 : (t174 != 0) = false := bne_eq_false_iff_eq.mpr c107
                          clear c107
                          by_cases c108 : t175 = 0
                          · rw [if_pos c108] at H
                            have c108b0 : (t175 == 0) = true := beq_iff_eq.mpr c108
                            have c108b1 : (t175 != 0) = false := bne_eq_false_iff_eq.mpr c108
                            clear c108
                            replace H := Option.bind_eq_some_iff.mp H
                            obtain ⟨t179, A1090, H⟩ := H
                            replace H : (some t179) = some r := H
                            have A109 := Aside0.mk A1090
                            clear A1090
                            obtain rfl := Option.some.inj H
                            go_wp2_with (first | ((with_reducible refine gate_dst (N := 117) rfl ?_); (try (refine gate_guard (by rfl) ?_; dsimp only)); refine CV_event ?hg (N := 117) ?hd ((x8_2 ++ x7_3) ++ (⟨#[98, 111, 100, 121]⟩ : ByteArray)) ?hs ?hr ?_; (case hd => rfl); (case hg => rfl); (case hs => exact CVS_); (case hr => first | (go_simp; done) | (go_simp; rfl)); intro v170 w110 ho111 hb; (rw [← Ny169.out] at ho111); have n0_ := Aside0.mk (Kd.R_below (by (with_reducible repeat (first | apply Kd.R_alloc | apply Kd.R_drewN | apply Kd.R_drew)); exact HO_9.out) hb); have n1_ := Aside0.mk ho111; have n2_ := Aside0.mk (below_step (by repeat (first | (with_reducible first | exact HB.out | apply below_alloc | apply pw_below_drewN | apply below_drew1) | exact HB.out)) hb); clear HO_9; clear HB; have HO_9 := n0_; have HO171 := n1_; have HB := n2_; clear n0_ n1_ n2_; clear hb ho111; obtain ⟨Ao112, co112, eo112⟩ := CV_slice HO171.out; subst eo112) | ((with_reducible refine gate_callee (f := 21) rfl ?_); refine goesL_ (some 118) rfl rfl Try.func21 (by kernel_rfl) rfl #[.slice Ao112 y169.length co112, .int .i64 65536] rfl (by (try simp only [List.map_toArray, List.map_cons, List.map_nil]); first | done | rfl | (simp only [List.length_drop, List.length_take]; rfl)) ?_; (with_reducible refine (header_Whole.calls _ _ y169 65536 t172 t173 t174 t175 _ ?side1 ?side2 A103.out).mono ?_); (case side1 => repeat (first | exact (CV_reads HO171.out).2.2 | (with_reducible refine Kd.C_alloc ?_ _) | (with_reducible refine Kd.C_drewN ?_ _) | (with_reducible refine Kd.C_drew ?_))); (case side2 => exact (CV_reads HO171.out).2.1); rintro e w113 ⟨v176, rfl, ho0, hb⟩; refine ⟨_, rfl, ?_⟩; have n0_ := Aside0.mk (Kd.R_elder' (by (with_reducible repeat (first | apply Kd.R_alloc | apply Kd.R_drewN | apply Kd.R_drew)); exact HO_9.out) (Kd.R_base ho0) hb); have n1_ := Aside0.mk (CV_below (by (with_reducible repeat (first | apply CV_alloc | apply CV_drewN | apply CV_drew)); exact HO171.out) hb); have n2_ := Aside0.mk (Kd.R_lower (Kd.R_new' ho0 (Kd.R_lt (by (with_reducible repeat (first | apply Kd.R_alloc | apply Kd.R_drewN | apply Kd.R_drew)); exact HO_9.out))) (below_size (by repeat (first | (with_reducible first | exact HB.out | apply below_alloc | apply pw_below_drewN | apply below_drew1) | exact HB.out)))); have n3_ := Aside0.mk (below_step (by repeat (first | (with_reducible first | exact HB.out | apply below_alloc | apply pw_below_drewN | apply below_drew1) | exact HB.out)) hb); clear HO_9; clear HO171; clear HB; have HO_9 := n0_; have HO171 := n1_; have HO177 := n2_; have HB := n3_; clear n0_ n1_ n2_ n3_; (try clear hb); (try clear hb2); (try clear hk); (try clear hi); (try clear ho0); obtain ⟨Ao114, co114, eo114⟩ := Kd.R_slice HO177.out; subst eo114; obtain ⟨Ao115, co115, eo115⟩ := Kd.R_slice HO_9.out; subst eo115) | ((with_reducible refine gate_callee (f := 24) rfl ?_); refine goesL_ (some 125) rfl rfl Try.func24 (by kernel_rfl) rfl #[.slice Ao114 t172.length co114, .slice Ao115 x9_2.length co115] rfl (by (try simp only [List.map_toArray, List.map_cons, List.map_nil]); first | done | rfl | (simp only [List.length_drop, List.length_take]; rfl)) ?_; (with_reducible refine (winkleref12_Fields.calls kj5 _ _ t172 _ _ x9_2 true _ ?side1 ?side2 ?side3 ?side4 A104.out).mono ?_); (case side1 => repeat (first | exact (Kd.R_reads' HO177.out).2.2 | (with_reducible refine Kd.C_alloc ?_ _) | (with_reducible refine Kd.C_drewN ?_ _) | (with_reducible refine Kd.C_drew ?_))); (case side2 => exact (Kd.R_reads' HO177.out).2.1); (case side3 => repeat (first | exact (Kd.R_reads' HO_9.out).2.2 | (with_reducible refine Kd.C_alloc ?_ _) | (with_reducible refine Kd.C_drewN ?_ _) | (with_reducible refine Kd.C_drew ?_))); (case side4 => exact (Kd.R_reads' HO_9.out).2.1); rintro e w' ⟨rfl, ⟨nd, rfl⟩⟩; refine ⟨_, rfl, ?_⟩) | (go_at_call 22; (with_reducible refine (winklelaw12_awake.calls  t179 _ A109.out).mono ?_); rintro e w116 ⟨rfl, hb⟩; have n0_ := Aside0.mk (Kd.R_below (by (with_reducible repeat (first | apply Kd.R_alloc | apply Kd.R_drewN | apply Kd.R_drew)); exact HO_9.out) hb); have n1_ := Aside0.mk (CV_below (by (with_reducible repeat (first | apply CV_alloc | apply CV_drewN | apply CV_drew)); exact HO171.out) hb); have n2_ := Aside0.mk (Kd.R_below (by (with_reducible repeat (first | apply Kd.R_alloc | apply Kd.R_drewN | apply Kd.R_drew)); exact HO177.out) hb); have n3_ := Aside0.mk (below_step (by repeat (first | (with_reducible first | exact HB.out | apply below_alloc | apply pw_below_drewN | apply below_drew1) | exact HB.out)) hb); clear HO_9; clear HO171; clear HO177; clear HB; have HO_9 := n0_; have HO171 := n1_; have HO177 := n2_; have HB := n3_; clear n0_ n1_ n2_ n3_; (try clear hb); (try clear hb2); (try clear hk); (try clear hi)))
                            go_ret
                            exact ⟨by first | rfl | (simp [errW_none, errW_some] <;> rfl) | (simp [*, errW_none, errW_some] <;> rfl), by repeat (first | (with_reducible first | exact HB.out | apply below_alloc | apply pw_below_drewN | apply below_drew1) | exact HB.out)⟩
                          · rw [if_neg c108] at H
                            have c108b0 : (t175 == 0) = false := beq_eq_false_iff_ne.mpr c108
                            have c108b1 : (t175 != 0) = true := bne_iff_ne.mpr c108
                            obtain rfl := Option.some.inj H
                            go_wp2_with (first | ((with_reducible refine gate_dst (N := 117) rfl ?_); (try (refine gate_guard (by rfl) ?_; dsimp only)); refine CV_event ?hg (N := 117) ?hd ((x8_2 ++ x7_3) ++ (⟨#[98, 111, 100, 121]⟩ : ByteArray)) ?hs ?hr ?_; (case hd => rfl); (case hg => rfl); (case hs => exact CVS_); (case hr => first | (go_simp; done) | (go_simp; rfl)); intro v170 w117 ho118 hb; (rw [← Ny169.out] at ho118); have n0_ := Aside0.mk (Kd.R_below (by (with_reducible repeat (first | apply Kd.R_alloc | apply Kd.R_drewN | apply Kd.R_drew)); exact HO_9.out) hb); have n1_ := Aside0.mk ho118; have n2_ := Aside0.mk (below_step (by repeat (first | (with_reducible first | exact HB.out | apply below_alloc | apply pw_below_drewN | apply below_drew1) | exact HB.out)) hb); clear HO_9; clear HB; have HO_9 := n0_; have HO171 := n1_; have HB := n2_; clear n0_ n1_ n2_; clear hb ho118; obtain ⟨Ao119, co119, eo119⟩ := CV_slice HO171.out; subst eo119) | ((with_reducible refine gate_callee (f := 21) rfl ?_); refine goesL_ (some 118) rfl rfl Try.func21 (by kernel_rfl) rfl #[.slice Ao119 y169.length co119, .int .i64 65536] rfl (by (try simp only [List.map_toArray, List.map_cons, List.map_nil]); first | done | rfl | (simp only [List.length_drop, List.length_take]; rfl)) ?_; (with_reducible refine (header_Whole.calls _ _ y169 65536 t172 t173 t174 t175 _ ?side1 ?side2 A103.out).mono ?_); (case side1 => repeat (first | exact (CV_reads HO171.out).2.2 | (with_reducible refine Kd.C_alloc ?_ _) | (with_reducible refine Kd.C_drewN ?_ _) | (with_reducible refine Kd.C_drew ?_))); (case side2 => exact (CV_reads HO171.out).2.1); rintro e w120 ⟨v176, rfl, ho0, hb⟩; refine ⟨_, rfl, ?_⟩; have n0_ := Aside0.mk (Kd.R_elder' (by (with_reducible repeat (first | apply Kd.R_alloc | apply Kd.R_drewN | apply Kd.R_drew)); exact HO_9.out) (Kd.R_base ho0) hb); have n1_ := Aside0.mk (CV_below (by (with_reducible repeat (first | apply CV_alloc | apply CV_drewN | apply CV_drew)); exact HO171.out) hb); have n2_ := Aside0.mk (Kd.R_lower (Kd.R_new' ho0 (Kd.R_lt (by (with_reducible repeat (first | apply Kd.R_alloc | apply Kd.R_drewN | apply Kd.R_drew)); exact HO_9.out))) (below_size (by repeat (first | (with_reducible first | exact HB.out | apply below_alloc | apply pw_below_drewN | apply below_drew1) | exact HB.out)))); have n3_ := Aside0.mk (below_step (by repeat (first | (with_reducible first | exact HB.out | apply below_alloc | apply pw_below_drewN | apply below_drew1) | exact HB.out)) hb); clear HO_9; clear HO171; clear HB; have HO_9 := n0_; have HO171 := n1_; have HO177 := n2_; have HB := n3_; clear n0_ n1_ n2_ n3_; (try clear hb); (try clear hb2); (try clear hk); (try clear hi); (try clear ho0); obtain ⟨Ao121, co121, eo121⟩ := Kd.R_slice HO177.out; subst eo121; obtain ⟨Ao122, co122, eo122⟩ := Kd.R_slice HO_9.out; subst eo122) | ((with_reducible refine gate_callee (f := 24) rfl ?_); refine goesL_ (some 125) rfl rfl Try.func24 (by kernel_rfl) rfl #[.slice Ao121 t172.length co121, .slice Ao122 x9_2.length co122] rfl (by (try simp only [List.map_toArray, List.map_cons, List.map_nil]); first | done | rfl | (simp only [List.length_drop, List.length_take]; rfl)) ?_; (with_reducible refine (winkleref12_Fields.calls kj5 _ _ t172 _ _ x9_2 true _ ?side1 ?side2 ?side3 ?side4 A104.out).mono ?_); (case side1 => repeat (first | exact (Kd.R_reads' HO177.out).2.2 | (with_reducible refine Kd.C_alloc ?_ _) | (with_reducible refine Kd.C_drewN ?_ _) | (with_reducible refine Kd.C_drew ?_))); (case side2 => exact (Kd.R_reads' HO177.out).2.1); (case side3 => repeat (first | exact (Kd.R_reads' HO_9.out).2.2 | (with_reducible refine Kd.C_alloc ?_ _) | (with_reducible refine Kd.C_drewN ?_ _) | (with_reducible refine Kd.C_drew ?_))); (case side4 => exact (Kd.R_reads' HO_9.out).2.1); rintro e w' ⟨rfl, ⟨nd, rfl⟩⟩; refine ⟨_, rfl, ?_⟩))
                            go_ret
                            exact ⟨by first | rfl | (simp [errW_none, errW_some] <;> rfl) | (simp [*, errW_none, errW_some] <;> rfl), by repeat (first | (with_reducible first | exact HB.out | apply below_alloc | apply pw_below_drewN | apply below_drew1) | exact HB.out)⟩
                        · rw [if_neg c107] at H
                          have c107b0 : (t174 == 0) = false := beq_eq_false_iff_ne.mpr c107
                          have c107b1 : (t174 != 0) = true := bne_iff_ne.mpr c107
                          obtain rfl := Option.some.inj H
                          go_wp2_with (first | ((with_reducible refine gate_dst (N := 117) rfl ?_); (try (refine gate_guard (by rfl) ?_; dsimp only)); refine CV_event ?hg (N := 117) ?hd ((x8_2 ++ x7_3) ++ (⟨#[98, 111, 100, 121]⟩ : ByteArray)) ?hs ?hr ?_; (case hd => rfl); (case hg => rfl); (case hs => exact CVS_); (case hr => first | (go_simp; done) | (go_simp; rfl)); intro v170 w123 ho124 hb; (rw [← Ny169.out] at ho124); have n0_ := Aside0.mk (Kd.R_below (by (with_reducible repeat (first | apply Kd.R_alloc | apply Kd.R_drewN | apply Kd.R_drew)); exact HO_9.out) hb); have n1_ := Aside0.mk ho124; have n2_ := Aside0.mk (below_step (by repeat (first | (with_reducible first | exact HB.out | apply below_alloc | apply pw_below_drewN | apply below_drew1) | exact HB.out)) hb); clear HO_9; clear HB; have HO_9 := n0_; have HO171 := n1_; have HB := n2_; clear n0_ n1_ n2_; clear hb ho124; obtain ⟨Ao125, co125, eo125⟩ := CV_slice HO171.out; subst eo125) | ((with_reducible refine gate_callee (f := 21) rfl ?_); refine goesL_ (some 118) rfl rfl Try.func21 (by kernel_rfl) rfl #[.slice Ao125 y169.length co125, .int .i64 65536] rfl (by (try simp only [List.map_toArray, List.map_cons, List.map_nil]); first | done | rfl | (simp only [List.length_drop, List.length_take]; rfl)) ?_; (with_reducible refine (header_Whole.calls _ _ y169 65536 t172 t173 t174 t175 _ ?side1 ?side2 A103.out).mono ?_); (case side1 => repeat (first | exact (CV_reads HO171.out).2.2 | (with_reducible refine Kd.C_alloc ?_ _) | (with_reducible refine Kd.C_drewN ?_ _) | (with_reducible refine Kd.C_drew ?_))); (case side2 => exact (CV_reads HO171.out).2.1); rintro e w126 ⟨v176, rfl, ho0, hb⟩; refine ⟨_, rfl, ?_⟩; have n0_ := Aside0.mk (Kd.R_elder' (by (with_reducible repeat (first | apply Kd.R_alloc | apply Kd.R_drewN | apply Kd.R_drew)); exact HO_9.out) (Kd.R_base ho0) hb); have n1_ := Aside0.mk (CV_below (by (with_reducible repeat (first | apply CV_alloc | apply CV_drewN | apply CV_drew)); exact HO171.out) hb); have n2_ := Aside0.mk (Kd.R_lower (Kd.R_new' ho0 (Kd.R_lt (by (with_reducible repeat (first | apply Kd.R_alloc | apply Kd.R_drewN | apply Kd.R_drew)); exact HO_9.out))) (below_size (by repeat (first | (with_reducible first | exact HB.out | apply below_alloc | apply pw_below_drewN | apply below_drew1) | exact HB.out)))); have n3_ := Aside0.mk (below_step (by repeat (first | (with_reducible first | exact HB.out | apply below_alloc | apply pw_below_drewN | apply below_drew1) | exact HB.out)) hb); clear HO_9; clear HO171; clear HB; have HO_9 := n0_; have HO171 := n1_; have HO177 := n2_; have HB := n3_; clear n0_ n1_ n2_ n3_; (try clear hb); (try clear hb2); (try clear hk); (try clear hi); (try clear ho0); obtain ⟨Ao127, co127, eo127⟩ := Kd.R_slice HO177.out; subst eo127; obtain ⟨Ao128, co128, eo128⟩ := Kd.R_slice HO_9.out; subst eo128) | ((with_reducible refine gate_callee (f := 24) rfl ?_); refine goesL_ (some 125) rfl rfl Try.func24 (by kernel_rfl) rfl #[.slice Ao127 t172.length co127, .slice Ao128 x9_2.length co128] rfl (by (try simp only [List.map_toArray, List.map_cons, List.map_nil]); first | done | rfl | (simp only [List.length_drop, List.length_take]; rfl)) ?_; (with_reducible refine (winkleref12_Fields.calls kj5 _ _ t172 _ _ x9_2 true _ ?side1 ?side2 ?side3 ?side4 A104.out).mono ?_); (case side1 => repeat (first | exact (Kd.R_reads' HO177.out).2.2 | (with_reducible refine Kd.C_alloc ?_ _) | (with_reducible refine Kd.C_drewN ?_ _) | (with_reducible refine Kd.C_drew ?_))); (case side2 => exact (Kd.R_reads' HO177.out).2.1); (case side3 => repeat (first | exact (Kd.R_reads' HO_9.out).2.2 | (with_reducible refine Kd.C_alloc ?_ _) | (with_reducible refine Kd.C_drewN ?_ _) | (with_reducible refine Kd.C_drew ?_))); (case side4 => exact (Kd.R_reads' HO_9.out).2.1); rintro e w' ⟨rfl, ⟨nd, rfl⟩⟩; refine ⟨_, rfl, ?_⟩))
                          go_ret
                          exact ⟨by first | rfl | (simp [errW_none, errW_some] <;> rfl) | (simp [*, errW_none, errW_some] <;> rfl), by repeat (first | (with_reducible first | exact HB.out | apply below_alloc | apply pw_below_drewN | apply below_drew1) | exact HB.out)⟩
                      · rw [if_neg c106] at H
                        have c106b0 : (t173 == (wrap64 ((x8_2.size : Int) + (x7_3.size : Int)))) = false := beq_eq_false_iff_ne.mpr c106
                        have hw_ : wrap64 ((x8_2.size : Int) + (x7_3.size : Int)) = ((x8_2.size : Int) + (x7_3.size : Int)) := by unfold wrap64; omega
                        have c106b4 : (t173 == ((x8_2.size : Int) + (x7_3.size : Int))) = false := by rw [← hw_]; exact c106b0
                        have c106b5 : (t173 = ((x8_2.size : Int) + (x7_3.size : Int))) = False := by rw [← hw_]; exact eq_false c106
                        clear hw_
                        have c106b1 : (t173 != (wrap64 ((x8_2.size : Int) + (x7_3.size : Int)))) = true := bne_iff_ne.mpr c106
                        obtain rfl := Option.some.inj H
                        go_wp2_with (first | ((with_reducible refine gate_dst (N := 117) rfl ?_); (try (refine gate_guard (by rfl) ?_; dsimp only)); refine CV_event ?hg (N := 117) ?hd ((x8_2 ++ x7_3) ++ (⟨#[98, 111, 100, 121]⟩ : ByteArray)) ?hs ?hr ?_; (case hd => rfl); (case hg => rfl); (case hs => exact CVS_); (case hr => first | (go_simp; done) | (go_simp; rfl)); intro v170 w129 ho130 hb; (rw [← Ny169.out] at ho130); have n0_ := Aside0.mk (Kd.R_below (by (with_reducible repeat (first | apply Kd.R_alloc | apply Kd.R_drewN | apply Kd.R_drew)); exact HO_9.out) hb); have n1_ := Aside0.mk ho130; have n2_ := Aside0.mk (below_step (by repeat (first | (with_reducible first | exact HB.out | apply below_alloc | apply pw_below_drewN | apply below_drew1) | exact HB.out)) hb); clear HO_9; clear HB; have HO_9 := n0_; have HO171 := n1_; have HB := n2_; clear n0_ n1_ n2_; clear hb ho130; obtain ⟨Ao131, co131, eo131⟩ := CV_slice HO171.out; subst eo131) | ((with_reducible refine gate_callee (f := 21) rfl ?_); refine goesL_ (some 118) rfl rfl Try.func21 (by kernel_rfl) rfl #[.slice Ao131 y169.length co131, .int .i64 65536] rfl (by (try simp only [List.map_toArray, List.map_cons, List.map_nil]); first | done | rfl | (simp only [List.length_drop, List.length_take]; rfl)) ?_; (with_reducible refine (header_Whole.calls _ _ y169 65536 t172 t173 t174 t175 _ ?side1 ?side2 A103.out).mono ?_); (case side1 => repeat (first | exact (CV_reads HO171.out).2.2 | (with_reducible refine Kd.C_alloc ?_ _) | (with_reducible refine Kd.C_drewN ?_ _) | (with_reducible refine Kd.C_drew ?_))); (case side2 => exact (CV_reads HO171.out).2.1); rintro e w132 ⟨v176, rfl, ho0, hb⟩; refine ⟨_, rfl, ?_⟩; have n0_ := Aside0.mk (Kd.R_elder' (by (with_reducible repeat (first | apply Kd.R_alloc | apply Kd.R_drewN | apply Kd.R_drew)); exact HO_9.out) (Kd.R_base ho0) hb); have n1_ := Aside0.mk (CV_below (by (with_reducible repeat (first | apply CV_alloc | apply CV_drewN | apply CV_drew)); exact HO171.out) hb); have n2_ := Aside0.mk (Kd.R_lower (Kd.R_new' ho0 (Kd.R_lt (by (with_reducible repeat (first | apply Kd.R_alloc | apply Kd.R_drewN | apply Kd.R_drew)); exact HO_9.out))) (below_size (by repeat (first | (with_reducible first | exact HB.out | apply below_alloc | apply pw_below_drewN | apply below_drew1) | exact HB.out)))); have n3_ := Aside0.mk (below_step (by repeat (first | (with_reducible first | exact HB.out | apply below_alloc | apply pw_below_drewN | apply below_drew1) | exact HB.out)) hb); clear HO_9; clear HO171; clear HB; have HO_9 := n0_; have HO171 := n1_; have HO177 := n2_; have HB := n3_; clear n0_ n1_ n2_ n3_; (try clear hb); (try clear hb2); (try clear hk); (try clear hi); (try clear ho0); obtain ⟨Ao133, co133, eo133⟩ := Kd.R_slice HO177.out; subst eo133; obtain ⟨Ao134, co134, eo134⟩ := Kd.R_slice HO_9.out; subst eo134) | ((with_reducible refine gate_callee (f := 24) rfl ?_); refine goesL_ (some 125) rfl rfl Try.func24 (by kernel_rfl) rfl #[.slice Ao133 t172.length co133, .slice Ao134 x9_2.length co134] rfl (by (try simp only [List.map_toArray, List.map_cons, List.map_nil]); first | done | rfl | (simp only [List.length_drop, List.length_take]; rfl)) ?_; (with_reducible refine (winkleref12_Fields.calls kj5 _ _ t172 _ _ x9_2 true _ ?side1 ?side2 ?side3 ?side4 A104.out).mono ?_); (case side1 => repeat (first | exact (Kd.R_reads' HO177.out).2.2 | (with_reducible refine Kd.C_alloc ?_ _) | (with_reducible refine Kd.C_drewN ?_ _) | (with_reducible refine Kd.C_drew ?_))); (case side2 => exact (Kd.R_reads' HO177.out).2.1); (case side3 => repeat (first | exact (Kd.R_reads' HO_9.out).2.2 | (with_reducible refine Kd.C_alloc ?_ _) | (with_reducible refine Kd.C_drewN ?_ _) | (with_reducible refine Kd.C_drew ?_))); (case side4 => exact (Kd.R_reads' HO_9.out).2.1); rintro e w' ⟨rfl, ⟨nd, rfl⟩⟩; refine ⟨_, rfl, ?_⟩))
                        go_ret
                        exact ⟨by first | rfl | (simp [errW_none, errW_some] <;> rfl) | (simp [*, errW_none, errW_some] <;> rfl), by repeat (first | (with_reducible first | exact HB.out | apply below_alloc | apply pw_below_drewN | apply below_drew1) | exact HB.out)⟩
                    · replace c105 := Bool.eq_false_iff.mpr c105
                      subst c105
                      have H1 : (some false) = some r := by rw [if_neg (show ¬ (false = true) by decide)] at H; exact H
                      clear H
                      have H := H1
                      clear H1
                      obtain rfl := Option.some.inj H
                      go_wp2_with (first | ((with_reducible refine gate_dst (N := 117) rfl ?_); (try (refine gate_guard (by rfl) ?_; dsimp only)); refine CV_event ?hg (N := 117) ?hd ((x8_2 ++ x7_3) ++ (⟨#[98, 111, 100, 121]⟩ : ByteArray)) ?hs ?hr ?_; (case hd => rfl); (case hg => rfl); (case hs => exact CVS_); (case hr => first | (go_simp; done) | (go_simp; rfl)); intro v170 w135 ho136 hb; (rw [← Ny169.out] at ho136); have n0_ := Aside0.mk (Kd.R_below (by (with_reducible repeat (first | apply Kd.R_alloc | apply Kd.R_drewN | apply Kd.R_drew)); exact HO_9.out) hb); have n1_ := Aside0.mk ho136; have n2_ := Aside0.mk (below_step (by repeat (first | (with_reducible first | exact HB.out | apply below_alloc | apply pw_below_drewN | apply below_drew1) | exact HB.out)) hb); clear HO_9; clear HB; have HO_9 := n0_; have HO171 := n1_; have HB := n2_; clear n0_ n1_ n2_; clear hb ho136; obtain ⟨Ao137, co137, eo137⟩ := CV_slice HO171.out; subst eo137) | ((with_reducible refine gate_callee (f := 21) rfl ?_); refine goesL_ (some 118) rfl rfl Try.func21 (by kernel_rfl) rfl #[.slice Ao137 y169.length co137, .int .i64 65536] rfl (by (try simp only [List.map_toArray, List.map_cons, List.map_nil]); first | done | rfl | (simp only [List.length_drop, List.length_take]; rfl)) ?_; (with_reducible refine (header_Whole.calls _ _ y169 65536 t172 t173 t174 t175 _ ?side1 ?side2 A103.out).mono ?_); (case side1 => repeat (first | exact (CV_reads HO171.out).2.2 | (with_reducible refine Kd.C_alloc ?_ _) | (with_reducible refine Kd.C_drewN ?_ _) | (with_reducible refine Kd.C_drew ?_))); (case side2 => exact (CV_reads HO171.out).2.1); rintro e w138 ⟨v176, rfl, ho0, hb⟩; refine ⟨_, rfl, ?_⟩; have n0_ := Aside0.mk (Kd.R_elder' (by (with_reducible repeat (first | apply Kd.R_alloc | apply Kd.R_drewN | apply Kd.R_drew)); exact HO_9.out) (Kd.R_base ho0) hb); have n1_ := Aside0.mk (CV_below (by (with_reducible repeat (first | apply CV_alloc | apply CV_drewN | apply CV_drew)); exact HO171.out) hb); have n2_ := Aside0.mk (Kd.R_lower (Kd.R_new' ho0 (Kd.R_lt (by (with_reducible repeat (first | apply Kd.R_alloc | apply Kd.R_drewN | apply Kd.R_drew)); exact HO_9.out))) (below_size (by repeat (first | (with_reducible first | exact HB.out | apply below_alloc | apply pw_below_drewN | apply below_drew1) | exact HB.out)))); have n3_ := Aside0.mk (below_step (by repeat (first | (with_reducible first | exact HB.out | apply below_alloc | apply pw_below_drewN | apply below_drew1) | exact HB.out)) hb); clear HO_9; clear HO171; clear HB; have HO_9 := n0_; have HO171 := n1_; have HO177 := n2_; have HB := n3_; clear n0_ n1_ n2_ n3_; (try clear hb); (try clear hb2); (try clear hk); (try clear hi); (try clear ho0); obtain ⟨Ao139, co139, eo139⟩ := Kd.R_slice HO177.out; subst eo139; obtain ⟨Ao140, co140, eo140⟩ := Kd.R_slice HO_9.out; subst eo140) | ((with_reducible refine gate_callee (f := 24) rfl ?_); refine goesL_ (some 125) rfl rfl Try.func24 (by kernel_rfl) rfl #[.slice Ao139 t172.length co139, .slice Ao140 x9_2.length co140] rfl (by (try simp only [List.map_toArray, List.map_cons, List.map_nil]); first | done | rfl | (simp only [List.length_drop, List.length_take]; rfl)) ?_; (with_reducible refine (winkleref12_Fields.calls kj5 _ _ t172 _ _ x9_2 false _ ?side1 ?side2 ?side3 ?side4 A104.out).mono ?_); (case side1 => repeat (first | exact (Kd.R_reads' HO177.out).2.2 | (with_reducible refine Kd.C_alloc ?_ _) | (with_reducible refine Kd.C_drewN ?_ _) | (with_reducible refine Kd.C_drew ?_))); (case side2 => exact (Kd.R_reads' HO177.out).2.1); (case side3 => repeat (first | exact (Kd.R_reads' HO_9.out).2.2 | (with_reducible refine Kd.C_alloc ?_ _) | (with_reducible refine Kd.C_drewN ?_ _) | (with_reducible refine Kd.C_drew ?_))); (case side4 => exact (Kd.R_reads' HO_9.out).2.1); rintro e w' ⟨rfl, ⟨nd, rfl⟩⟩; refine ⟨_, rfl, ?_⟩))
                      go_ret
                      exact ⟨by first | rfl | (simp [errW_none, errW_some] <;> rfl) | (simp [*, errW_none, errW_some] <;> rfl), by repeat (first | (with_reducible first | exact HB.out | apply below_alloc | apply pw_below_drewN | apply below_drew1) | exact HB.out)⟩
                  · rw [if_neg c102] at H
                    exact absurd H (by simp)
                · rw [if_neg c101] at H
                  exact absurd H (by simp)
end Go.Proofs.Ytodidfdfbanliaa.PAll
