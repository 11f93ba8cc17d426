-- Written by a program of this session (turned from the kit's print); nothing here is trusted: Lean checks it.
import Derived.Test.YtodidfdfbanliaaPAllx0
import Derived.Test.YtodidfdfbanliaaPAllx2
import Derived.Test.YtodidfdfbanliaaPAllx3
import Derived.Test.YtodidfdfbanliaaFLow
import Derived.Test.YtodidfdfbanliaaFAwakeM
import Derived.Test.YtodidfdfbanliaaHLower
namespace Go.Proofs.Ytodidfdfbanliaa.PAll
open Go.RowKit Go.Proofs.YtodidfdfbanliaaW.PrintWords Go.Proofs.YtodidfdfbanliaaW.PrintLast Go.Proofs.YtodidfdfbanliaaW.PrintMore
attribute [local go_sem] max2_int min2_int max_two min_two max_three min_three max_four min_four   -- for this text's walks alone
set_option linter.unusedVariables false
set_option linter.unusedSimpArgs false

attribute [local go_sem high] eqA71 eqA105
/-! ### winklelaw13_MimetypeTokens: function 16 -/
def winklelaw13_MimetypeTokens.j0 : Nat → ByteArray → ByteArray → Bool → Bool → Option (Bool)
  | 0, _, _, _, _ => none
  | k + 1, x0, x1, x5, x28 => if x28 = true then (some false) else ((mimetype_Lower.f x0).bind fun t465 => ((mimetype_Lower.f t465).bind fun t466 => (if t466.toList = t465.toList then (if (t465.size : Int) = (x0.size : Int) then ((mimetype_Token.f k t465).bind fun t467 => (if (t467 == x5) = true then (if x0.size + x1.size ≤ 9223372036854775807 then ((mimetype_Lower.f (x0 ++ x1)).bind fun t468 => ((mimetype_Lower.f x1).bind fun t469 => (if t465.size + t469.size ≤ 9223372036854775807 then (if t468.toList = (t465 ++ t469).toList then ((winklelaw13_awake.f k).bind fun t470 => (some t470)) else (some false)) else (none)))) else (none)) else (some false))) else (some false)) else (some false))))
def winklelaw13_MimetypeTokens.f (k : Nat) (a0 : ByteArray) (a1 : ByteArray) : Option (Bool) := (mimetype_Token.f k a0).bind fun t462 => ((mimetype_Token.f k a1).bind fun t463 => (if a0.toList = ([] : List UInt8) then (winklelaw13_MimetypeTokens.j0 k a0 a1 t462 false) else (if a1.toList = ([] : List UInt8) then (winklelaw13_MimetypeTokens.j0 k a0 a1 t462 false) else (if a0.size + a1.size ≤ 9223372036854775807 then ((mimetype_Token.f k (a0 ++ a1)).bind fun t464 => (if t462 = true then (winklelaw13_MimetypeTokens.j0 k a0 a1 t462 (t464 != t463)) else (winklelaw13_MimetypeTokens.j0 k a0 a1 t462 (t464 != false)))) else (none)))))
theorem winklelaw13_MimetypeTokens.mono_l : ∀ k, (∀ y0 y1 y2 y3, LeO (winklelaw13_MimetypeTokens.j0 k y0 y1 y2 y3) (winklelaw13_MimetypeTokens.j0 (k + 1) y0 y1 y2 y3))
  | 0 => fun _ _ _ _ r h => by simp [winklelaw13_MimetypeTokens.j0] at h
  | k + 1 => by
    have ih0 := winklelaw13_MimetypeTokens.mono_l k
    · intro y0 y1 y2 y3
      unfold winklelaw13_MimetypeTokens.j0
      repeat' first
      | (with_reducible exact ih0 _ _ _ _)
      | (with_reducible exact mimetype_Token.mono _ _)
      | (with_reducible exact winklelaw13_awake.mono _)
      | (with_reducible exact LeO.refl _)
      | (with_reducible exact LeO.none _)
      | (with_reducible refine LeO.ite ?_ ?_)
      | (with_reducible refine LeO.bind ?_ (fun _ => ?_))
      | exact ih0 _ _ _ _
      | exact mimetype_Token.mono _ _
      | exact winklelaw13_awake.mono _
      | exact LeO.none _
      | refine LeO.ite ?_ ?_
      | refine LeO.bind ?_ (fun _ => ?_)
theorem winklelaw13_MimetypeTokens.mono : ∀ a0 a1 k, LeO (winklelaw13_MimetypeTokens.f k a0 a1) (winklelaw13_MimetypeTokens.f (k + 1) a0 a1) := by
  intro a0 a1 k
  have ih0 := winklelaw13_MimetypeTokens.mono_l k
  unfold winklelaw13_MimetypeTokens.f
  repeat' first
      | (with_reducible exact ih0 _ _ _ _)
      | (with_reducible exact mimetype_Token.mono _ _)
      | (with_reducible exact winklelaw13_awake.mono _)
      | (with_reducible exact LeO.refl _)
      | (with_reducible exact LeO.none _)
      | (with_reducible refine LeO.ite ?_ ?_)
      | (with_reducible refine LeO.bind ?_ (fun _ => ?_))
      | exact ih0 _ _ _ _
      | exact mimetype_Token.mono _ _
      | exact winklelaw13_awake.mono _
      | exact LeO.none _
      | refine LeO.ite ?_ ?_
      | refine LeO.bind ?_ (fun _ => ?_)
set_option maxHeartbeats 8000000 in
set_option maxRecDepth 100000 in
theorem winklelaw13_MimetypeTokens.calls (k : Nat) (a0 : ByteArray) (a1 : ByteArray) (r : Bool) (w : World) (h : winklelaw13_MimetypeTokens.f k a0 a1 = some r) :
    Calls Try.prog 16 #[.string a0, .string a1] w fun e w' => e = .returned (.bool r) ∧ Below w.heap.size w w' := by
  have HB := Aside0.mk (Below.refl w.heap.size w)
  have H : ((mimetype_Token.f k a0).bind fun t462 => ((mimetype_Token.f k a1).bind fun t463 => (if a0.toList = ([] : List UInt8) then (winklelaw13_MimetypeTokens.j0 k a0 a1 t462 false) else (if a1.toList = ([] : List UInt8) then (winklelaw13_MimetypeTokens.j0 k a0 a1 t462 false) else (if a0.size + a1.size ≤ 9223372036854775807 then ((mimetype_Token.f k (a0 ++ a1)).bind fun t464 => (if t462 = true then (winklelaw13_MimetypeTokens.j0 k a0 a1 t462 (t464 != t463)) else (winklelaw13_MimetypeTokens.j0 k a0 a1 t462 (t464 != false)))) else (none)))))) = some r := h
  clear h
  replace H := Option.bind_eq_some_iff.mp H
  obtain ⟨t462, A30, H⟩ := H
  replace H : ((mimetype_Token.f k a1).bind fun t463 => (if a0.toList = ([] : List UInt8) then (winklelaw13_MimetypeTokens.j0 k a0 a1 t462 false) else (if a1.toList = ([] : List UInt8) then (winklelaw13_MimetypeTokens.j0 k a0 a1 t462 false) else (if a0.size + a1.size ≤ 9223372036854775807 then ((mimetype_Token.f k (a0 ++ a1)).bind fun t464 => (if t462 = true then (winklelaw13_MimetypeTokens.j0 k a0 a1 t462 (t464 != t463)) else (winklelaw13_MimetypeTokens.j0 k a0 a1 t462 (t464 != false)))) else (none))))) = some r := H
  have A3 := Aside0.mk A30
  clear A30
  replace H := Option.bind_eq_some_iff.mp H
  obtain ⟨t463, A40, H⟩ := H
  replace H : (if a0.toList = ([] : List UInt8) then (winklelaw13_MimetypeTokens.j0 k a0 a1 t462 false) else (if a1.toList = ([] : List UInt8) then (winklelaw13_MimetypeTokens.j0 k a0 a1 t462 false) else (if a0.size + a1.size ≤ 9223372036854775807 then ((mimetype_Token.f k (a0 ++ a1)).bind fun t464 => (if t462 = true then (winklelaw13_MimetypeTokens.j0 k a0 a1 t462 (t464 != t463)) else (winklelaw13_MimetypeTokens.j0 k a0 a1 t462 (t464 != false)))) else (none)))) = some r := H
  have A4 := Aside0.mk A40
  clear A40
  have HC5 := Aside0.mk H
  clear H
  go_enter Try.func16, Try.ntmps16
  go_upto_region 2 with (first | ((with_reducible refine gate_callee (f := 41) rfl ?_); refine goesL_ (some 9) rfl rfl Try.func41 (by kernel_rfl) rfl #[.string a0] rfl (by (try simp only [List.map_toArray, List.map_cons, List.map_nil]); first | done | rfl | (simp only [List.length_drop, List.length_take]; rfl)) ?_; (with_reducible refine (mimetype_Token.calls k a0 t462 _ A3.out).mono ?_); rintro e w' ⟨rfl, ⟨nd, rfl⟩⟩; refine ⟨_, rfl, ?_⟩) | ((with_reducible refine gate_callee (f := 41) rfl ?_); refine goesL_ (some 11) rfl rfl Try.func41 (by kernel_rfl) rfl #[.string a1] rfl (by (try simp only [List.map_toArray, List.map_cons, List.map_nil]); first | done | rfl | (simp only [List.length_drop, List.length_take]; rfl)) ?_; (with_reducible refine (mimetype_Token.calls k a1 t463 _ A4.out).mono ?_); rintro e w' ⟨rfl, ⟨nd, rfl⟩⟩; refine ⟨_, rfl, ?_⟩))
  (try simp only [Act.put, List.setIfInBounds_toArray, List.set_cons_zero, List.set_cons_succ])
  go_cut [28] (fun v28 wc => ∃ (kq : Nat) (x28_4 : Bool), v28 = .bool x28_4 ∧ Aside0 (winklelaw13_MimetypeTokens.j0 kq a0 a1 t462 x28_4 = some r) ∧ Aside0 (kq ≤ k) ∧ Aside0 (Below w.heap.size w wc))
  case first =>
    have H := HC5.out
    clear HC5
    by_cases c6 : a0.toList = ([] : List UInt8)
    · rw [if_pos c6] at H
      have c6b0 : (a0.toList == ([] : List UInt8)) = true := beq_iff_eq.mpr c6
      have c6b1 : (a0.toList != ([] : List UInt8)) = false := bne_eq_false_iff_eq.mpr c6
      clear c6
      (first | rw [c6b0] | (simp only [i64_w, i32_w]; rw [c6b0]) | skip)
      have H' := Aside0.mk H
      clear H
      go_wp2
      go_meet
      case rel => exact ⟨_, (false), (by first | rfl | (simp; done) | (simp [*]; done) | (simp [isEmpty_bne]; done)), H', ⟨by first | omega | exact Nat.le_refl _⟩, ⟨by repeat (first | (with_reducible first | exact HB.out | apply below_alloc | apply pw_below_drewN | apply below_drew1) | exact HB.out)⟩⟩
    · rw [if_neg c6] at H
      have c6b0 : (a0.toList == ([] : List UInt8)) = false := beq_eq_false_iff_ne.mpr c6
      have c6b1 : (a0.toList != ([] : List UInt8)) = true := bne_iff_ne.mpr c6
      (first | rw [c6b0] | (simp only [i64_w, i32_w]; rw [c6b0]) | skip)
      by_cases c7 : a1.toList = ([] : List UInt8)
      · rw [if_pos c7] at H
        have c7b0 : (a1.toList == ([] : List UInt8)) = true := beq_iff_eq.mpr c7
        have c7b1 : (a1.toList != ([] : List UInt8)) = false := bne_eq_false_iff_eq.mpr c7
        clear c7
        have H' := Aside0.mk H
        clear H
        go_wp2
        go_meet
        case rel => exact ⟨_, (false), (by first | rfl | (simp; done) | (simp [*]; done) | (simp [isEmpty_bne]; done)), H', ⟨by first | omega | exact Nat.le_refl _⟩, ⟨by repeat (first | (with_reducible first | exact HB.out | apply below_alloc | apply pw_below_drewN | apply below_drew1) | exact HB.out)⟩⟩
      · rw [if_neg c7] at H
        have c7b0 : (a1.toList == ([] : List UInt8)) = false := beq_eq_false_iff_ne.mpr c7
        have c7b1 : (a1.toList != ([] : List UInt8)) = true := bne_iff_ne.mpr c7
        by_cases c8 : a0.size + a1.size ≤ 9223372036854775807
        · rw [if_pos c8] at H
          have c8b0 := eq_true c8
          have c8b1 : decide (a0.size + a1.size ≤ 9223372036854775807) = true := decide_eq_true c8
          try have c8b2 : (9223372036854775807 < a0.size + a1.size) = False := eq_false (Nat.not_lt.2 c8)
          replace H := Option.bind_eq_some_iff.mp H
          obtain ⟨t464, A90, H⟩ := H
          replace H : (if t462 = true then (winklelaw13_MimetypeTokens.j0 k a0 a1 t462 (t464 != t463)) else (winklelaw13_MimetypeTokens.j0 k a0 a1 t462 (t464 != false))) = some r := H
          have A9 := Aside0.mk A90
          clear A90
          by_cases c10 : t462 = true
          · subst c10
            have H1 : (winklelaw13_MimetypeTokens.j0 k a0 a1 true (t464 != t463)) = some r := by rw [if_pos rfl] at H; exact H
            clear H
            have H := H1
            clear H1
            have H' := Aside0.mk H
            clear H
            go_wp2_with (first | (go_at_call 41; (with_reducible refine (mimetype_Token.calls k (a0 ++ a1) t464 _ A9.out).mono ?_); rintro e w' ⟨rfl, ⟨nd, rfl⟩⟩))
            go_meet
            case rel => exact ⟨_, ((t464 != t463)), (by first | rfl | (simp; done) | (simp [*]; done) | (simp [isEmpty_bne]; done)), H', ⟨by first | omega | exact Nat.le_refl _⟩, ⟨by repeat (first | (with_reducible first | exact HB.out | apply below_alloc | apply pw_below_drewN | apply below_drew1) | exact HB.out)⟩⟩
          · replace c10 := Bool.eq_false_iff.mpr c10
            subst c10
            have H1 : (winklelaw13_MimetypeTokens.j0 k a0 a1 false (t464 != false)) = some r := by rw [if_neg (show ¬ (false = true) by decide)] at H; exact H
            clear H
            have H := H1
            clear H1
            have H' := Aside0.mk H
            clear H
            go_wp2_with (first | (go_at_call 41; (with_reducible refine (mimetype_Token.calls k (a0 ++ a1) t464 _ A9.out).mono ?_); rintro e w' ⟨rfl, ⟨nd, rfl⟩⟩))
            go_meet
            case rel => exact ⟨_, ((t464 != false)), (by first | rfl | (simp; done) | (simp [*]; done) | (simp [isEmpty_bne]; done)), H', ⟨by first | omega | exact Nat.le_refl _⟩, ⟨by repeat (first | (with_reducible first | exact HB.out | apply below_alloc | apply pw_below_drewN | apply below_drew1) | exact HB.out)⟩⟩
        · rw [if_neg c8] at H
          exact absurd H (by simp)
  case rest =>
    clear HC5
    try clear c1
    try clear p2
    try clear c4
    try clear c6
    try clear c6b0
    try clear c6b1
    try clear c7
    try clear c7b0
    try clear c7b1
    try clear c8
    try clear c8b0
    try clear c8b1
    try clear c8b2
    try clear c10
    obtain ⟨kq, x28_4, rfl, HA, HJ4, HB⟩ := hcut
    cases kq with
    | zero => exact absurd HA.out (by simp [winklelaw13_MimetypeTokens.j0])
    | succ kj4 =>
      have H := HA.out
      clear HA
      simp only [winklelaw13_MimetypeTokens.j0] at H
      by_cases c11 : x28_4 = true
      · subst c11
        have H1 : (some false) = some r := by rw [if_pos rfl] at H; exact H
        clear H
        have H := H1
        clear H1
        obtain rfl := Option.some.inj H
        go_wp2
        go_ret
        exact ⟨by first | rfl | (simp [errW_none, errW_some] <;> rfl) | (simp [*, errW_none, errW_some] <;> rfl), by repeat (first | (with_reducible first | exact HB.out | apply below_alloc | apply pw_below_drewN | apply below_drew1) | exact HB.out)⟩
      · replace c11 := Bool.eq_false_iff.mpr c11
        subst c11
        have H1 : ((mimetype_Lower.f a0).bind fun t465 => ((mimetype_Lower.f t465).bind fun t466 => (if t466.toList = t465.toList then (if (t465.size : Int) = (a0.size : Int) then ((mimetype_Token.f kj4 t465).bind fun t467 => (if (t467 == t462) = true then (if a0.size + a1.size ≤ 9223372036854775807 then ((mimetype_Lower.f (a0 ++ a1)).bind fun t468 => ((mimetype_Lower.f a1).bind fun t469 => (if t465.size + t469.size ≤ 9223372036854775807 then (if t468.toList = (t465 ++ t469).toList then ((winklelaw13_awake.f kj4).bind fun t470 => (some t470)) else (some false)) else (none)))) else (none)) else (some false))) else (some false)) else (some false)))) = some r := by rw [if_neg (show ¬ (false = true) by decide)] at H; exact H
        clear H
        have H := H1
        clear H1
        replace H := Option.bind_eq_some_iff.mp H
        obtain ⟨t465, A120, H⟩ := H
        replace H : ((mimetype_Lower.f t465).bind fun t466 => (if t466.toList = t465.toList then (if (t465.size : Int) = (a0.size : Int) then ((mimetype_Token.f kj4 t465).bind fun t467 => (if (t467 == t462) = true then (if a0.size + a1.size ≤ 9223372036854775807 then ((mimetype_Lower.f (a0 ++ a1)).bind fun t468 => ((mimetype_Lower.f a1).bind fun t469 => (if t465.size + t469.size ≤ 9223372036854775807 then (if t468.toList = (t465 ++ t469).toList then ((winklelaw13_awake.f kj4).bind fun t470 => (some t470)) else (some false)) else (none)))) else (none)) else (some false))) else (some false)) else (some false))) = some r := H
        have A12 := Aside0.mk A120
        clear A120
        replace H := Option.bind_eq_some_iff.mp H
        obtain ⟨t466, A130, H⟩ := H
        replace H : (if t466.toList = t465.toList then (if (t465.size : Int) = (a0.size : Int) then ((mimetype_Token.f kj4 t465).bind fun t467 => (if (t467 == t462) = true then (if a0.size + a1.size ≤ 9223372036854775807 then ((mimetype_Lower.f (a0 ++ a1)).bind fun t468 => ((mimetype_Lower.f a1).bind fun t469 => (if t465.size + t469.size ≤ 9223372036854775807 then (if t468.toList = (t465 ++ t469).toList then ((winklelaw13_awake.f kj4).bind fun t470 => (some t470)) else (some false)) else (none)))) else (none)) else (some false))) else (some false)) else (some false)) = some r := H
        have A13 := Aside0.mk A130
        clear A130
        by_cases c14 : t466.toList = t465.toList
        · rw [if_pos c14] at H
          have c14b0 : (t466.toList == t465.toList) = true := beq_iff_eq.mpr c14
          have c14b1 : (t466.toList != t465.toList) = false := bne_eq_false_iff_eq.mpr c14
          clear c14
          by_cases c15 : (t465.size : Int) = (a0.size : Int)
          · rw [if_pos c15] at H
            have c15b0 : ((t465.size : Int) == (a0.size : Int)) = true := beq_iff_eq.mpr c15
            have c15b1 : ((t465.size : Int) != (a0.size : Int)) = false := bne_eq_false_iff_eq.mpr c15
            have c15b2 : (t465.size == a0.size) = true := by first | simpa using c15 | (simp at c15 ⊢; omega)
            clear c15
            replace H := Option.bind_eq_some_iff.mp H
            obtain ⟨t467, A160, H⟩ := H
            replace H : (if (t467 == t462) = true then (if a0.size + a1.size ≤ 9223372036854775807 then ((mimetype_Lower.f (a0 ++ a1)).bind fun t468 => ((mimetype_Lower.f a1).bind fun t469 => (if t465.size + t469.size ≤ 9223372036854775807 then (if t468.toList = (t465 ++ t469).toList then ((winklelaw13_awake.f kj4).bind fun t470 => (some t470)) else (some false)) else (none)))) else (none)) else (some false)) = some r := H
            have A16 := Aside0.mk A160
            clear A160
            by_cases c17 : (t467 == t462) = true
            · rw [if_pos c17] at H
              have c17b0 : (t467 == t462) = true := c17
              (try (have c17b1 : decide (t467 = t462) = true := by simpa using c17))
              (try (have c17b2 : (t467 == t462) = true := by simpa using c17))
              clear c17
              by_cases c18 : a0.size + a1.size ≤ 9223372036854775807
              · rw [if_pos c18] at H
                have c18b0 := eq_true c18
                have c18b1 : decide (a0.size + a1.size ≤ 9223372036854775807) = true := decide_eq_true c18
                try have c18b2 : (9223372036854775807 < a0.size + a1.size) = False := eq_false (Nat.not_lt.2 c18)
                replace H := Option.bind_eq_some_iff.mp H
                obtain ⟨t468, A190, H⟩ := H
                replace H : ((mimetype_Lower.f a1).bind fun t469 => (if t465.size + t469.size ≤ 9223372036854775807 then (if t468.toList = (t465 ++ t469).toList then ((winklelaw13_awake.f kj4).bind fun t470 => (some t470)) else (some false)) else (none))) = some r := H
                have A19 := Aside0.mk A190
                clear A190
                replace H := Option.bind_eq_some_iff.mp H
                obtain ⟨t469, A200, H⟩ := H
                replace H : (if t465.size + t469.size ≤ 9223372036854775807 then (if t468.toList = (t465 ++ t469).toList then ((winklelaw13_awake.f kj4).bind fun t470 => (some t470)) else (some false)) else (none)) = some r := H
                have A20 := Aside0.mk A200
                clear A200
                by_cases c21 : t465.size + t469.size ≤ 9223372036854775807
                · rw [if_pos c21] at H
                  have c21b0 := eq_true c21
                  have c21b1 : decide (t465.size + t469.size ≤ 9223372036854775807) = true := decide_eq_true c21
                  try have c21b2 : (9223372036854775807 < t465.size + t469.size) = False := eq_false (Nat.not_lt.2 c21)
                  by_cases c22 : t468.toList = (t465 ++ t469).toList
                  · rw [if_pos c22] at H
                    have c22b0 : (t468.toList == (t465 ++ t469).toList) = true := beq_iff_eq.mpr c22
                    have c22b1 : (t468.toList != (t465 ++ t469).toList) = false := bne_eq_false_iff_eq.mpr c22
                    clear c22
                    replace H := Option.bind_eq_some_iff.mp H
                    obtain ⟨t470, A230, H⟩ := H
                    replace H : (some t470) = some r := H
                    have A23 := Aside0.mk A230
                    clear A230
                    obtain rfl := Option.some.inj H
                    go_wp2_with (first | ((with_reducible refine gate_callee (f := 43) rfl ?_); refine goesL_ (some 30) rfl rfl Try.func43 (by kernel_rfl) rfl #[.string a0] rfl (by (try simp only [List.map_toArray, List.map_cons, List.map_nil]); first | done | rfl | (simp only [List.length_drop, List.length_take]; rfl)) ?_; (with_reducible refine (mimetype_Lower.calls a0 t465 _ A12.out).mono ?_); rintro e w24 ⟨rfl, hb⟩; refine ⟨_, rfl, ?_⟩; have n0_ := Aside0.mk (below_step (by repeat (first | (with_reducible first | exact HB.out | apply below_alloc | apply pw_below_drewN | apply below_drew1) | exact HB.out)) hb); clear HB; have HB := n0_; clear n0_; (try clear hb); (try clear hb2); (try clear hk); (try clear hi)) | ((with_reducible refine gate_callee (f := 43) rfl ?_); refine goesL_ (some 32) rfl rfl Try.func43 (by kernel_rfl) rfl #[.string t465] rfl (by (try simp only [List.map_toArray, List.map_cons, List.map_nil]); first | done | rfl | (simp only [List.length_drop, List.length_take]; rfl)) ?_; (with_reducible refine (mimetype_Lower.calls t465 t466 _ A13.out).mono ?_); rintro e w25 ⟨rfl, hb⟩; refine ⟨_, rfl, ?_⟩; have n0_ := Aside0.mk (below_step (by repeat (first | (with_reducible first | exact HB.out | apply below_alloc | apply pw_below_drewN | apply below_drew1) | exact HB.out)) hb); clear HB; have HB := n0_; clear n0_; (try clear hb); (try clear hb2); (try clear hk); (try clear hi)) | (go_at_call 41; (with_reducible refine (mimetype_Token.calls kj4 t465 t467 _ A16.out).mono ?_); rintro e w' ⟨rfl, ⟨nd, rfl⟩⟩) | (go_at_call 43; (with_reducible refine (mimetype_Lower.calls (a0 ++ a1) t468 _ A19.out).mono ?_); rintro e w26 ⟨rfl, hb⟩; have n0_ := Aside0.mk (below_step (by repeat (first | (with_reducible first | exact HB.out | apply below_alloc | apply pw_below_drewN | apply below_drew1) | exact HB.out)) hb); clear HB; have HB := n0_; clear n0_; (try clear hb); (try clear hb2); (try clear hk); (try clear hi)) | (go_at_call 43; (with_reducible refine (mimetype_Lower.calls a1 t469 _ A20.out).mono ?_); rintro e w27 ⟨rfl, hb⟩; have n0_ := Aside0.mk (below_step (by repeat (first | (with_reducible first | exact HB.out | apply below_alloc | apply pw_below_drewN | apply below_drew1) | exact HB.out)) hb); clear HB; have HB := n0_; clear n0_; (try clear hb); (try clear hb2); (try clear hk); (try clear hi)) | (go_at_call 45; (with_reducible refine (winklelaw13_awake.calls kj4  t470 _ A23.out).mono ?_); rintro e w28 ⟨rfl, hb⟩; have n0_ := Aside0.mk (below_step (by repeat (first | (with_reducible first | exact HB.out | apply below_alloc | apply pw_below_drewN | apply below_drew1) | exact HB.out)) hb); clear HB; have HB := n0_; clear n0_; (try clear hb); (try clear hb2); (try clear hk); (try clear hi)))
                    go_ret
                    exact ⟨by first | rfl | (simp [errW_none, errW_some] <;> rfl) | (simp [*, errW_none, errW_some] <;> rfl), by repeat (first | (with_reducible first | exact HB.out | apply below_alloc | apply pw_below_drewN | apply below_drew1) | exact HB.out)⟩
                  · rw [if_neg c22] at H
                    have c22b0 : (t468.toList == (t465 ++ t469).toList) = false := beq_eq_false_iff_ne.mpr c22
                    have c22b1 : (t468.toList != (t465 ++ t469).toList) = true := bne_iff_ne.mpr c22
                    obtain rfl := Option.some.inj H
                    go_wp2_with (first | ((with_reducible refine gate_callee (f := 43) rfl ?_); refine goesL_ (some 30) rfl rfl Try.func43 (by kernel_rfl) rfl #[.string a0] rfl (by (try simp only [List.map_toArray, List.map_cons, List.map_nil]); first | done | rfl | (simp only [List.length_drop, List.length_take]; rfl)) ?_; (with_reducible refine (mimetype_Lower.calls a0 t465 _ A12.out).mono ?_); rintro e w29 ⟨rfl, hb⟩; refine ⟨_, rfl, ?_⟩; have n0_ := Aside0.mk (below_step (by repeat (first | (with_reducible first | exact HB.out | apply below_alloc | apply pw_below_drewN | apply below_drew1) | exact HB.out)) hb); clear HB; have HB := n0_; clear n0_; (try clear hb); (try clear hb2); (try clear hk); (try clear hi)) | ((with_reducible refine gate_callee (f := 43) rfl ?_); refine goesL_ (some 32) rfl rfl Try.func43 (by kernel_rfl) rfl #[.string t465] rfl (by (try simp only [List.map_toArray, List.map_cons, List.map_nil]); first | done | rfl | (simp only [List.length_drop, List.length_take]; rfl)) ?_; (with_reducible refine (mimetype_Lower.calls t465 t466 _ A13.out).mono ?_); rintro e w30 ⟨rfl, hb⟩; refine ⟨_, rfl, ?_⟩; have n0_ := Aside0.mk (below_step (by repeat (first | (with_reducible first | exact HB.out | apply below_alloc | apply pw_below_drewN | apply below_drew1) | exact HB.out)) hb); clear HB; have HB := n0_; clear n0_; (try clear hb); (try clear hb2); (try clear hk); (try clear hi)) | (go_at_call 41; (with_reducible refine (mimetype_Token.calls kj4 t465 t467 _ A16.out).mono ?_); rintro e w' ⟨rfl, ⟨nd, rfl⟩⟩) | (go_at_call 43; (with_reducible refine (mimetype_Lower.calls (a0 ++ a1) t468 _ A19.out).mono ?_); rintro e w31 ⟨rfl, hb⟩; have n0_ := Aside0.mk (below_step (by repeat (first | (with_reducible first | exact HB.out | apply below_alloc | apply pw_below_drewN | apply below_drew1) | exact HB.out)) hb); clear HB; have HB := n0_; clear n0_; (try clear hb); (try clear hb2); (try clear hk); (try clear hi)) | (go_at_call 43; (with_reducible refine (mimetype_Lower.calls a1 t469 _ A20.out).mono ?_); rintro e w32 ⟨rfl, hb⟩; have n0_ := Aside0.mk (below_step (by repeat (first | (with_reducible first | exact HB.out | apply below_alloc | apply pw_below_drewN | apply below_drew1) | exact HB.out)) hb); clear HB; have HB := n0_; clear n0_; (try clear hb); (try clear hb2); (try clear hk); (try clear hi)))
                    go_ret
                    exact ⟨by first | rfl | (simp [errW_none, errW_some] <;> rfl) | (simp [*, errW_none, errW_some] <;> rfl), by repeat (first | (with_reducible first | exact HB.out | apply below_alloc | apply pw_below_drewN | apply below_drew1) | exact HB.out)⟩
                · rw [if_neg c21] at H
                  exact absurd H (by simp)
              · rw [if_neg c18] at H
                exact absurd H (by simp)
            · rw [if_neg c17] at H
              have c17b0 : (t467 == t462) = false := by simpa using c17
              (try (have c17b1 : decide (t467 = t462) = false := by simpa using c17))
              (try (have c17b2 : (t467 == t462) = false := by simpa using c17))
              (try (have c17b3 : ¬ (t467 = t462) := by simpa using c17))
              clear c17
              obtain rfl := Option.some.inj H
              go_wp2_with (first | ((with_reducible refine gate_callee (f := 43) rfl ?_); refine goesL_ (some 30) rfl rfl Try.func43 (by kernel_rfl) rfl #[.string a0] rfl (by (try simp only [List.map_toArray, List.map_cons, List.map_nil]); first | done | rfl | (simp only [List.length_drop, List.length_take]; rfl)) ?_; (with_reducible refine (mimetype_Lower.calls a0 t465 _ A12.out).mono ?_); rintro e w33 ⟨rfl, hb⟩; refine ⟨_, rfl, ?_⟩; have n0_ := Aside0.mk (below_step (by repeat (first | (with_reducible first | exact HB.out | apply below_alloc | apply pw_below_drewN | apply below_drew1) | exact HB.out)) hb); clear HB; have HB := n0_; clear n0_; (try clear hb); (try clear hb2); (try clear hk); (try clear hi)) | ((with_reducible refine gate_callee (f := 43) rfl ?_); refine goesL_ (some 32) rfl rfl Try.func43 (by kernel_rfl) rfl #[.string t465] rfl (by (try simp only [List.map_toArray, List.map_cons, List.map_nil]); first | done | rfl | (simp only [List.length_drop, List.length_take]; rfl)) ?_; (with_reducible refine (mimetype_Lower.calls t465 t466 _ A13.out).mono ?_); rintro e w34 ⟨rfl, hb⟩; refine ⟨_, rfl, ?_⟩; have n0_ := Aside0.mk (below_step (by repeat (first | (with_reducible first | exact HB.out | apply below_alloc | apply pw_below_drewN | apply below_drew1) | exact HB.out)) hb); clear HB; have HB := n0_; clear n0_; (try clear hb); (try clear hb2); (try clear hk); (try clear hi)) | (go_at_call 41; (with_reducible refine (mimetype_Token.calls kj4 t465 t467 _ A16.out).mono ?_); rintro e w' ⟨rfl, ⟨nd, rfl⟩⟩))
              go_ret
              exact ⟨by first | rfl | (simp [errW_none, errW_some] <;> rfl) | (simp [*, errW_none, errW_some] <;> rfl), by repeat (first | (with_reducible first | exact HB.out | apply below_alloc | apply pw_below_drewN | apply below_drew1) | exact HB.out)⟩
          · rw [if_neg c15] at H
            have c15b0 : ((t465.size : Int) == (a0.size : Int)) = false := beq_eq_false_iff_ne.mpr c15
            have c15b1 : ((t465.size : Int) != (a0.size : Int)) = true := bne_iff_ne.mpr c15
            have c15b2 : (t465.size == a0.size) = false := by first | simpa using c15 | (simp at c15 ⊢; omega)
            obtain rfl := Option.some.inj H
            go_wp2_with (first | ((with_reducible refine gate_callee (f := 43) rfl ?_); refine goesL_ (some 30) rfl rfl Try.func43 (by kernel_rfl) rfl #[.string a0] rfl (by (try simp only [List.map_toArray, List.map_cons, List.map_nil]); first | done | rfl | (simp only [List.length_drop, List.length_take]; rfl)) ?_; (with_reducible refine (mimetype_Lower.calls a0 t465 _ A12.out).mono ?_); rintro e w35 ⟨rfl, hb⟩; refine ⟨_, rfl, ?_⟩; have n0_ := Aside0.mk (below_step (by repeat (first | (with_reducible first | exact HB.out | apply below_alloc | apply pw_below_drewN | apply below_drew1) | exact HB.out)) hb); clear HB; have HB := n0_; clear n0_; (try clear hb); (try clear hb2); (try clear hk); (try clear hi)) | ((with_reducible refine gate_callee (f := 43) rfl ?_); refine goesL_ (some 32) rfl rfl Try.func43 (by kernel_rfl) rfl #[.string t465] rfl (by (try simp only [List.map_toArray, List.map_cons, List.map_nil]); first | done | rfl | (simp only [List.length_drop, List.length_take]; rfl)) ?_; (with_reducible refine (mimetype_Lower.calls t465 t466 _ A13.out).mono ?_); rintro e w36 ⟨rfl, hb⟩; refine ⟨_, rfl, ?_⟩; have n0_ := Aside0.mk (below_step (by repeat (first | (with_reducible first | exact HB.out | apply below_alloc | apply pw_below_drewN | apply below_drew1) | exact HB.out)) hb); clear HB; have HB := n0_; clear n0_; (try clear hb); (try clear hb2); (try clear hk); (try clear hi)))
            go_ret
            exact ⟨by first | rfl | (simp [errW_none, errW_some] <;> rfl) | (simp [*, errW_none, errW_some] <;> rfl), by repeat (first | (with_reducible first | exact HB.out | apply below_alloc | apply pw_below_drewN | apply below_drew1) | exact HB.out)⟩
        · rw [if_neg c14] at H
          have c14b0 : (t466.toList == t465.toList) = false := beq_eq_false_iff_ne.mpr c14
          have c14b1 : (t466.toList != t465.toList) = true := bne_iff_ne.mpr c14
          obtain rfl := Option.some.inj H
          go_wp2_with (first | ((with_reducible refine gate_callee (f := 43) rfl ?_); refine goesL_ (some 30) rfl rfl Try.func43 (by kernel_rfl) rfl #[.string a0] rfl (by (try simp only [List.map_toArray, List.map_cons, List.map_nil]); first | done | rfl | (simp only [List.length_drop, List.length_take]; rfl)) ?_; (with_reducible refine (mimetype_Lower.calls a0 t465 _ A12.out).mono ?_); rintro e w37 ⟨rfl, hb⟩; refine ⟨_, rfl, ?_⟩; have n0_ := Aside0.mk (below_step (by repeat (first | (with_reducible first | exact HB.out | apply below_alloc | apply pw_below_drewN | apply below_drew1) | exact HB.out)) hb); clear HB; have HB := n0_; clear n0_; (try clear hb); (try clear hb2); (try clear hk); (try clear hi)) | ((with_reducible refine gate_callee (f := 43) rfl ?_); refine goesL_ (some 32) rfl rfl Try.func43 (by kernel_rfl) rfl #[.string t465] rfl (by (try simp only [List.map_toArray, List.map_cons, List.map_nil]); first | done | rfl | (simp only [List.length_drop, List.length_take]; rfl)) ?_; (with_reducible refine (mimetype_Lower.calls t465 t466 _ A13.out).mono ?_); rintro e w38 ⟨rfl, hb⟩; refine ⟨_, rfl, ?_⟩; have n0_ := Aside0.mk (below_step (by repeat (first | (with_reducible first | exact HB.out | apply below_alloc | apply pw_below_drewN | apply below_drew1) | exact HB.out)) hb); clear HB; have HB := n0_; clear n0_; (try clear hb); (try clear hb2); (try clear hk); (try clear hi)))
          go_ret
          exact ⟨by first | rfl | (simp [errW_none, errW_some] <;> rfl) | (simp [*, errW_none, errW_some] <;> rfl), by repeat (first | (with_reducible first | exact HB.out | apply below_alloc | apply pw_below_drewN | apply below_drew1) | exact HB.out)⟩

/-- THE ONE PURE STATEMENT of winklelaw13_MimetypeTokens: yours. -/
def winklelaw13_MimetypeTokens.Pure : Prop := ∀ (a0 : ByteArray) (a1 : ByteArray), a0.size ≤ 1048576 → a1.size ≤ 1048576 → ∃ k, winklelaw13_MimetypeTokens.f k a0 a1 = some true
theorem winklelaw13_MimetypeTokens.walk (P : winklelaw13_MimetypeTokens.Pure) (a0 : ByteArray) (a1 : ByteArray) (w : World) (w0 : a0.size ≤ 1048576) (w1 : a1.size ≤ 1048576) :
    Calls Try.prog 16 #[.string a0, .string a1] w fun e w' => e = .returned (.bool true) ∧ Below w.heap.size w w' := by
  obtain ⟨k, h⟩ := P a0 a1 w0 w1
  refine (winklelaw13_MimetypeTokens.calls k a0 a1 true w h).mono ?_
  rintro e w' ⟨rfl, hd⟩
  exact ⟨rfl, hd⟩

end Go.Proofs.Ytodidfdfbanliaa.PAll
