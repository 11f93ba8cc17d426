/- Words and contracts that this claim uses. -/
import Derived.Test.YtodidfdfbanliaaQEplPAllx0
import Derived.Test.YtodidfdfbanliaaQEplFLow
import Derived.Test.YtodidfdfbanliaaQEplFRead
namespace Go.Proofs.Ytodidfdfbanliaa.PAll
open Go.RowKit Go.Proofs.YtodidfdfbanliaaW.PrintWords Go.Proofs.YtodidfdfbanliaaW.PrintLast Go.Proofs.YtodidfdfbanliaaW.PrintMore
set_option linter.unusedVariables false
set_option linter.unusedSimpArgs false
def winkleref13_Encoding.j0 : Nat → ByteArray → Bool → Option (Int)
  | 0, _, _ => none
  | k + 1, x4, x28 => if x28 = true then (some 3) else ((winkleref13_Lower.f k x4).bind fun t388 => (if t388.toList = ([98, 97, 115, 101, 54, 52] : List UInt8) then (some 1) else (if t388.toList = ([113, 117, 111, 116, 101, 100, 45, 112, 114, 105, 110, 116, 97, 98, 108, 101] : List UInt8) then (some 2) else (if t388.toList = ([55, 98, 105, 116] : List UInt8) then (some 0) else (if t388.toList = ([56, 98, 105, 116] : List UInt8) then (some 0) else (if t388.toList = ([98, 105, 110, 97, 114, 121] : List UInt8) then (some 0) else (some 3)))))))
def winkleref13_Encoding.f (k : Nat) (a0 : ByteArray) : Option (Int) := (winkleref13_Between.f k a0).bind fun bt383 => (if bt383.2 = true then (if (bt383.1.size : Int) = 0 then (some 0) else ((winkleref13_token.f k bt383.1).bind fun bt385 => (if bt385.2.2 = true then (winkleref13_Encoding.j0 k bt385.1 (decide ((bt385.2.1.size : Int) > 0))) else (winkleref13_Encoding.j0 k bt385.1 true)))) else (some 3))
set_option maxHeartbeats 8000000 in
set_option maxRecDepth 100000 in
theorem winkleref13_Encoding.calls (k : Nat) (a0 : ByteArray) (r : Int) (w : World) (h : winkleref13_Encoding.f k a0 = some r) :
    Calls Try.prog 51 #[.string a0] w fun e w' => e = .returned (.int .i64 r) ∧ Below w.heap.size w w' := by
  have HB := Aside0.mk (Below.refl w.heap.size w)
  have H : ((winkleref13_Between.f k a0).bind fun bt383 => (if bt383.2 = true then (if (bt383.1.size : Int) = 0 then (some 0) else ((winkleref13_token.f k bt383.1).bind fun bt385 => (if bt385.2.2 = true then (winkleref13_Encoding.j0 k bt385.1 (decide ((bt385.2.1.size : Int) > 0))) else (winkleref13_Encoding.j0 k bt385.1 true)))) else (some 3))) = some r := h
  clear h
  replace H := Option.bind_eq_some_iff.mp H
  obtain ⟨⟨t383, t384⟩, A20, H⟩ := H
  replace H : (if t384 = true then (if (t383.size : Int) = 0 then (some 0) else ((winkleref13_token.f k t383).bind fun bt385 => (if bt385.2.2 = true then (winkleref13_Encoding.j0 k bt385.1 (decide ((bt385.2.1.size : Int) > 0))) else (winkleref13_Encoding.j0 k bt385.1 true)))) else (some 3)) = some r := H
  have A2 := Aside0.mk A20
  clear A20
  by_cases c3 : t384 = true
  · subst c3
    have H1 : (if (t383.size : Int) = 0 then (some 0) else ((winkleref13_token.f k t383).bind fun bt385 => (if bt385.2.2 = true then (winkleref13_Encoding.j0 k bt385.1 (decide ((bt385.2.1.size : Int) > 0))) else (winkleref13_Encoding.j0 k bt385.1 true)))) = some r := by rw [if_pos rfl] at H; exact H
    clear H
    have H := H1
    clear H1
    by_cases c4 : (t383.size : Int) = 0
    · rw [if_pos c4] at H
      have c4b0 : ((t383.size : Int) == 0) = true := beq_iff_eq.mpr c4
      have c4b1 : ((t383.size : Int) != 0) = false := bne_eq_false_iff_eq.mpr c4
      clear c4
      obtain rfl := Option.some.inj H
      go_enter Try.func51, Try.ntmps51
      go_wp2_with (first | ((with_reducible refine gate_callee (f := 75) rfl ?_); refine goesL_ (some 8) rfl rfl Try.func75 (by kernel_rfl) rfl #[.string a0] rfl (by (try simp only [List.map_toArray, List.map_cons, List.map_nil]); first | done | rfl | (simp only [List.length_drop, List.length_take]; rfl)) ?_; (with_reducible refine (winkleref13_Between.calls k a0 t383 true _ A2.out).mono ?_); rintro e w' ⟨rfl, ⟨nd, rfl⟩⟩; refine ⟨_, rfl, ?_⟩))
      go_ret
      exact ⟨by first | rfl | (simp [errW_none, errW_some] <;> rfl) | (simp [*, errW_none, errW_some] <;> rfl), by repeat (first | (with_reducible first | exact HB.out | apply below_alloc | apply pw_below_drewN | apply below_drew1) | exact HB.out)⟩
    · rw [if_neg c4] at H
      have c4b0 : ((t383.size : Int) == 0) = false := beq_eq_false_iff_ne.mpr c4
      have c4b1 : ((t383.size : Int) != 0) = true := bne_iff_ne.mpr c4
      replace H := Option.bind_eq_some_iff.mp H
      obtain ⟨⟨t385, t386, t387⟩, A50, H⟩ := H
      replace H : (if t387 = true then (winkleref13_Encoding.j0 k t385 (decide ((t386.size : Int) > 0))) else (winkleref13_Encoding.j0 k t385 true)) = some r := H
      have A5 := Aside0.mk A50
      clear A50
      have HC6 := Aside0.mk H
      clear H
      go_enter Try.func51, Try.ntmps51
      go_upto_region 7 with (first | ((with_reducible refine gate_callee (f := 75) rfl ?_); refine goesL_ (some 8) rfl rfl Try.func75 (by kernel_rfl) rfl #[.string a0] rfl (by (try simp only [List.map_toArray, List.map_cons, List.map_nil]); first | done | rfl | (simp only [List.length_drop, List.length_take]; rfl)) ?_; (with_reducible refine (winkleref13_Between.calls k a0 t383 true _ A2.out).mono ?_); rintro e w' ⟨rfl, ⟨nd, rfl⟩⟩; refine ⟨_, rfl, ?_⟩) | ((with_reducible refine gate_callee (f := 76) rfl ?_); refine goesL_ (some 18) rfl rfl Try.func76 (by kernel_rfl) rfl #[.string t383] rfl (by (try simp only [List.map_toArray, List.map_cons, List.map_nil]); first | done | rfl | (simp only [List.length_drop, List.length_take]; rfl)) ?_; (with_reducible refine (winkleref13_token.calls k t383 t385 t386 t387 _ A5.out).mono ?_); rintro e w' ⟨rfl, ⟨nd, rfl⟩⟩; refine ⟨_, rfl, ?_⟩))
      (try simp only [Act.put, List.setIfInBounds_toArray, List.set_cons_zero, List.set_cons_succ])
      go_cut [28] (fun v28 wc => ∃ (kq : Nat) (x28_5 : Bool), v28 = .bool x28_5 ∧ Aside0 (winkleref13_Encoding.j0 kq t385 x28_5 = some r) ∧ Aside0 (kq ≤ k) ∧ Aside0 (Below w.heap.size w wc))
      case first =>
        have H := HC6.out
        clear HC6
        by_cases c7 : t387 = true
        · subst c7
          have H1 : (winkleref13_Encoding.j0 k t385 (decide ((t386.size : Int) > 0))) = some r := by rw [if_pos rfl] at H; exact H
          clear H
          have H := H1
          clear H1
          have H' := Aside0.mk H
          clear H
          go_wp2
          go_meet
          case rel => exact ⟨_, (decide ((t386.size : Int) > 0)), (by first | rfl | (simp; done) | (simp [*]; done) | (simp [isEmpty_bne]; done)), H', ⟨by first | omega | exact Nat.le_refl _⟩, ⟨by repeat (first | (with_reducible first | exact HB.out | apply below_alloc | apply pw_below_drewN | apply below_drew1) | exact HB.out)⟩⟩
        · replace c7 := Bool.eq_false_iff.mpr c7
          subst c7
          have H1 : (winkleref13_Encoding.j0 k t385 true) = some r := by rw [if_neg (show ¬ (false = true) by decide)] at H; exact H
          clear H
          have H := H1
          clear H1
          have H' := Aside0.mk H
          clear H
          go_wp2
          go_meet
          case rel => exact ⟨_, (true), (by first | rfl | (simp; done) | (simp [*]; done) | (simp [isEmpty_bne]; done)), H', ⟨by first | omega | exact Nat.le_refl _⟩, ⟨by repeat (first | (with_reducible first | exact HB.out | apply below_alloc | apply pw_below_drewN | apply below_drew1) | exact HB.out)⟩⟩
      case rest =>
        clear HC6
        try clear p2
        try clear c3
        try clear c4
        try clear c4b0
        try clear c4b1
        try clear c5
        try clear c7
        obtain ⟨kq, x28_5, rfl, HA, HJ5, HB⟩ := hcut
        cases kq with
        | zero => exact absurd HA.out (by simp [winkleref13_Encoding.j0])
        | succ kj5 =>
          have H := HA.out
          clear HA
          simp only [winkleref13_Encoding.j0] at H
          by_cases c8 : x28_5 = true
          · subst c8
            have H1 : (some 3) = some r := by rw [if_pos rfl] at H; exact H
            clear H
            have H := H1
            clear H1
            obtain rfl := Option.some.inj H
            go_wp2
            go_ret
            exact ⟨by first | rfl | (simp [errW_none, errW_some] <;> rfl) | (simp [*, errW_none, errW_some] <;> rfl), by repeat (first | (with_reducible first | exact HB.out | apply below_alloc | apply pw_below_drewN | apply below_drew1) | exact HB.out)⟩
          · replace c8 := Bool.eq_false_iff.mpr c8
            subst c8
            have H1 : ((winkleref13_Lower.f kj5 t385).bind fun t388 => (if t388.toList = ([98, 97, 115, 101, 54, 52] : List UInt8) then (some 1) else (if t388.toList = ([113, 117, 111, 116, 101, 100, 45, 112, 114, 105, 110, 116, 97, 98, 108, 101] : List UInt8) then (some 2) else (if t388.toList = ([55, 98, 105, 116] : List UInt8) then (some 0) else (if t388.toList = ([56, 98, 105, 116] : List UInt8) then (some 0) else (if t388.toList = ([98, 105, 110, 97, 114, 121] : List UInt8) then (some 0) else (some 3))))))) = some r := by rw [if_neg (show ¬ (false = true) by decide)] at H; exact H
            clear H
            have H := H1
            clear H1
            replace H := Option.bind_eq_some_iff.mp H
            obtain ⟨t388, A90, H⟩ := H
            replace H : (if t388.toList = ([98, 97, 115, 101, 54, 52] : List UInt8) then (some 1) else (if t388.toList = ([113, 117, 111, 116, 101, 100, 45, 112, 114, 105, 110, 116, 97, 98, 108, 101] : List UInt8) then (some 2) else (if t388.toList = ([55, 98, 105, 116] : List UInt8) then (some 0) else (if t388.toList = ([56, 98, 105, 116] : List UInt8) then (some 0) else (if t388.toList = ([98, 105, 110, 97, 114, 121] : List UInt8) then (some 0) else (some 3)))))) = some r := H
            have A9 := Aside0.mk A90
            clear A90
            by_cases c10 : t388.toList = ([98, 97, 115, 101, 54, 52] : List UInt8)
            · rw [if_pos c10] at H
              have c10b0 : (t388.toList == ([98, 97, 115, 101, 54, 52] : List UInt8)) = true := beq_iff_eq.mpr c10
              have c10b1 : (t388.toList != ([98, 97, 115, 101, 54, 52] : List UInt8)) = false := bne_eq_false_iff_eq.mpr c10
              clear c10
              obtain rfl := Option.some.inj H
              go_wp2_with (first | ((with_reducible refine gate_callee (f := 44) rfl ?_); refine goesL_ (some 30) rfl rfl Try.func44 (by kernel_rfl) rfl #[.string t385] rfl (by (try simp only [List.map_toArray, List.map_cons, List.map_nil]); first | done | rfl | (simp only [List.length_drop, List.length_take]; rfl)) ?_; (with_reducible refine (winkleref13_Lower.calls kj5 t385 t388 _ A9.out).mono ?_); rintro e w11 ⟨rfl, hb⟩; refine ⟨_, rfl, ?_⟩; have n0_ := Aside0.mk (below_step (by repeat (first | (with_reducible first | exact HB.out | apply below_alloc | apply pw_below_drewN | apply below_drew1) | exact HB.out)) hb); clear HB; have HB := n0_; clear n0_; (try clear hb); (try clear hb2); (try clear hk); (try clear hi)))
              go_ret
              exact ⟨by first | rfl | (simp [errW_none, errW_some] <;> rfl) | (simp [*, errW_none, errW_some] <;> rfl), by repeat (first | (with_reducible first | exact HB.out | apply below_alloc | apply pw_below_drewN | apply below_drew1) | exact HB.out)⟩
            · rw [if_neg c10] at H
              have c10b0 : (t388.toList == ([98, 97, 115, 101, 54, 52] : List UInt8)) = false := beq_eq_false_iff_ne.mpr c10
              have c10b1 : (t388.toList != ([98, 97, 115, 101, 54, 52] : List UInt8)) = true := bne_iff_ne.mpr c10
              by_cases c12 : t388.toList = ([113, 117, 111, 116, 101, 100, 45, 112, 114, 105, 110, 116, 97, 98, 108, 101] : List UInt8)
              · rw [if_pos c12] at H
                have c12b0 : (t388.toList == ([113, 117, 111, 116, 101, 100, 45, 112, 114, 105, 110, 116, 97, 98, 108, 101] : List UInt8)) = true := beq_iff_eq.mpr c12
                have c12b1 : (t388.toList != ([113, 117, 111, 116, 101, 100, 45, 112, 114, 105, 110, 116, 97, 98, 108, 101] : List UInt8)) = false := bne_eq_false_iff_eq.mpr c12
                clear c12
                obtain rfl := Option.some.inj H
                go_wp2_with (first | ((with_reducible refine gate_callee (f := 44) rfl ?_); refine goesL_ (some 30) rfl rfl Try.func44 (by kernel_rfl) rfl #[.string t385] rfl (by (try simp only [List.map_toArray, List.map_cons, List.map_nil]); first | done | rfl | (simp only [List.length_drop, List.length_take]; rfl)) ?_; (with_reducible refine (winkleref13_Lower.calls kj5 t385 t388 _ A9.out).mono ?_); rintro e w13 ⟨rfl, hb⟩; refine ⟨_, rfl, ?_⟩; have n0_ := Aside0.mk (below_step (by repeat (first | (with_reducible first | exact HB.out | apply below_alloc | apply pw_below_drewN | apply below_drew1) | exact HB.out)) hb); clear HB; have HB := n0_; clear n0_; (try clear hb); (try clear hb2); (try clear hk); (try clear hi)))
                go_ret
                exact ⟨by first | rfl | (simp [errW_none, errW_some] <;> rfl) | (simp [*, errW_none, errW_some] <;> rfl), by repeat (first | (with_reducible first | exact HB.out | apply below_alloc | apply pw_below_drewN | apply below_drew1) | exact HB.out)⟩
              · rw [if_neg c12] at H
                have c12b0 : (t388.toList == ([113, 117, 111, 116, 101, 100, 45, 112, 114, 105, 110, 116, 97, 98, 108, 101] : List UInt8)) = false := beq_eq_false_iff_ne.mpr c12
                have c12b1 : (t388.toList != ([113, 117, 111, 116, 101, 100, 45, 112, 114, 105, 110, 116, 97, 98, 108, 101] : List UInt8)) = true := bne_iff_ne.mpr c12
                by_cases c14 : t388.toList = ([55, 98, 105, 116] : List UInt8)
                · rw [if_pos c14] at H
                  have c14b0 : (t388.toList == ([55, 98, 105, 116] : List UInt8)) = true := beq_iff_eq.mpr c14
                  have c14b1 : (t388.toList != ([55, 98, 105, 116] : List UInt8)) = false := bne_eq_false_iff_eq.mpr c14
                  clear c14
                  obtain rfl := Option.some.inj H
                  go_wp2_with (first | ((with_reducible refine gate_callee (f := 44) rfl ?_); refine goesL_ (some 30) rfl rfl Try.func44 (by kernel_rfl) rfl #[.string t385] rfl (by (try simp only [List.map_toArray, List.map_cons, List.map_nil]); first | done | rfl | (simp only [List.length_drop, List.length_take]; rfl)) ?_; (with_reducible refine (winkleref13_Lower.calls kj5 t385 t388 _ A9.out).mono ?_); rintro e w15 ⟨rfl, hb⟩; refine ⟨_, rfl, ?_⟩; have n0_ := Aside0.mk (below_step (by repeat (first | (with_reducible first | exact HB.out | apply below_alloc | apply pw_below_drewN | apply below_drew1) | exact HB.out)) hb); clear HB; have HB := n0_; clear n0_; (try clear hb); (try clear hb2); (try clear hk); (try clear hi)))
                  go_ret
                  exact ⟨by first | rfl | (simp [errW_none, errW_some] <;> rfl) | (simp [*, errW_none, errW_some] <;> rfl), by repeat (first | (with_reducible first | exact HB.out | apply below_alloc | apply pw_below_drewN | apply below_drew1) | exact HB.out)⟩
                · rw [if_neg c14] at H
                  have c14b0 : (t388.toList == ([55, 98, 105, 116] : List UInt8)) = false := beq_eq_false_iff_ne.mpr c14
                  have c14b1 : (t388.toList != ([55, 98, 105, 116] : List UInt8)) = true := bne_iff_ne.mpr c14
                  by_cases c16 : t388.toList = ([56, 98, 105, 116] : List UInt8)
                  · rw [if_pos c16] at H
                    have c16b0 : (t388.toList == ([56, 98, 105, 116] : List UInt8)) = true := beq_iff_eq.mpr c16
                    have c16b1 : (t388.toList != ([56, 98, 105, 116] : List UInt8)) = false := bne_eq_false_iff_eq.mpr c16
                    clear c16
                    obtain rfl := Option.some.inj H
                    go_wp2_with (first | ((with_reducible refine gate_callee (f := 44) rfl ?_); refine goesL_ (some 30) rfl rfl Try.func44 (by kernel_rfl) rfl #[.string t385] rfl (by (try simp only [List.map_toArray, List.map_cons, List.map_nil]); first | done | rfl | (simp only [List.length_drop, List.length_take]; rfl)) ?_; (with_reducible refine (winkleref13_Lower.calls kj5 t385 t388 _ A9.out).mono ?_); rintro e w17 ⟨rfl, hb⟩; refine ⟨_, rfl, ?_⟩; have n0_ := Aside0.mk (below_step (by repeat (first | (with_reducible first | exact HB.out | apply below_alloc | apply pw_below_drewN | apply below_drew1) | exact HB.out)) hb); clear HB; have HB := n0_; clear n0_; (try clear hb); (try clear hb2); (try clear hk); (try clear hi)))
                    go_ret
                    exact ⟨by first | rfl | (simp [errW_none, errW_some] <;> rfl) | (simp [*, errW_none, errW_some] <;> rfl), by repeat (first | (with_reducible first | exact HB.out | apply below_alloc | apply pw_below_drewN | apply below_drew1) | exact HB.out)⟩
                  · rw [if_neg c16] at H
                    have c16b0 : (t388.toList == ([56, 98, 105, 116] : List UInt8)) = false := beq_eq_false_iff_ne.mpr c16
                    have c16b1 : (t388.toList != ([56, 98, 105, 116] : List UInt8)) = true := bne_iff_ne.mpr c16
                    by_cases c18 : t388.toList = ([98, 105, 110, 97, 114, 121] : List UInt8)
                    · rw [if_pos c18] at H
                      have c18b0 : (t388.toList == ([98, 105, 110, 97, 114, 121] : List UInt8)) = true := beq_iff_eq.mpr c18
                      have c18b1 : (t388.toList != ([98, 105, 110, 97, 114, 121] : List UInt8)) = false := bne_eq_false_iff_eq.mpr c18
                      clear c18
                      obtain rfl := Option.some.inj H
                      go_wp2_with (first | ((with_reducible refine gate_callee (f := 44) rfl ?_); refine goesL_ (some 30) rfl rfl Try.func44 (by kernel_rfl) rfl #[.string t385] rfl (by (try simp only [List.map_toArray, List.map_cons, List.map_nil]); first | done | rfl | (simp only [List.length_drop, List.length_take]; rfl)) ?_; (with_reducible refine (winkleref13_Lower.calls kj5 t385 t388 _ A9.out).mono ?_); rintro e w19 ⟨rfl, hb⟩; refine ⟨_, rfl, ?_⟩; have n0_ := Aside0.mk (below_step (by repeat (first | (with_reducible first | exact HB.out | apply below_alloc | apply pw_below_drewN | apply below_drew1) | exact HB.out)) hb); clear HB; have HB := n0_; clear n0_; (try clear hb); (try clear hb2); (try clear hk); (try clear hi)))
                      go_ret
                      exact ⟨by first | rfl | (simp [errW_none, errW_some] <;> rfl) | (simp [*, errW_none, errW_some] <;> rfl), by repeat (first | (with_reducible first | exact HB.out | apply below_alloc | apply pw_below_drewN | apply below_drew1) | exact HB.out)⟩
                    · rw [if_neg c18] at H
                      have c18b0 : (t388.toList == ([98, 105, 110, 97, 114, 121] : List UInt8)) = false := beq_eq_false_iff_ne.mpr c18
                      have c18b1 : (t388.toList != ([98, 105, 110, 97, 114, 121] : List UInt8)) = true := bne_iff_ne.mpr c18
                      obtain rfl := Option.some.inj H
                      go_wp2_with (first | ((with_reducible refine gate_callee (f := 44) rfl ?_); refine goesL_ (some 30) rfl rfl Try.func44 (by kernel_rfl) rfl #[.string t385] rfl (by (try simp only [List.map_toArray, List.map_cons, List.map_nil]); first | done | rfl | (simp only [List.length_drop, List.length_take]; rfl)) ?_; (with_reducible refine (winkleref13_Lower.calls kj5 t385 t388 _ A9.out).mono ?_); rintro e w20 ⟨rfl, hb⟩; refine ⟨_, rfl, ?_⟩; have n0_ := Aside0.mk (below_step (by repeat (first | (with_reducible first | exact HB.out | apply below_alloc | apply pw_below_drewN | apply below_drew1) | exact HB.out)) hb); clear HB; have HB := n0_; clear n0_; (try clear hb); (try clear hb2); (try clear hk); (try clear hi)))
                      go_ret
                      exact ⟨by first | rfl | (simp [errW_none, errW_some] <;> rfl) | (simp [*, errW_none, errW_some] <;> rfl), by repeat (first | (with_reducible first | exact HB.out | apply below_alloc | apply pw_below_drewN | apply below_drew1) | exact HB.out)⟩
  · replace c3 := Bool.eq_false_iff.mpr c3
    subst c3
    have H1 : (some 3) = some r := by rw [if_neg (show ¬ (false = true) by decide)] at H; exact H
    clear H
    have H := H1
    clear H1
    obtain rfl := Option.some.inj H
    go_enter Try.func51, Try.ntmps51
    go_wp2_with (first | ((with_reducible refine gate_callee (f := 75) rfl ?_); refine goesL_ (some 8) rfl rfl Try.func75 (by kernel_rfl) rfl #[.string a0] rfl (by (try simp only [List.map_toArray, List.map_cons, List.map_nil]); first | done | rfl | (simp only [List.length_drop, List.length_take]; rfl)) ?_; (with_reducible refine (winkleref13_Between.calls k a0 t383 false _ A2.out).mono ?_); rintro e w' ⟨rfl, ⟨nd, rfl⟩⟩; refine ⟨_, rfl, ?_⟩))
    go_ret
    exact ⟨by first | rfl | (simp [errW_none, errW_some] <;> rfl) | (simp [*, errW_none, errW_some] <;> rfl), by repeat (first | (with_reducible first | exact HB.out | apply below_alloc | apply pw_below_drewN | apply below_drew1) | exact HB.out)⟩
end Go.Proofs.Ytodidfdfbanliaa.PAll
