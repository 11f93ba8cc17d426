/- mimetype.written answers a token as it stands, and any other text as a quoted one (writtenB), and turns nothing that was there. -/
import Derived.Test.YtodidfdfbanliaaQWriHLower
import Derived.Test.YtodidfdfbanliaaQWriHSem1
set_option linter.unusedVariables false
namespace Go.Proofs.Ytodidfdfbanliaa.PAll
open Go.RowKit Go.Proofs.YtodidfdfbanliaaW.PrintWords Go.Proofs.YtodidfdfbanliaaW.PrintLast Go.Proofs.YtodidfdfbanliaaW.PrintMore
def mimetype_written.f (a0 : ByteArray) : Option (ByteArray) := if 2 * a0.size + 2 ≤ 140737488355328 then some (writtenB a0) else none
theorem escC_two (c : UInt8) (h : (c.toNat : Int) = 34 ∨ (c.toNat : Int) = 92) : escC c = [92, c] := by
  unfold escC; rw [if_pos]
  rcases h with h | h
  · exact .inl ((u8_ofInt c 34).1 h)
  · exact .inr ((u8_ofInt c 92).1 h)
theorem escC_one (c : UInt8) (h1 : ¬ (c.toNat : Int) = 34) (h2 : ¬ (c.toNat : Int) = 92) : escC c = [c] := by
  unfold escC; rw [if_neg]
  rintro (h | h)
  · exact h1 ((u8_ofInt c 34).2 h)
  · exact h2 ((u8_ofInt c 92).2 h)
theorem esc_next1 (l : List UInt8) (c : UInt8) (h1 : ¬ (c.toNat : Int) = 34) (h2 : ¬ (c.toNat : Int) = 92) : Lib.byteCells (34 :: l ++ escC c) = Lib.byteCells (34 :: l) ++ [.int .u8 (c.toNat : Int)] := by
  rw [escC_one c h1 h2]; exact byteCells_snoc _ _ _ rfl
theorem esc_next2 (l : List UInt8) (c : UInt8) (h : (c.toNat : Int) = 34 ∨ (c.toNat : Int) = 92) : Lib.byteCells (34 :: l ++ escC c) = Lib.byteCells (34 :: l) ++ [.int .u8 92] ++ [.int .u8 (c.toNat : Int)] := by
  rw [escC_two c h, ← byteCells_snoc (34 :: l) 92 92 rfl, ← byteCells_snoc _ c _ rfl]; simp
theorem esc_last (l : List UInt8) : Lib.byteCells (34 :: l) ++ [.int .u8 34] = Lib.byteCells (34 :: l ++ [34]) := (byteCells_snoc _ 34 34 rfl).symm
set_option maxHeartbeats 1000000 in
set_option maxRecDepth 100000 in
theorem mimetype_written.calls (a0 : ByteArray) (r : ByteArray) (w : World) (h : mimetype_written.f a0 = some r) :
    Calls Try.prog 83 #[.string a0] w fun e w' => e = .returned (.string r) ∧ Below w.heap.size w w' := by
  unfold mimetype_written.f at h
  split at h
  case isFalse => cases h
  case isTrue hsz =>
  obtain rfl := Option.some.inj h
  clear h
  obtain ⟨kt, ht⟩ := (mimetype_Token.ev a0 (by omega)).rounds
  cases hv : tokL a0.data.toList with
  | true =>
    rw [hv] at ht
    have HE := Lib.hid (show a0 = writtenB a0 by apply ext_toList; simp [writtenB, writtenL, hv])
    clear hv
    go_enter Try.func83, Try.ntmps83
    go_wp2_with (go_at_call 41; refine (mimetype_Token.calls kt _ _ _ ht).mono ?_; rintro e w' ⟨rfl, ⟨nd, rfl⟩⟩)
    go_ret
    exact ⟨congrArg (fun x => Ending.returned (Value.string x)) HE.out, pw_below_drewN (Below.refl _ _) _⟩
  | false =>
    rw [hv] at ht
    have HE := Lib.hid (show (⟨(34 :: escL (a0.data.toList) ++ [34]).toArray⟩ : ByteArray) = writtenB a0 by simp [writtenB, writtenL, hv])
    clear hv
    go_enter Try.func83, Try.ntmps83
    go_wp2_with (first | (go_at_call 41; refine (mimetype_Token.calls kt _ _ _ ht).mono ?_; rintro e w' ⟨rfl, ⟨nd, rfl⟩⟩) | (go_at_call 81; refine (writeByte_k w.heap.size w.heap.size [] 34 _ (Lib.IsBuilderF.of (Lib.fresh_isBuilder 98 5 (w.drewN _))) (by simp) (by simp)).mono ?_; rintro e W1 ⟨rfl, h1, b1, _⟩))
    go_loopw [11] (fun v wr => ∃ k : Nat, v = .int .i64 k ∧ k ≤ a0.size ∧ Lib.IsBuilderF 98 5 w.heap.size w.heap.size (Lib.byteCells (34 :: escL (a0.data.toList.take k))) wr ∧ Below w.heap.size w wr) (fun v wr => a0.size - (intOf v).toNat)
    case atStart =>
      refine ⟨0, rfl, by omega, .inr h1, ?_⟩
      have hb0 : Below w.heap.size w ((w.drewN nd).alloc (.cells #[.pointer none, .slice none 0 0] 98)) := (pw_below_drewN (Below.refl _ w) _).alloc (by simp) _
      exact hb0.trans b1
    case round =>
      obtain ⟨k, rfl, hk, hI, hbw⟩ := hrel
      have hlen := escL_le (a0.data.toList.take k)
      have hlen2 : (a0.data.toList.take k).length ≤ k := List.length_take_le _ _
      by_cases hlt : k < a0.size
      · have HS := Lib.hid (escL_snoc a0 k hlt)
        have hsz1 := hbw.size
        by_cases hc : ((a0[k]'hlt).toNat : Int) = 34
        · have HX := Lib.hid (esc_next2 (escL (a0.data.toList.take k)) (a0[k]'hlt) (.inl hc))
          have c1 : (((a0[k]'hlt).toNat : Int) == 34) = true := beq_iff_eq.2 hc
          clear hc
          go_wp2_with (fail)
          refine (writeByte_k w.heap.size w.heap.size _ _ _ hI (by rw [Lib.byteCells_length]; simp; omega) hbw.size).mono ?_
          rintro e W2 ⟨rfl, h2, b2, _⟩
          go_wp2_with (fail)
          refine (writeByte_k w.heap.size w.heap.size _ _ _ (.inr h2) (by rw [List.length_append, Lib.byteCells_length]; simp; omega) (Nat.le_trans hbw.size b2.size)).mono ?_
          rintro e W3 ⟨rfl, h3, b3, _⟩
          go_wp2
          go_roundw
          case rel =>
            refine ⟨k + 1, by go_num, by omega, ?_, (hbw.trans b2).trans b3⟩
            rw [HS.out, ← List.cons_append, HX.out]
            exact .inr h3
          case measure => simp [intOf]; omega
        · have c1 : (((a0[k]'hlt).toNat : Int) == 34) = false := beq_eq_false_iff_ne.2 hc
          by_cases hc2 : ((a0[k]'hlt).toNat : Int) = 92
          · have HX := Lib.hid (esc_next2 (escL (a0.data.toList.take k)) (a0[k]'hlt) (.inr hc2))
            have c2 : (((a0[k]'hlt).toNat : Int) == 92) = true := beq_iff_eq.2 hc2
            clear hc hc2
            go_wp2_with (fail)
            refine (writeByte_k w.heap.size w.heap.size _ _ _ hI (by rw [Lib.byteCells_length]; simp; omega) hbw.size).mono ?_
            rintro e W2 ⟨rfl, h2, b2, _⟩
            go_wp2_with (fail)
            refine (writeByte_k w.heap.size w.heap.size _ _ _ (.inr h2) (by rw [List.length_append, Lib.byteCells_length]; simp; omega) (Nat.le_trans hbw.size b2.size)).mono ?_
            rintro e W3 ⟨rfl, h3, b3, _⟩
            go_wp2
            go_roundw
            case rel =>
              refine ⟨k + 1, by go_num, by omega, ?_, (hbw.trans b2).trans b3⟩
              rw [HS.out, ← List.cons_append, HX.out]
              exact .inr h3
            case measure => simp [intOf]; omega
          · have HX := Lib.hid (esc_next1 (escL (a0.data.toList.take k)) (a0[k]'hlt) hc hc2)
            have c2 : (((a0[k]'hlt).toNat : Int) == 92) = false := beq_eq_false_iff_ne.2 hc2
            clear hc hc2
            go_wp2_with (fail)
            refine (writeByte_k w.heap.size w.heap.size _ _ _ hI (by rw [Lib.byteCells_length]; simp; omega) hbw.size).mono ?_
            rintro e W2 ⟨rfl, h2, b2, _⟩
            go_wp2
            go_roundw
            case rel =>
              refine ⟨k + 1, by go_num, by omega, ?_, hbw.trans b2⟩
              rw [HS.out, ← List.cons_append, HX.out]
              exact .inr h2
            case measure => simp [intOf]; omega
      · have HD := Lib.hid (show escL (a0.data.toList.take k) = escL a0.data.toList by rw [List.take_of_length_le (by simp; omega)])
        go_wp2_with (fail)
        refine (writeByte_k w.heap.size w.heap.size _ _ _ hI (by rw [Lib.byteCells_length]; simp; omega) hbw.size).mono ?_
        rintro e W2 ⟨rfl, h2, b2, _⟩
        go_wp2_with (fail)
        rw [HD.out, esc_last] at h2
        refine (Try.Builder_String_any_k w.heap.size w.heap.size _ _ (.inr h2) (Nat.le_trans hbw.size b2.size)).mono ?_
        rintro e W3 ⟨rfl, _, b3, _⟩
        go_wp2
        go_ret
        exact ⟨congrArg (fun x => Ending.returned (Value.string x)) HE.out, (hbw.trans b2).trans b3⟩
end Go.Proofs.Ytodidfdfbanliaa.PAll
