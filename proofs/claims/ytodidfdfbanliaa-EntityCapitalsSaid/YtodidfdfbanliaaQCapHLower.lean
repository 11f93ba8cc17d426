/- mimetype.Lower answers the text with small letters (lowB), and turns nothing that was there. -/
import Derived.Lib.Hide
import Derived.Outline
import Derived.Test.YtodidfdfbanliaaQCapHPure
import Derived.Test.YtodidfdfbanliaaQCapHBuilder
import Derived.Test.YtodidfdfbanliaaQCapHShelf
set_option linter.unusedVariables false
namespace Go.Proofs.Ytodidfdfbanliaa.PAll
open Go.RowKit Go.Proofs.YtodidfdfbanliaaW.PrintWords Go.Proofs.YtodidfdfbanliaaW.PrintLast Go.Proofs.YtodidfdfbanliaaW.PrintMore
def mimetype_Lower.f (a0 : ByteArray) : Option (ByteArray) := if a0.size < 140737488355328 then some (lowB a0) else none
theorem byteCells_snoc (l : List UInt8) (c : UInt8) (x : Int) (h : (c.toNat : Int) = x) : Lib.byteCells (l ++ [c]) = Lib.byteCells l ++ [.int .u8 x] := by
  subst h; simp [Lib.byteCells]
set_option maxHeartbeats 1000000 in
set_option maxRecDepth 100000 in
theorem mimetype_Lower.calls (a0 : ByteArray) (r : ByteArray) (w : World) (h : mimetype_Lower.f a0 = some r) :
    Calls Try.prog 43 #[.string a0] w fun e w' => e = .returned (.string r) ∧ Below w.heap.size w w' := by
  unfold mimetype_Lower.f at h
  split at h
  case isFalse => cases h
  case isTrue hsz =>
  obtain rfl := Option.some.inj h
  clear h
  go_enter Try.func43, Try.ntmps43
  go_wp2
  go_loopw [8] (fun v wr => ∃ k : Nat, v = .int .i64 k ∧ k ≤ a0.size ∧ Lib.IsBuilderF 98 5 w.heap.size w.heap.size (Lib.byteCells (lowL (a0.data.toList.take k))) wr ∧ Below w.heap.size w wr) (fun v wr => a0.size - (intOf v).toNat)
  case atStart =>
    exact ⟨0, rfl, by omega, Lib.IsBuilderF.of (Lib.fresh_isBuilder 98 5 w), (Below.refl _ w).alloc (Nat.le_refl _) _⟩
  case round =>
    obtain ⟨k, rfl, hk, hI, hbw⟩ := hrel
    have hlen : (lowL (a0.data.toList.take k)).length ≤ k := by simp [lowL]; omega
    by_cases hlt : k < a0.size
    · have HS := Lib.hid (lowL_snoc a0 k hlt)
      have hsz1 := hbw.size
      have hb8 : Hid (((lowC (a0[k]'hlt)).toNat : Int) = if 65 ≤ ((a0[k]'hlt).toNat : Int) ∧ ((a0[k]'hlt).toNat : Int) ≤ 90 then ((a0[k]'hlt).toNat : Int) + 32 else (a0[k]'hlt).toNat) := lowC_toNat _
      by_cases hc : 65 ≤ ((a0[k]'hlt).toNat : Int) ∧ ((a0[k]'hlt).toNat : Int) ≤ 90
      · obtain ⟨hc1, hc2⟩ := hc
        have HX := Lib.hid (hb8.out.trans (if_pos ⟨hc1, hc2⟩))
        clear hb8
        go_wp2_with (go_at_call 81; refine (writeByte_k w.heap.size w.heap.size _ _ _ hI (by rw [Lib.byteCells_length]; omega) hbw.size).mono ?_; rintro e W1 ⟨rfl, h1, b1, _⟩)
        go_roundw
        case rel =>
          refine ⟨k + 1, by go_num, by omega, ?_, hbw.trans b1⟩
          rw [HS.out, byteCells_snoc _ _ _ HX.out]
          exact .inr h1
        case measure => simp [intOf]; omega
      · have HX := Lib.hid (hb8.out.trans (if_neg hc))
        clear hb8
        by_cases hc1 : 65 ≤ ((a0[k]'hlt).toNat : Int)
        · have hc2 : ¬ ((a0[k]'hlt).toNat : Int) ≤ 90 := fun h => hc ⟨hc1, h⟩
          clear hc
          go_wp2_with (go_at_call 81; refine (writeByte_k w.heap.size w.heap.size _ _ _ hI (by rw [Lib.byteCells_length]; omega) hbw.size).mono ?_; rintro e W1 ⟨rfl, h1, b1, _⟩)
          go_roundw
          case rel =>
            refine ⟨k + 1, by go_num, by omega, ?_, hbw.trans b1⟩
            rw [HS.out, byteCells_snoc _ _ _ HX.out]
            exact .inr h1
          case measure => simp [intOf]; omega
        · clear hc
          go_wp2_with (go_at_call 81; refine (writeByte_k w.heap.size w.heap.size _ _ _ hI (by rw [Lib.byteCells_length]; omega) hbw.size).mono ?_; rintro e W1 ⟨rfl, h1, b1, _⟩)
          go_roundw
          case rel =>
            refine ⟨k + 1, by go_num, by omega, ?_, hbw.trans b1⟩
            rw [HS.out, byteCells_snoc _ _ _ HX.out]
            exact .inr h1
          case measure => simp [intOf]; omega
    · have HE := Lib.hid (show (⟨(lowL (a0.data.toList.take k)).toArray⟩ : ByteArray) = lowB a0 by rw [List.take_of_length_le (by simp; omega)]; rfl)
      go_wp2_with (go_at_call 82; refine (Try.Builder_String_any_k w.heap.size w.heap.size _ _ hI hbw.size).mono ?_; rintro e W1 ⟨rfl, _, b1, _⟩)
      go_ret
      exact ⟨congrArg (fun x => Ending.returned (Value.string x)) HE.out, hbw.trans b1⟩
end Go.Proofs.Ytodidfdfbanliaa.PAll
