/- What the printed functions on tokens and capital letters come to, in plain words. -/
import Derived.IntWalk
import Derived.Test.YtodidfdfbanliaaQStpHPure
import Derived.Test.YtodidfdfbanliaaQStpPAllx0
import Derived.Test.YtodidfdfbanliaaQStpFLow
set_option linter.unusedVariables false
set_option linter.unusedSimpArgs false
namespace Go.Proofs.Ytodidfdfbanliaa.PAll
open Go.RowKit Go.Proofs.YtodidfdfbanliaaW.PrintWords Go.Proofs.YtodidfdfbanliaaW.PrintLast
theorem bt_nat (s : ByteArray) (i : Nat) (h : i < s.size) : bt s (i : Int) = ((s[i]'h).toNat : Int) := by
  rw [← bt_at s (i : Int) (by omega)]; rfl
theorem drop_cons_at (s : ByteArray) (i : Nat) (h : i < s.size) : s.data.toList.drop i = s[i] :: s.data.toList.drop (i + 1) := by
  rw [List.drop_eq_getElem_cons (by simpa using h)]; rfl
theorem wrap_succ (i n : Nat) (h : i < n) (hn : n ≤ 9223372036854775807) : wrap64 ((i : Int) + 1) = ((i + 1 : Nat) : Int) := by
  unfold wrap64; omega
theorem u8_ofInt (c d : UInt8) : ((c.toNat : Int) = (d.toNat : Int)) ↔ c = d := by
  rw [← UInt8.toNat_inj]; omega
/-- A statement on bytes, tried at each. -/
theorem by_bytes {p : Int → UInt8 → Prop} (h : ∀ c : Fin 256, p (c.val : Int) (UInt8.ofNat c.val)) (c : UInt8) : p (c.toNat : Int) c := by
  have := h ⟨c.toNat, c.toNat_lt⟩
  simpa using this
theorem header_low.is (c : UInt8) : header_low.f (c.toNat : Int) = some ((lowC c).toNat : Int) :=
  by_bytes (p := fun i c => header_low.f i = some ((lowC c).toNat : Int)) (by decide +kernel) c
theorem u8_low_or (c d : UInt8) : (((lowC c).toNat : Int) = ((lowC d).toNat : Int)) ↔ lowC c = lowC d := u8_ofInt _ _
/-- Are two texts alike but for capital letters? -/
def sameL (a b : List UInt8) : Bool := lowL a == lowL b
theorem header_Same.l0_ev (a b : ByteArray) (ha : a.size ≤ 9223372036854775807) (hb : a.size = b.size) (d : Nat) : ∀ i : Nat, i ≤ a.size → a.size - i = d →
    Ev (fun k => header_Same.l0 k a b (a.size : Int) (i : Int)) (sameL (a.data.toList.drop i) (b.data.toList.drop i)) := by
  induction d with
  | zero =>
    intro i hi hd
    refine Ev.step (f := fun _ => some (sameL (a.data.toList.drop i) (b.data.toList.drop i))) (fun k => ?_) (Ev.now _)
    simp only [header_Same.l0]; rw [if_neg (by omega)]
    rw [List.drop_of_length_le (by simp; omega), List.drop_of_length_le (by simp; omega)]; rfl
  | succ d ih =>
    intro i hi hd
    have hlt : i < a.size := by omega
    have hlt2 : i < b.size := by omega
    refine Ev.step (f := fun k => if ((lowC a[i]).toNat : Int) = ((lowC b[i]).toNat : Int) then header_Same.l0 k a b (a.size : Int) ((i + 1 : Nat) : Int) else some false) (fun k => ?_) ?_
    · simp only [header_Same.l0]
      rw [if_pos (by omega), if_pos (by omega), if_pos (by omega), bt_nat a i hlt, bt_nat b i hlt2, header_low.is, header_low.is, wrap_succ i a.size hlt (by omega), Option.bind_some, if_pos (by omega), Option.bind_some]
    · rw [drop_cons_at a i hlt, drop_cons_at b i hlt2]
      simp only [u8_low_or]
      by_cases h : lowC a[i] = lowC b[i]
      · have e : sameL (a[i] :: a.data.toList.drop (i + 1)) (b[i] :: b.data.toList.drop (i + 1)) = sameL (a.data.toList.drop (i + 1)) (b.data.toList.drop (i + 1)) := by simp [sameL, lowL, h]
        simp only [h, if_true, e]
        exact ih (i + 1) (by omega) (by omega)
      · have e : sameL (a[i] :: a.data.toList.drop (i + 1)) (b[i] :: b.data.toList.drop (i + 1)) = false := by simp [sameL, lowL, h]
        simp only [h, if_false, e]
        exact Ev.now false
theorem sameL_len (a b : ByteArray) (h : a.size ≠ b.size) : sameL a.data.toList b.data.toList = false := by
  simp only [sameL, beq_eq_false_iff_ne]
  intro e
  have := congrArg List.length e
  simp [lowL] at this
  omega
theorem header_Same.ev (a b : ByteArray) (ha : a.size ≤ 9223372036854775807) : Ev (fun k => header_Same.f k a b) (sameL a.data.toList b.data.toList) := by
  unfold header_Same.f
  by_cases h : a.size = b.size
  · refine Ev.congr (f := fun k => header_Same.l0 k a b (a.size : Int) 0) (fun k => if_pos (by omega)) ?_
    simpa using header_Same.l0_ev a b ha h a.size 0 (by omega) (by omega)
  · rw [sameL_len a b h]
    exact Ev.congr (f := fun k => some false) (fun k => if_neg (by omega)) (Ev.now false)
end Go.Proofs.Ytodidfdfbanliaa.PAll
