/- Plain words on texts: small letters, tokens, how a value is written. -/
import Derived.Test.YtodidfdfbanliaaQCapHTrimP
namespace Go.Proofs.Ytodidfdfbanliaa.PAll
def lowC (c : UInt8) : UInt8 := if 65 ≤ c ∧ c ≤ 90 then c + 32 else c
def lowL (l : List UInt8) : List UInt8 := l.map lowC
def lowB (s : ByteArray) : ByteArray := ⟨(lowL s.data.toList).toArray⟩
def markC (c : UInt8) : Bool := (33 ≤ c && c ≤ 126) && !([40, 41, 60, 62, 64, 44, 59, 58, 92, 34, 47, 91, 93, 63, 61] : List UInt8).contains c
def tokL (l : List UInt8) : Bool := !l.isEmpty && l.all markC
def escC (c : UInt8) : List UInt8 := if c = 34 ∨ c = 92 then [92, c] else [c]
def escL (l : List UInt8) : List UInt8 := l.flatMap escC
def writtenL (l : List UInt8) : List UInt8 := if tokL l then l else 34 :: escL l ++ [34]
theorem lowC_toNat (c : UInt8) : ((lowC c).toNat : Int) = if 65 ≤ (c.toNat : Int) ∧ (c.toNat : Int) ≤ 90 then (c.toNat : Int) + 32 else c.toNat := by
  unfold lowC
  have e : (65 ≤ c ∧ c ≤ 90) ↔ (65 ≤ (c.toNat : Int) ∧ (c.toNat : Int) ≤ 90) := by
    rw [UInt8.le_iff_toNat_le, UInt8.le_iff_toNat_le]; show (65 ≤ c.toNat ∧ c.toNat ≤ 90) ↔ _; omega
  by_cases h : 65 ≤ c ∧ c ≤ 90
  · rw [if_pos h, if_pos (e.1 h)]
    have h2 := e.1 h
    rw [UInt8.toNat_add]; show (((c.toNat + 32) % 256 : Nat) : Int) = _; omega
  · rw [if_neg h, if_neg (fun h2 => h (e.2 h2))]
theorem take_snocB (s : ByteArray) (k : Nat) (h : k < s.size) : s.data.toList.take (k + 1) = s.data.toList.take k ++ [s[k]] := by
  rw [List.take_succ_eq_append_getElem (by simpa using h)]; rfl
theorem lowL_snoc (s : ByteArray) (k : Nat) (h : k < s.size) : lowL (s.data.toList.take (k + 1)) = lowL (s.data.toList.take k) ++ [lowC s[k]] := by
  rw [take_snocB s k h]; simp [lowL]
theorem toList_size (s : ByteArray) : s.data.toList.length = s.size := by simp
end Go.Proofs.Ytodidfdfbanliaa.PAll
