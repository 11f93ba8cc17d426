/- Trimming, plainly: a text without the blanks (bytes 9, 32) at its ends. -/
import Derived.Test.YtodidfdfbanliaaQStpHWords
namespace Go.Proofs.Ytodidfdfbanliaa.PAll
def isBl (c : UInt8) : Bool := c == 9 || c == 32
def rtrimL (l : List UInt8) : List UInt8 := (l.reverse.dropWhile isBl).reverse
def trimL (l : List UInt8) : List UInt8 := rtrimL (l.dropWhile isBl)
def trimB (s : ByteArray) : ByteArray := ⟨(trimL s.data.toList).toArray⟩
theorem rtrimL_nil : rtrimL [] = [] := rfl
theorem rtrimL_snoc_bl (l : List UInt8) (c : UInt8) (h : isBl c = true) : rtrimL (l ++ [c]) = rtrimL l := by
  simp [rtrimL, h]
theorem rtrimL_snoc_no (l : List UInt8) (c : UInt8) (h : isBl c = false) : rtrimL (l ++ [c]) = l ++ [c] := by
  simp [rtrimL, h]
theorem dropWhile_at (l : List UInt8) (n : Nat) (h : n ≤ l.length) (ha : ∀ i (hi : i < l.length), i < n → isBl l[i] = true) (hs : ∀ hn : n < l.length, isBl l[n] = false) : l.dropWhile isBl = l.drop n := by
  induction l generalizing n with
  | nil => simp
  | cons c l ih =>
    cases n with
    | zero => have h0 : isBl c = false := hs (by simp); simp [h0]
    | succ n =>
      have h0 : isBl c = true := ha 0 (by simp) (by omega)
      rw [List.dropWhile_cons_of_pos h0, List.drop_succ_cons]
      refine ih n (by simpa using h) (fun i hi hin => ?_) (fun hn => ?_)
      · have := ha (i + 1) (by simpa using hi) (by omega); simpa using this
      · have := hs (by simpa using hn); simpa using this
theorem mk_toList (s : ByteArray) : (⟨s.data.toList.toArray⟩ : ByteArray) = s := by cases s; simp
theorem ext_toList {s t : ByteArray} (h : s.data.toList = t.data.toList) : s = t := by rw [← mk_toList s, ← mk_toList t, h]
theorem getElem_toList (s : ByteArray) (i : Nat) (h : i < s.size) : s[i] = s.data.toList[i]'(by simpa using h) := by rfl
theorem extract_toList (s : ByteArray) (a b : Nat) : (s.extract a b).data.toList = (s.data.toList.take b).drop a := by
  simp [ByteArray.data_extract, Array.toList_extract, List.drop_take]
end Go.Proofs.Ytodidfdfbanliaa.PAll
