/- What a header's line and its bytes say, in plain words. -/
import Derived.Test.YtodidfdfbanliaaQStpHFields
namespace Go.Proofs.Ytodidfdfbanliaa.PAll
open Go.RowKit Go.Proofs.YtodidfdfbanliaaW.PrintWords
def okName (c : UInt8) : Bool := 33 ≤ c && c ≤ 126 && c != 58
/-- How many bytes a line's name has; 0: it begins no field. -/
def nameL (l : List UInt8) : Nat := if l[(l.takeWhile okName).length]? = some 58 then (l.takeWhile okName).length else 0
def zS : S42 := ⟨⟨#[]⟩, ⟨#[]⟩⟩
/-- The last field's value goes on. -/
def addLast (fs : List S42) (s : ByteArray) : List S42 := fs.set (fs.length - 1) ⟨(fs.getD (fs.length - 1) zS).f0, (fs.getD (fs.length - 1) zS).f1 ++ s⟩
def firstBl (s : ByteArray) : Bool := match s.data.toList with | c :: _ => isBl c | [] => false
/-- One more line: the fields, and why it is stopped (0: it is not). -/
def lineR (fs : List S42) (s : ByteArray) : List S42 × Int :=
  if firstBl s then (if fs = [] then (fs, 30) else (addLast fs s, 0))
  else if nameL s.data.toList = 0 then (fs, 30)
  else if fs.length = 64 then (fs, 31)
  else (fs ++ [⟨s.extract 0 (nameL s.data.toList), s.extract (nameL s.data.toList + 1) s.size⟩], 0)
def trimF (fs : List S42) : List S42 := fs.map fun f => ⟨f.f0, trimB f.f1⟩
def stripCR (l : List Int) : List Int := if l.getLast? = some 13 then l.dropLast else l
/-- What bytes say behind some lines and a line that was begun: the fields, why they are stopped, and with which byte. -/
def ofGo (most : Int) : List Int → List Int → List S42 → Nat → List S42 × Int × Int
  | [], line, fs, i => if line = [] then (trimF fs, 0, i) else if (lineR fs (strOfNums line)).2 = 0 then (trimF (lineR fs (strOfNums line)).1, 0, i) else ([], (lineR fs (strOfNums line)).2, i)
  | c :: t, line, fs, i =>
    if most ≤ (i : Int) then ([], 31, i)
    else if c ≠ 10 then ofGo most t (line ++ [c]) fs (i + 1)
    else if stripCR line = [] then (trimF fs, 0, i)
    else if (lineR fs (strOfNums (stripCR line))).2 = 0 then ofGo most t [] (lineR fs (strOfNums (stripCR line))).1 (i + 1)
    else ([], (lineR fs (strOfNums (stripCR line))).2, i)
def ofR (l : List Int) (most : Int) : List S42 × Int × Int := ofGo most l [] [] 0
theorem strOfNums_size (l : List Int) : (strOfNums l).size = l.length := by
  unfold strOfNums; show (Array.size _) = _; simp
theorem nameL_lt (l : List UInt8) (h : nameL l ≠ 0) : nameL l < l.length := by
  unfold nameL at h ⊢
  split at h
  · rename_i hc
    rw [if_pos hc]
    exact (List.getElem?_eq_some_iff.1 hc).1
  · exact absurd rfl h
/-- The fields' values, each, and the line that was begun, are no longer than what came. -/
def Fits (fs : List S42) (n i : Nat) : Prop := ∀ f ∈ fs, f.f0.size + f.f1.size + n ≤ i
theorem fits_nil (n i : Nat) : Fits [] n i := fun f hf => by cases hf
theorem fits_line {fs : List S42} {n i : Nat} (h : Fits fs n i) (hn : n ≤ i) (s : ByteArray) (hs : s.size ≤ n) : Fits (lineR fs s).1 0 i := by
  have h0 : Fits fs 0 i := fun f hf => by have := h f hf; omega
  unfold lineR
  split
  · split
    · exact h0
    · intro f hf
      simp only [addLast] at hf
      rcases List.mem_or_eq_of_mem_set hf with hf | rfl
      · exact h0 f hf
      · have hlen : fs.length - 1 < fs.length := by
          have : fs.length ≠ 0 := by rename_i h2; intro e; exact h2 (List.eq_nil_of_length_eq_zero e)
          omega
        have := h (fs.getD (fs.length - 1) zS) (by rw [List.getD_eq_getElem?_getD, List.getElem?_eq_getElem hlen]; exact List.getElem_mem _)
        show (fs.getD (fs.length - 1) zS).f0.size + ((fs.getD (fs.length - 1) zS).f1 ++ s).size + 0 ≤ i
        rw [ByteArray.size_append]; omega
  · split
    · exact h0
    · split
      · exact h0
      · intro f hf
        rcases List.mem_append.1 hf with hf | hf
        · exact h0 f hf
        · rw [List.mem_singleton] at hf
          subst hf
          simp
          have := nameL_lt s.data.toList (by assumption)
          rw [toList_size] at this
          omega
theorem fits_more {fs : List S42} {n i : Nat} (h : Fits fs n i) : Fits fs (n + 1) (i + 1) := fun f hf => by have := h f hf; omega
theorem fits_next {fs : List S42} {i : Nat} (h : Fits fs 0 i) : Fits fs 0 (i + 1) := fun f hf => by have := h f hf; omega
end Go.Proofs.Ytodidfdfbanliaa.PAll
