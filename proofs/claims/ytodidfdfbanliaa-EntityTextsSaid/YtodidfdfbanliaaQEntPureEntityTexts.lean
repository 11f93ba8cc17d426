/- EntityTexts: whatever the bytes, both say the same of a body. -/
import Derived.Test.YtodidfdfbanliaaQEntLEntityTexts
import Derived.Test.YtodidfdfbanliaaQEntHPlan
import Derived.Test.YtodidfdfbanliaaQEntHLaw12a
set_option linter.unusedVariables false
set_option linter.unusedSimpArgs false
namespace Go.Proofs.Ytodidfdfbanliaa.Pure
open Go.RowKit Go.Proofs.Ytodidfdfbanliaa.PAll Go.Proofs.YtodidfdfbanliaaW.PrintWords Go.Proofs.YtodidfdfbanliaaW.PrintLast
theorem rtrimL_le (l : List UInt8) : (rtrimL l).length ≤ l.length := by
  unfold rtrimL
  rw [List.length_reverse]
  have := (List.dropWhile_suffix isBl (l := l.reverse)).length_le
  simpa using this
theorem trimB_le (s : ByteArray) : (trimB s).size ≤ s.size := by
  show (trimL s.data.toList).toArray.size ≤ s.data.size
  unfold trimL
  have h1 := rtrimL_le (s.data.toList.dropWhile isBl)
  have h2 := (List.dropWhile_suffix isBl (l := s.data.toList)).length_le
  have h3 : s.data.toList.length = s.data.size := Array.length_toList
  simp only [List.size_toArray]
  omega
theorem trimF_le {fs : List S42} {B : Nat} (h : ∀ f ∈ fs, f.f0.size + f.f1.size ≤ B) : ∀ f ∈ trimF fs, f.f0.size + f.f1.size ≤ B := by
  intro f hf
  unfold trimF at hf
  obtain ⟨g, hg, rfl⟩ := List.mem_map.1 hf
  have := h g hg
  have := trimB_le g.f1
  simp only []; omega
theorem stripCR_le (l : List Int) : (stripCR l).length ≤ l.length := by
  unfold stripCR; split <;> simp
theorem ofGo_fits (most : Nat) (l : List Int) : ∀ (L : List Int) (fs : List S42) (i : Nat), Fits fs L.length i → L.length ≤ i → i ≤ most → ∀ f ∈ (ofGo most l L fs i).1, f.f0.size + f.f1.size ≤ most := by
  induction l with
  | nil =>
    intro L fs i hF hL hi
    unfold ofGo
    split
    · exact trimF_le (fun f hf => by have := hF f hf; omega)
    · split
      · exact trimF_le (fun f hf => by have := fits_line hF hL (strOfNums L) (by rw [strOfNums_size]; exact Nat.le_refl _) f hf; omega)
      · intro f hf; cases hf
  | cons c t ih =>
    intro L fs i hF hL hi
    unfold ofGo
    split
    · intro f hf; cases hf
    · split
      · exact ih _ _ _ (by simpa using fits_more hF) (by simp; omega) (by omega)
      · split
        · exact trimF_le (fun f hf => by have := hF f hf; omega)
        · split
          · exact ih _ _ _ (fits_next (fits_line hF hL _ (by rw [strOfNums_size]; exact stripCR_le L))) (by simp) (by omega)
          · intro f hf; cases hf
theorem awake19_ev : Ev (fun k => winklelaw19_awake.f k) true := Ev.of winklelaw19_awake.mono (k := 120) (by decide +kernel)
theorem EntityTexts : winklelaw19_EntityTexts.Pure := by
  intro l0 h1 h2 h3
  have hw := wholeR_ok l0 65536 (by omega) (by omega)
  have hf : header_Whole.f l0 65536 = some ((ofR l0 65536).1, usedOf (ofR l0 65536) l0.length, (ofR l0 65536).2.1, 0) := congrArg some hw
  have hof : winkleref12_Of.f l0 65536 = some (ofR l0 65536) := rfl
  have hfit : ∀ f ∈ (ofR l0 65536).1, f.f0.size + f.f1.size ≤ 65536 := ofGo_fits 65536 l0 [] [] 0 (fits_nil _ _) (by simp) (by omega)
  have hlen := ofR_len l0 65536
  have : Ev (fun k => winklelaw19_EntityTexts.f k l0) true := by
    unfold winklelaw19_EntityTexts.f
    rw [hf, hof]
    simp only [Option.bind_some]
    generalize (ofR l0 65536).1 = F at *
    have p1 := plan_ev F (fun f hf => by have := hfit f hf; omega) (fun f hf => by have := hfit f hf; omega)
    have p2 := planRef_ev F (by omega) (fun f hf => by have := hfit f hf; omega) (fun f hf => by have := hfit f hf; omega)
    refine Ev.bind (f := fun k bt610 => _) p1 ?_
    refine Ev.bind (f := fun k bt614 => _) p2 ?_
    refine Ev.congr (fun k => if_pos (by simp)) ?_
    exact Ev.bind (f := fun _ t => some t) awake19_ev (Ev.now _)
  exact this.rounds
end Go.Proofs.Ytodidfdfbanliaa.Pure
