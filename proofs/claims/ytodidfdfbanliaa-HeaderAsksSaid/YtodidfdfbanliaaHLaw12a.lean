/- Layer 12's plain law, first part: what ofR and wholeR answer, in plain Lean. -/
import Derived.Test.YtodidfdfbanliaaHWhole
import Derived.Test.YtodidfdfbanliaaPAllx4
set_option linter.unusedVariables false
namespace Go.Proofs.Ytodidfdfbanliaa.PAll
open Go.RowKit Go.Proofs.YtodidfdfbanliaaW.PrintWords Go.Proofs.YtodidfdfbanliaaW.PrintLast Go.Proofs.YtodidfdfbanliaaW.PrintMore

theorem fields_same_l0 (a : List S42) (hl : a.length ≤ 9223372036854775807) (d : Nat) : ∀ i : Nat, i ≤ a.length → a.length - i = d → Ev (fun k => winkleref12_Fields.l0 k a a (i : Int)) true := by
  induction d with
  | zero =>
    intro i hi hd
    refine Ev.step (f := fun _ => some true) (fun k => ?_) (Ev.now _)
    simp only [winkleref12_Fields.l0]; rw [if_neg (by omega)]
  | succ d ih =>
    intro i hi hd
    refine Ev.step (f := fun k => winkleref12_Fields.l0 k a a ((i + 1 : Nat) : Int)) (fun k => ?_) (ih (i + 1) (by omega) (by omega))
    simp only [winkleref12_Fields.l0]
    rw [if_pos (by omega), if_pos (by omega), if_pos (by omega), wrap_succ i a.length (by omega) (by omega)]
    simp
theorem fields_same (a : List S42) (hl : a.length ≤ 9223372036854775807) : Ev (fun k => winkleref12_Fields.f k a a) true := by
  refine (fields_same_l0 a hl a.length 0 (by omega) (by omega)).congr (fun k => ?_)
  simp [winkleref12_Fields.f]

theorem ofGo_at (most : Int) (l : List Int) : ∀ (L : List Int) (fs : List S42) (i : Nat), (i : Int) ≤ (ofGo most l L fs i).2.2 ∧ (ofGo most l L fs i).2.2 ≤ (i : Int) + l.length := by
  induction l with
  | nil =>
    intro L fs i
    unfold ofGo
    split
    · simp
    · split <;> simp
  | cons c t ih =>
    intro L fs i
    unfold ofGo
    have h1 := ih (L ++ [c]) fs (i + 1)
    split
    · simp; omega
    · split
      · simp only [List.length_cons]; omega
      · split
        · simp; omega
        · split
          · have h2 := ih [] (lineR fs (strOfNums (stripCR L))).1 (i + 1)
            simp only [List.length_cons]; omega
          · simp; omega
theorem ofGo_len (most : Int) (l : List Int) : ∀ (L : List Int) (fs : List S42) (i : Nat), fs.length ≤ 64 → (ofGo most l L fs i).1.length ≤ 64 := by
  induction l with
  | nil =>
    intro L fs i h
    unfold ofGo
    split
    · simpa [trimF] using h
    · split
      · simp only [trimF_len]; exact lineR_le _ _ h
      · simp
  | cons c t ih =>
    intro L fs i h
    unfold ofGo
    split
    · simp
    · split
      · exact ih _ _ _ h
      · split
        · simpa [trimF] using h
        · split
          · exact ih _ _ _ (lineR_le _ _ h)
          · simp
/-- A line that was stopped tells why. -/
theorem lineR_why (fs : List S42) (s : ByteArray) : (lineR fs s).2 = 0 ∨ (lineR fs s).2 = 30 ∨ (lineR fs s).2 = 31 := by
  unfold lineR
  repeat' split
  all_goals simp
theorem ofR_bounds (l : List Int) (most : Int) : 0 ≤ (ofR l most).2.2 ∧ (ofR l most).2.2 ≤ (l.length : Int) := by
  have := ofGo_at most l [] [] 0
  unfold ofR
  omega
theorem ofR_len (l : List Int) (most : Int) : (ofR l most).1.length ≤ 64 := ofGo_len most l [] [] 0 (by simp)

/-- What comes behind the end of a header changes nothing. -/
theorem ofGo_more (most : Int) (m l : List Int) : ∀ (L : List Int) (fs : List S42) (i : Nat), (ofGo most l L fs i).2.2 < (i : Int) + l.length → ofGo most (l ++ m) L fs i = ofGo most l L fs i := by
  induction l with
  | nil =>
    intro L fs i h
    exfalso
    have := (ofGo_at most [] L fs i).1
    simp at h; omega
  | cons c t ih =>
    intro L fs i h
    rw [List.cons_append]
    unfold ofGo at h ⊢
    split
    · rfl
    · rename_i h1
      rw [if_neg h1] at h
      split
      · rename_i h2
        rw [if_pos h2] at h
        exact ih _ _ _ (by simp only [List.length_cons] at h; omega)
      · rename_i h2
        rw [if_neg h2] at h
        split
        · rfl
        · rename_i h3
          rw [if_neg h3] at h
          split
          · rename_i h4
            rw [if_pos h4] at h
            exact ih _ _ _ (by simp only [List.length_cons] at h; omega)
          · rfl
theorem ofR_more (l m : List Int) (most : Int) (h : (ofR l most).2.2 < (l.length : Int)) : ofR (l ++ m) most = ofR l most :=
  ofGo_more most m l [] [] 0 (by unfold ofR at h; omega)
/-- A header that ends with a line's end, and an empty line behind it. -/
theorem ofGo_blank (most : Int) (l : List Int) : ∀ (L : List Int) (fs : List S42) (i : Nat), (l = [] → L = []) → (∀ h : l ≠ [], l.getLast h = 10) → (i : Int) + l.length < most → (ofGo most l L fs i).2.1 = 0 → ofGo most (l ++ [10, 122]) L fs i = ofGo most l L fs i := by
  induction l with
  | nil =>
    intro L fs i h0 _ hm _
    obtain rfl := h0 rfl
    simp only [List.nil_append]
    unfold ofGo
    rw [if_neg (by simp at hm; omega), if_neg (by simp), if_pos (by rfl), if_pos rfl]
  | cons c t ih =>
    intro L fs i h0 hl hm hw
    rw [List.cons_append]
    unfold ofGo at hw ⊢
    have hl2 : ∀ h : t ≠ [], t.getLast h = 10 := fun h => by rw [← hl (by simp), List.getLast_cons h]
    split
    · rfl
    · rename_i h1
      rw [if_neg h1] at hw
      split
      · rename_i h2
        rw [if_pos h2] at hw
        refine ih _ _ _ (fun e => ?_) hl2 (by simp only [List.length_cons] at hm; omega) hw
        exfalso; apply h2
        have := hl (by simp)
        subst e
        simpa using this
      · rename_i h2
        rw [if_neg h2] at hw
        split
        · rfl
        · rename_i h3
          rw [if_neg h3] at hw
          split
          · rename_i h4
            rw [if_pos h4] at hw
            exact ih _ _ _ (fun _ => rfl) hl2 (by simp only [List.length_cons] at hm; omega) hw
          · rfl
theorem ofR_blank (l : List Int) (most : Int) (hl : ∀ h : l ≠ [], l.getLast h = 10) (hm : (l.length : Int) < most) (hw : (ofR l most).2.1 = 0) : ofR (l ++ [10, 122]) most = ofR l most :=
  ofGo_blank most l [] [] 0 (fun _ => rfl) hl (by omega) hw
/-- How many bytes a run used. -/
def usedOf (r : List S42 × Int × Int) (n : Int) : Int := if r.2.2 < n then r.2.2 + 1 else n
theorem ofGo_most (m1 m2 : Int) (l : List Int) : ∀ (L : List Int) (fs : List S42) (i : Nat), (ofGo m1 l L fs i).2.1 = 0 → usedOf (ofGo m1 l L fs i) ((i : Int) + l.length) ≤ m2 → ofGo m2 l L fs i = ofGo m1 l L fs i := by
  induction l with
  | nil => intro L fs i _ _; unfold ofGo; rfl
  | cons c t ih =>
    intro L fs i hw hu
    have hat := ofGo_at m1 (c :: t) L fs i
    have hi2 : (i : Int) < m2 := by
      unfold usedOf at hu
      simp only [List.length_cons] at hu
      split at hu <;> omega
    unfold ofGo at hw hu ⊢
    by_cases h1 : m1 ≤ (i : Int)
    · rw [if_pos h1] at hw; simp at hw
    · rw [if_neg h1] at hw hu
      rw [if_neg h1, if_neg (by omega)]
      by_cases h2 : c ≠ 10
      · rw [if_pos h2] at hw hu
        rw [if_pos h2, if_pos h2]
        exact ih _ _ _ hw (by rw [show ((i + 1 : Nat) : Int) + (t.length : Int) = (i : Int) + ((c :: t).length : Int) from by simp only [List.length_cons]; omega]; exact hu)
      · rw [if_neg h2] at hw hu
        rw [if_neg h2, if_neg h2]
        by_cases h3 : stripCR L = []
        · rw [if_pos h3, if_pos h3]
        · rw [if_neg h3] at hw hu
          rw [if_neg h3, if_neg h3]
          by_cases h4 : (lineR fs (strOfNums (stripCR L))).2 = 0
          · rw [if_pos h4] at hw hu
            rw [if_pos h4, if_pos h4]
            exact ih _ _ _ hw (by rw [show ((i + 1 : Nat) : Int) + (t.length : Int) = (i : Int) + ((c :: t).length : Int) from by simp only [List.length_cons]; omega]; exact hu)
          · rw [if_neg h4] at hw
            exact absurd hw h4
theorem ofGo_less (m1 m2 : Int) (l : List Int) : ∀ (L : List Int) (fs : List S42) (i : Nat), (ofGo m1 l L fs i).2.1 = 0 → (i : Int) ≤ m2 → usedOf (ofGo m1 l L fs i) ((i : Int) + l.length) = m2 + 1 → ofGo m2 l L fs i = ([], 31, m2) := by
  induction l with
  | nil =>
    intro L fs i _ hi hu
    exfalso
    unfold usedOf at hu
    have := (ofGo_at m1 [] L fs i).1
    simp only [List.length_nil] at hu
    split at hu <;> omega
  | cons c t ih =>
    intro L fs i hw hi hu
    by_cases hq : m2 ≤ (i : Int)
    · have : m2 = i := by omega
      unfold ofGo; rw [if_pos hq, this]
    · unfold ofGo at hw hu ⊢
      rw [if_neg hq]
      by_cases h1 : m1 ≤ (i : Int)
      · rw [if_pos h1] at hw; simp at hw
      · rw [if_neg h1] at hw hu
        by_cases h2 : c ≠ 10
        · rw [if_pos h2] at hw hu
          rw [if_pos h2]
          exact ih _ _ _ hw (by omega) (by rw [show ((i + 1 : Nat) : Int) + (t.length : Int) = (i : Int) + ((c :: t).length : Int) from by simp only [List.length_cons]; omega]; exact hu)
        · rw [if_neg h2] at hw hu
          rw [if_neg h2]
          by_cases h3 : stripCR L = []
          · exfalso
            rw [if_pos h3] at hu
            unfold usedOf at hu
            simp only [List.length_cons] at hu
            split at hu <;> omega
          · rw [if_neg h3] at hw hu
            rw [if_neg h3]
            by_cases h4 : (lineR fs (strOfNums (stripCR L))).2 = 0
            · rw [if_pos h4] at hw hu
              rw [if_pos h4]
              exact ih _ _ _ hw (by omega) (by rw [show ((i + 1 : Nat) : Int) + (t.length : Int) = (i : Int) + ((c :: t).length : Int) from by simp only [List.length_cons]; omega]; exact hu)
            · rw [if_neg h4] at hw
              exact absurd hw h4
theorem ofGo_used (most : Int) (l : List Int) : ∀ (L : List Int) (fs : List S42) (i : Nat), (i : Int) ≤ most → (ofGo most l L fs i).2.1 = 0 → usedOf (ofGo most l L fs i) ((i : Int) + l.length) ≤ most := by
  induction l with
  | nil =>
    intro L fs i hi _
    unfold usedOf
    have := (ofGo_at most [] L fs i).1
    simp only [List.length_nil]
    split <;> omega
  | cons c t ih =>
    intro L fs i hi hw
    unfold ofGo at hw ⊢
    by_cases h1 : most ≤ (i : Int)
    · rw [if_pos h1] at hw; simp at hw
    · rw [if_neg h1] at hw
      rw [if_neg h1]
      have key : ((i + 1 : Nat) : Int) + (t.length : Int) = (i : Int) + ((c :: t).length : Int) := by simp only [List.length_cons]; omega
      by_cases h2 : c ≠ 10
      · rw [if_pos h2] at hw
        rw [if_pos h2, ← key]
        exact ih _ _ _ (by omega) hw
      · rw [if_neg h2] at hw
        rw [if_neg h2]
        by_cases h3 : stripCR L = []
        · rw [if_pos h3]
          unfold usedOf
          simp only [List.length_cons]
          split <;> omega
        · rw [if_neg h3] at hw
          rw [if_neg h3]
          by_cases h4 : (lineR fs (strOfNums (stripCR L))).2 = 0
          · rw [if_pos h4] at hw
            rw [if_pos h4, ← key]
            exact ih _ _ _ (by omega) hw
          · rw [if_neg h4] at hw
            exact absurd hw h4
theorem wholeR_ok (l : List Int) (most : Int) (h1 : 1 ≤ most) (h2 : most ≤ 65536) : wholeR l most = ((ofR l most).1, usedOf (ofR l most) l.length, (ofR l most).2.1, 0) := by
  unfold wholeR usedOf
  rw [if_neg (by omega)]
theorem whole_lit : wholeR [65, 58, 32, 49, 13, 10, 32, 50, 13, 10, 98, 58, 10, 10, 120] 99 = ([⟨⟨#[65]⟩, ⟨#[49, 32, 50]⟩⟩, ⟨⟨#[98]⟩, ⟨#[]⟩⟩], 14, 0, 0) := by kernel_rfl
end Go.Proofs.Ytodidfdfbanliaa.PAll
