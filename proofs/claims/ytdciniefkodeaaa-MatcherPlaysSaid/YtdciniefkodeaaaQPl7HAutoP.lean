/- Many patterns at once, in plain words: the numbers of the states, the edges' map, what link computes in order of depth. No program here. -/
import Derived.Test.YtdciniefkodeaaaQPl7HTrie
set_option linter.unusedVariables false
set_option linter.unusedSimpArgs false
namespace Go.Proofs.Ytdciniefkodeaaa.PAll
theorem idx_lt {T : List Wd} {x : Wd} (h : x ∈ T) : T.idxOf x < T.length := List.idxOf_lt_length_iff.2 h
theorem idx_get {T : List Wd} {x : Wd} (h : x ∈ T) : T.getD (T.idxOf x) [] = x := by
  rw [List.getD_eq_getElem?_getD, List.getElem?_eq_getElem (idx_lt h), Option.getD_some, List.getElem_idxOf (idx_lt h)]
theorem get_mem {T : List Wd} {j : Nat} (h : j < T.length) : T.getD j [] ∈ T := by
  rw [List.getD_eq_getElem?_getD, List.getElem?_eq_getElem h, Option.getD_some]; exact List.getElem_mem h
theorem get_idx {T : List Wd} (hn : T.Nodup) {j : Nat} (h : j < T.length) : T.idxOf (T.getD j []) = j := by
  rw [List.getD_eq_getElem?_getD, List.getElem?_eq_getElem h, Option.getD_some]
  exact hn.idxOf_getElem j h
theorem get_inj {T : List Wd} (hn : T.Nodup) {i j : Nat} (hi : i < T.length) (hj : j < T.length) (h : T.getD i [] = T.getD j []) : i = j := by
  rw [← get_idx hn hi, ← get_idx hn hj, h]
theorem idx_append {T : List Wd} {x : Wd} (w : Wd) (h : x ∈ T) : (T ++ [w]).idxOf x = T.idxOf x := by rw [List.idxOf_append, if_pos h]
theorem idx_last {T : List Wd} {w : Wd} (h : w ∉ T) : (T ++ [w]).idxOf w = T.length := by
  rw [List.idxOf_append, if_neg h]; simp
theorem getD_append_left {T : List Wd} (w : Wd) {j : Nat} (h : j < T.length) : (T ++ [w]).getD j [] = T.getD j [] := by
  rw [List.getD_eq_getElem?_getD, List.getD_eq_getElem?_getD, List.getElem?_append_left h]
theorem getD_append_last (T : List Wd) (w : Wd) : (T ++ [w]).getD T.length [] = w := by
  rw [List.getD_eq_getElem?_getD, List.getElem?_append_right (Nat.le_refl _)]; simp
abbrev Edge := (Int × Int) × Int
/-- Where the first edge of this state and byte lies, and where it leads. -/
def findE (s b : Int) : List Edge → Nat → Option (Nat × Int)
  | [], _ => none
  | x :: E, i => if x.1 = (s, b) then some (i, x.2) else findE s b E (i + 1)
def valE (s b : Int) : List Edge → Option Int
  | [] => none
  | x :: E => if x.1 = (s, b) then some x.2 else valE s b E
theorem findE_val (s b : Int) : ∀ (E : List Edge) (i : Nat), (findE s b E i).map (·.2) = valE s b E
  | [], _ => rfl
  | x :: E, i => by unfold findE valE; split; rfl; exact findE_val s b E (i + 1)
theorem valE_snoc (s b : Int) (x : Edge) : ∀ E : List Edge, valE s b (E ++ [x]) = (valE s b E).or (if x.1 = (s, b) then some x.2 else none)
  | [] => rfl
  | y :: E => by
    show (if y.1 = (s, b) then some y.2 else valE s b (E ++ [x])) = _
    rw [valE_snoc s b x E]
    show _ = (if y.1 = (s, b) then some y.2 else valE s b E).or _
    split
    · rfl
    · rfl
/-- These edges are those of these words. -/
structure EdgesOf (T : List Wd) (E : List Edge) : Prop where
  lt : ∀ x ∈ E, ∃ s : Nat, x.1.1 = s ∧ s < T.length
  find : ∀ (s : Nat) (b : Int), s < T.length → valE s b E = if T.getD s [] ++ [b] ∈ T then some ((T.idxOf (T.getD s [] ++ [b]) : Nat) : Int) else none
theorem edges_start : EdgesOf [[]] [] := by
  refine ⟨fun x h => (by cases h), fun s b hs => ?_⟩
  obtain rfl : s = 0 := by simpa using hs
  rw [if_neg (by simp)]; rfl
theorem edges_far {T : List Wd} {E : List Edge} (h : EdgesOf T E) (b : Int) : valE (T.length : Nat) b E = none := by
  have hl := h.lt
  clear h
  induction E with
  | nil => rfl
  | cons x E ih =>
    unfold valE
    rw [if_neg ?_]
    · exact ih (fun y hy => hl y (List.mem_cons_of_mem _ hy))
    · intro e
      obtain ⟨s, h1, h2⟩ := hl x List.mem_cons_self
      have : x.1.1 = ((T.length : Nat) : Int) := by rw [e]
      omega
theorem snoc_inj {a b : Wd} {x y : Int} (h : a ++ [x] = b ++ [y]) : a = b ∧ x = y := by
  have := List.append_inj' h rfl
  exact ⟨this.1, by simpa using this.2⟩
theorem edges_add {T : List Wd} {E : List Edge} (hE : EdgesOf T E) (hn : T.Nodup) (hc : Closed T) {s : Nat} {b : Int} (hs : s < T.length) (hw : T.getD s [] ++ [b] ∉ T) : EdgesOf (T ++ [T.getD s [] ++ [b]]) (E ++ [(((s : Int), b), ((T.length : Nat) : Int))]) := by
  refine ⟨fun x hx => ?_, fun t c ht => ?_⟩
  · rcases List.mem_append.1 hx with hx | hx
    · obtain ⟨s', h1, h2⟩ := hE.lt x hx
      exact ⟨s', h1, by simp; omega⟩
    · rw [List.mem_singleton.1 hx]; exact ⟨s, rfl, by simp; omega⟩
  · rw [valE_snoc]
    by_cases htl : t < T.length
    · rw [hE.find t c htl, getD_append_left _ htl]
      by_cases hm : T.getD t [] ++ [c] ∈ T
      · rw [if_pos hm, if_pos (List.mem_append_left _ hm), idx_append _ hm]; rfl
      · rw [if_neg hm]
        by_cases he : t = s ∧ c = b
        · obtain ⟨rfl, rfl⟩ := he
          rw [if_pos rfl, if_pos (List.mem_append_right _ (List.mem_singleton.2 rfl)), idx_last hw]
          rfl
        · have h1 : ¬ ((s : Int), b) = ((t : Int), c) := by
            intro e
            injection e with e1 e2
            exact he ⟨by omega, e2.symm⟩
          have h2 : T.getD t [] ++ [c] ∉ T ++ [T.getD s [] ++ [b]] := by
            intro e
            rcases List.mem_append.1 e with e | e
            · exact hm e
            · have := snoc_inj (List.mem_singleton.1 e)
              exact he ⟨get_inj hn htl hs this.1, this.2⟩
          rw [if_neg h2]
          show (if ((s : Int), b) = ((t : Int), c) then some _ else none) = _
          rw [if_neg h1]
    · obtain rfl : t = T.length := by simp at ht; omega
      rw [edges_far hE, getD_append_last]
      have h1 : ¬ ((s : Int), b) = (((T.length : Nat) : Int), c) := by
        intro e
        injection e with e1 e2
        omega
      have h2 : T.getD s [] ++ [b] ++ [c] ∉ T ++ [T.getD s [] ++ [b]] := by
        intro e
        rcases List.mem_append.1 e with e | e
        · exact hw (hc.2 _ _ e)
        · have := congrArg List.length (List.mem_singleton.1 e)
          simp at this
      rw [if_neg h2]
      show (if ((s : Int), b) = (((T.length : Nat) : Int), c) then some _ else none) = _
      rw [if_neg h1]
end Go.Proofs.Ytdciniefkodeaaa.PAll
