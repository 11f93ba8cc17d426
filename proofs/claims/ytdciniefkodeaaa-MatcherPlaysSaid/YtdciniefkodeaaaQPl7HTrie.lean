/- Many patterns at once, in plain words: the words of the states, the longest ends, the outs. No program here. -/
set_option linter.unusedVariables false
namespace Go.Proofs.Ytdciniefkodeaaa.PAll
abbrev Wd := List Int
def addW (T : List Wd) (w : Wd) : List Wd := if w ∈ T then T else T ++ [w]
def layFrom (p : Wd) : Nat → List Wd → List Wd
  | 0, T => T
  | k + 1, T => addW (layFrom p k T) (p.take (k + 1))
def layW (T : List Wd) (p : Wd) : List Wd := layFrom p p.length T
/-- The words of the states, in the order in which they are made. -/
def trie (ps : List Wd) : List Wd := ps.foldl layW [[]]
theorem mem_addW {T : List Wd} {w x : Wd} : x ∈ addW T w ↔ x ∈ T ∨ x = w := by
  unfold addW
  split
  · rename_i h
    constructor
    · exact Or.inl
    · rintro (h2 | rfl)
      · exact h2
      · exact h
  · simp
theorem mem_layFrom (p : Wd) (k : Nat) (T : List Wd) (x : Wd) : x ∈ layFrom p k T ↔ x ∈ T ∨ ∃ j, j < k ∧ x = p.take (j + 1) := by
  induction k with
  | zero => simp [layFrom]
  | succ k ih =>
    rw [layFrom, mem_addW, ih]
    constructor
    · rintro ((h | ⟨j, hj, rfl⟩) | rfl)
      · exact .inl h
      · exact .inr ⟨j, by omega, rfl⟩
      · exact .inr ⟨k, by omega, rfl⟩
    · rintro (h | ⟨j, hj, rfl⟩)
      · exact .inl (.inl h)
      · by_cases e : j = k
        · subst e; exact .inr rfl
        · exact .inl (.inr ⟨j, by omega, rfl⟩)
theorem mem_layW (p : Wd) (T : List Wd) (x : Wd) : x ∈ layW T p ↔ x ∈ T ∨ (x ≠ [] ∧ x <+: p) := by
  unfold layW
  rw [mem_layFrom]
  constructor
  · rintro (h | ⟨j, hj, rfl⟩)
    · exact .inl h
    · refine .inr ⟨?_, List.take_prefix _ _⟩
      intro e
      have := congrArg List.length e
      rw [List.length_take, List.length_nil] at this
      omega
  · rintro (h | ⟨h0, h⟩)
    · exact .inl h
    · have hl : 0 < x.length := List.length_pos_iff.2 h0
      refine .inr ⟨x.length - 1, by have := h.length_le; omega, ?_⟩
      rw [show x.length - 1 + 1 = x.length by omega]
      exact List.prefix_iff_eq_take.1 h
theorem mem_foldl (ps : List Wd) : ∀ (T : List Wd) (x : Wd), x ∈ ps.foldl layW T ↔ x ∈ T ∨ (x ≠ [] ∧ ∃ p ∈ ps, x <+: p) := by
  induction ps with
  | nil => intro T x; simp
  | cons p ps ih =>
    intro T x
    rw [List.foldl_cons, ih, mem_layW]
    constructor
    · rintro ((h | ⟨h0, h⟩) | ⟨h0, q, hq, h⟩)
      · exact .inl h
      · exact .inr ⟨h0, p, List.mem_cons_self, h⟩
      · exact .inr ⟨h0, q, List.mem_cons_of_mem _ hq, h⟩
    · rintro (h | ⟨h0, q, hq, h⟩)
      · exact .inl (.inl h)
      · rcases List.mem_cons.1 hq with rfl | hq
        · exact .inl (.inr ⟨h0, h⟩)
        · exact .inr ⟨h0, q, hq, h⟩
theorem mem_trie (ps : List Wd) (x : Wd) : x ∈ trie ps ↔ x = [] ∨ ∃ p ∈ ps, x <+: p := by
  unfold trie
  rw [mem_foldl]
  constructor
  · rintro (h | ⟨h0, h⟩)
    · exact .inl (List.mem_singleton.1 h)
    · exact .inr h
  · rintro (rfl | h)
    · exact .inl (List.mem_singleton.2 rfl)
    · by_cases e : x = []
      · exact .inl (by rw [e]; exact List.mem_singleton.2 rfl)
      · exact .inr ⟨e, h⟩
/-- With a word its beginnings. -/
def Closed (T : List Wd) : Prop := [] ∈ T ∧ ∀ w b, w ++ [b] ∈ T → w ∈ T
theorem trie_closed (ps : List Wd) : Closed (trie ps) := by
  refine ⟨(mem_trie ps []).2 (.inl rfl), fun w b h => ?_⟩
  rw [mem_trie] at h ⊢
  rcases h with h | ⟨p, hp, h⟩
  · simp at h
  · exact .inr ⟨p, hp, (List.prefix_append w [b]).trans h⟩
theorem nodup_addW {T : List Wd} (h : T.Nodup) (w : Wd) : (addW T w).Nodup := by
  unfold addW
  split
  · exact h
  · rename_i hw
    rw [List.nodup_append]
    exact ⟨h, by simp, fun a ha b hb => by rw [List.mem_singleton] at hb; subst hb; rintro rfl; exact hw ha⟩
theorem nodup_layFrom (p : Wd) (k : Nat) {T : List Wd} (h : T.Nodup) : (layFrom p k T).Nodup := by
  induction k with
  | zero => exact h
  | succ k ih => exact nodup_addW ih _
theorem nodup_foldl (ps : List Wd) : ∀ T : List Wd, T.Nodup → (ps.foldl layW T).Nodup := by
  induction ps with
  | nil => intro T h; exact h
  | cons p ps ih => intro T h; exact ih _ (nodup_layFrom p _ h)
theorem trie_nodup (ps : List Wd) : (trie ps).Nodup := nodup_foldl ps _ (by simp)
def lsuf (T : List Wd) : Wd → Wd
  | [] => []
  | c :: t => if (c :: t) ∈ T then c :: t else lsuf T t
theorem lsuf_mem {T : List Wd} (h : [] ∈ T) : ∀ l : Wd, lsuf T l ∈ T
  | [] => h
  | c :: t => by unfold lsuf; split; assumption; exact lsuf_mem h t
theorem lsuf_suf (T : List Wd) : ∀ l : Wd, lsuf T l <:+ l
  | [] => List.suffix_refl _
  | c :: t => by unfold lsuf; split; exact List.suffix_refl _; exact (lsuf_suf T t).trans (List.suffix_cons c t)
theorem lsuf_max (T : List Wd) : ∀ (l u : Wd), u <:+ l → u ∈ T → u <:+ lsuf T l
  | [], u, h, _ => h
  | c :: t, u, h, hu => by
    unfold lsuf
    split
    · exact h
    · rename_i hn
      rcases List.suffix_cons_iff.1 h with rfl | h
      · exact absurd hu hn
      · exact lsuf_max T t u h hu
theorem lsuf_of_mem {T : List Wd} {l : Wd} (h : l ∈ T) : lsuf T l = l := by
  cases l with
  | nil => rfl
  | cons c t => unfold lsuf; rw [if_pos h]
theorem suf_antisymm {a b : Wd} (h1 : a <:+ b) (h2 : b <:+ a) : a = b := h1.eq_of_length (Nat.le_antisymm h1.length_le h2.length_le)
theorem suf_snoc {u l : Wd} (b : Int) (h : u <:+ l) : u ++ [b] <:+ l ++ [b] := by
  obtain ⟨t, rfl⟩ := h
  exact ⟨t, by simp⟩
theorem suf_of_snoc {u l : Wd} {b c : Int} (h : u ++ [c] <:+ l ++ [b]) : u <:+ l ∧ c = b := by
  obtain ⟨t, ht⟩ := h
  rw [← List.append_assoc] at ht
  have := List.append_inj' ht rfl
  exact ⟨⟨t, this.1⟩, by simpa using this.2⟩
/-- Going on by a byte: it is enough to know the longest end. -/
theorem lsuf_step {T : List Wd} (hT : Closed T) (l : Wd) (b : Int) : lsuf T (l ++ [b]) = lsuf T (lsuf T l ++ [b]) := by
  have hs := suf_snoc b (lsuf_suf T l)
  refine suf_antisymm ?_ (lsuf_max T _ _ ((lsuf_suf T _).trans hs) (lsuf_mem hT.1 _))
  refine lsuf_max T _ _ ?_ (lsuf_mem hT.1 _)
  have hu := lsuf_suf T (l ++ [b])
  have hm := lsuf_mem hT.1 (l ++ [b])
  generalize lsuf T (l ++ [b]) = u at *
  rcases List.eq_nil_or_concat u with rfl | ⟨u', c, rfl⟩
  · exact List.nil_suffix
  · rw [List.concat_eq_append] at hu hm ⊢
    obtain ⟨h1, rfl⟩ := suf_of_snoc hu
    exact suf_snoc _ (lsuf_max T _ _ h1 (hT.2 _ _ hm))
def nextW (T : List Wd) (w : Wd) (b : Int) : Wd := lsuf T (w ++ [b])
def failW (T : List Wd) (w : Wd) : Wd := lsuf T w.tail
/-- What link computes: next. -/
theorem next_link {T : List Wd} (hT : Closed T) (w : Wd) (b : Int) : nextW T w b = if w ++ [b] ∈ T then w ++ [b] else if w = [] then [] else nextW T (failW T w) b := by
  unfold nextW failW
  by_cases h : w ++ [b] ∈ T
  · rw [if_pos h, lsuf_of_mem h]
  · rw [if_neg h]
    cases w with
    | nil =>
      rw [if_pos rfl]
      show lsuf T [b] = []
      unfold lsuf
      rw [if_neg (show ¬ [b] ∈ T from h)]; rfl
    | cons c t =>
      rw [if_neg (List.cons_ne_nil c t)]
      have e : lsuf T ((c :: t) ++ [b]) = lsuf T (t ++ [b]) := by
        show lsuf T (c :: (t ++ [b])) = _
        rw [lsuf, if_neg (show ¬ c :: (t ++ [b]) ∈ T from h)]
      rw [e, lsuf_step hT]; rfl
/-- What link computes: fail. -/
theorem fail_link {T : List Wd} (hT : Closed T) (w : Wd) (b : Int) : failW T (w ++ [b]) = if w = [] then [] else nextW T (failW T w) b := by
  unfold nextW failW
  cases w with
  | nil => rw [if_pos rfl]; rfl
  | cons c t =>
    rw [if_neg (List.cons_ne_nil c t)]
    show lsuf T (t ++ [b]) = _
    rw [lsuf_step hT]; rfl
theorem fail_mem {T : List Wd} (hT : Closed T) (w : Wd) : failW T w ∈ T := lsuf_mem hT.1 _
theorem fail_len (T : List Wd) (w : Wd) : (failW T w).length ≤ w.length - 1 := by
  have := (lsuf_suf T w.tail).length_le
  rw [List.length_tail] at this
  exact this
/-- The ends among some words: the word itself, or ends of the fail. -/
theorem ends_link {T : List Wd} (w p : Wd) (hp : p ∈ T) (hw : w ≠ []) : p <:+ w ↔ p = w ∨ p <:+ failW T w := by
  cases w with
  | nil => exact absurd rfl hw
  | cons c t =>
    constructor
    · intro h
      rcases List.suffix_cons_iff.1 h with h | h
      · exact .inl h
      · exact .inr (lsuf_max T _ _ h hp)
    · rintro (rfl | h)
      · exact List.suffix_refl _
      · exact (h.trans (lsuf_suf T t)).trans (List.suffix_cons c t)
/-- Behind a text: the patterns that it ends with are those that the state's word ends with. -/
theorem ends_text (T : List Wd) (l p : Wd) (hp : p ∈ T) : p <:+ l ↔ p <:+ lsuf T l :=
  ⟨fun h => lsuf_max T l p h hp, fun h => h.trans (lsuf_suf T l)⟩
end Go.Proofs.Ytdciniefkodeaaa.PAll
