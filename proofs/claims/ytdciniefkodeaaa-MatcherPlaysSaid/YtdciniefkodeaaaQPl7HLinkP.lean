/- What link computes, in plain words: in order of depth the fails, what follows, the outs. No program here. -/
import Derived.Test.YtdciniefkodeaaaQPl7HAutoP
import Derived.Test.YtdciniefkodeaaaQPl7HStab
set_option linter.unusedVariables false
set_option linter.unusedSimpArgs false
namespace Go.Proofs.Ytdciniefkodeaaa.PAll
/-- Words as a machine's states: none twice, with each its beginnings, the empty one first. -/
structure TrieI (T : List Wd) : Prop where
  nodup : T.Nodup
  closed : Closed T
  zero : T.getD 0 [] = []
theorem TrieI.pos {T : List Wd} (h : TrieI T) : 0 < T.length := List.length_pos_of_mem h.closed.1
theorem TrieI.idx_nil {T : List Wd} (h : TrieI T) : T.idxOf [] = 0 := by
  have := get_idx h.nodup h.pos
  rw [h.zero] at this; exact this
theorem trieI_start : TrieI [[]] := ⟨by simp, ⟨by simp, fun w b h => (by simp at h)⟩, rfl⟩
theorem TrieI.add {T : List Wd} (h : TrieI T) {w : Wd} (hw : w ∉ T) (hd : w.dropLast ∈ T) : TrieI (T ++ [w]) := by
  refine ⟨?_, ⟨List.mem_append_left _ h.closed.1, fun u b hu => ?_⟩, by rw [getD_append_left _ h.pos]; exact h.zero⟩
  · rw [List.nodup_append]
    exact ⟨h.nodup, by simp, fun a ha b hb => by rw [List.mem_singleton] at hb; subst hb; rintro rfl; exact hw ha⟩
  · rcases List.mem_append.1 hu with hu | hu
    · exact List.mem_append_left _ (h.closed.2 u b hu)
    · have := List.mem_singleton.1 hu
      rw [← this, List.dropLast_concat] at hd
      exact List.mem_append_left _ hd
def parT (T : List Wd) (s : Nat) : Nat := T.idxOf (T.getD s []).dropLast
def byT (T : List Wd) (s : Nat) : Int := (T.getD s []).getLastD 0
def depT (T : List Wd) (s : Nat) : Nat := (T.getD s []).length
def flT (T : List Wd) (s : Nat) : Nat := T.idxOf (failW T (T.getD s []))
def nxT (T : List Wd) (s : Nat) (b : Int) : Nat := T.idxOf (nextW T (T.getD s []) b)
theorem split_word {x : Wd} (hx : x ≠ []) : x.dropLast ++ [x.getLastD 0] = x := by
  rcases List.eq_nil_or_concat x with rfl | ⟨y, b, rfl⟩
  · exact absurd rfl hx
  · simp
section
variable {T : List Wd} (h : TrieI T)
include h
theorem drop_mem {x : Wd} (hx : x ∈ T) : x.dropLast ∈ T := by
  rcases List.eq_nil_or_concat x with rfl | ⟨y, b, rfl⟩
  · exact hx
  · rw [List.concat_eq_append] at hx ⊢
    rw [List.dropLast_concat]
    exact h.closed.2 _ _ hx
theorem par_lt {s : Nat} (hs : s < T.length) : parT T s < T.length := idx_lt (drop_mem h (get_mem hs))
theorem par_word {s : Nat} (hs : s < T.length) : T.getD (parT T s) [] = (T.getD s []).dropLast := idx_get (drop_mem h (get_mem hs))
theorem fl_lt {s : Nat} (hs : s < T.length) : flT T s < T.length := idx_lt (fail_mem h.closed _)
theorem fl_word {s : Nat} (hs : s < T.length) : T.getD (flT T s) [] = failW T (T.getD s []) := idx_get (fail_mem h.closed _)
theorem next_mem (w : Wd) (b : Int) : nextW T w b ∈ T := lsuf_mem h.closed.1 _
theorem nx_lt (s : Nat) (b : Int) : nxT T s b < T.length := idx_lt (next_mem h _ _)
theorem nx_word (s : Nat) (b : Int) : T.getD (nxT T s b) [] = nextW T (T.getD s []) b := idx_get (next_mem h _ _)
theorem word_ne {s : Nat} (hs : s < T.length) (h0 : s ≠ 0) : T.getD s [] ≠ [] := fun e => h0 (get_inj h.nodup hs h.pos (e.trans h.zero.symm))
theorem dep_fl {s : Nat} (hs : s < T.length) (h0 : s ≠ 0) : depT T (flT T s) < depT T s := by
  unfold depT
  rw [fl_word h hs]
  have := fail_len T (T.getD s [])
  have := List.length_pos_iff.2 (word_ne h hs h0)
  omega
theorem dep_par {s : Nat} (hs : s < T.length) (h0 : s ≠ 0) : depT T (parT T s) < depT T s := by
  unfold depT
  rw [par_word h hs, List.length_dropLast]
  have := List.length_pos_iff.2 (word_ne h hs h0)
  omega
/-- The fail of a state whose parent is not the first one: from the parent's fail on. -/
theorem fl_step {s : Nat} (hs : s < T.length) (h0 : s ≠ 0) (hp : parT T s ≠ 0) : flT T s = nxT T (flT T (parT T s)) (byT T s) := by
  have e := split_word (word_ne h hs h0)
  have hpw : (T.getD s []).dropLast ≠ [] := by
    have := word_ne h (par_lt h hs) hp
    rwa [par_word h hs] at this
  have := fail_link h.closed (T.getD s []).dropLast ((T.getD s []).getLastD 0)
  rw [e, if_neg hpw] at this
  unfold nxT byT
  rw [fl_word h (par_lt h hs), par_word h hs, ← this]
  rfl
theorem fl_first {s : Nat} (hs : s < T.length) (h0 : s ≠ 0) (hp : parT T s = 0) : flT T s = 0 := by
  have e := split_word (word_ne h hs h0)
  have hpw : (T.getD s []).dropLast = [] := by
    rw [← par_word h hs, hp, h.zero]
  have := fail_link h.closed (T.getD s []).dropLast ((T.getD s []).getLastD 0)
  rw [e, if_pos hpw] at this
  unfold flT
  rw [this, h.idx_nil]
theorem nx_edge {s : Nat} (hs : s < T.length) (b : Int) (hm : T.getD s [] ++ [b] ∈ T) : nxT T s b = T.idxOf (T.getD s [] ++ [b]) := by
  unfold nxT
  rw [next_link h.closed, if_pos hm]
theorem nx_fail {s : Nat} (hs : s < T.length) (h0 : s ≠ 0) (b : Int) (hm : T.getD s [] ++ [b] ∉ T) : nxT T s b = nxT T (flT T s) b := by
  unfold nxT
  rw [next_link h.closed, if_neg hm, if_neg (word_ne h hs h0), fl_word h hs]
theorem nx_zero (b : Int) (hm : [b] ∉ T) : nxT T 0 b = 0 := by
  unfold nxT
  rw [h.zero, next_link h.closed, if_neg (show ¬ ([] : Wd) ++ [b] ∈ T from hm), if_pos rfl, h.idx_nil]
end
/-- The numbers of the patterns of which this holds. -/
def idsW (ps : List Wd) (P : Wd → Prop) [DecidablePred P] : List Int := ((List.range ps.length).filter fun i => decide (P (ps.getD i []))).map fun i : Nat => (i : Int)
/-- The patterns that are this word. -/
def ownW (ps : List Wd) (x : Wd) : List Int := idsW ps fun p => p = x
/-- The patterns that this word ends with. -/
def outsW (ps : List Wd) (x : Wd) : List Int := idsW ps fun p => p <:+ x
theorem ndec {p : Prop} [Decidable p] (h : ¬ p) : ¬ (decide p = true) := fun e => h (of_decide_eq_true e)
theorem ids_sorted (ps : List Wd) (P : Wd → Prop) [DecidablePred P] : (idsW ps P).Pairwise fun a b => decide (a ≤ b) = true := by
  unfold idsW
  rw [List.pairwise_map]
  refine List.Pairwise.imp ?_ (List.Pairwise.filter _ List.pairwise_lt_range)
  intro a b h
  exact decide_eq_true (by omega)
theorem ids_sort (ps : List Wd) (P : Wd → Prop) [DecidablePred P] (l : List Int) (h : l.Perm (idsW ps P)) : l.mergeSort (fun x y => decide (x ≤ y)) = idsW ps P := by
  have hp := (List.mergeSort_perm l (fun x y => decide (x ≤ y))).trans h
  have hs : (l.mergeSort fun x y => decide (x ≤ y)).Pairwise fun a b => decide (a ≤ b) = true :=
    List.pairwise_mergeSort (fun a b c h1 h2 => by simp only [decide_eq_true_eq] at *; omega) (fun a b => by simp only [Bool.or_eq_true, decide_eq_true_eq]; omega) l
  exact List.Perm.eq_of_pairwise (fun a b _ _ h1 h2 => by simp only [decide_eq_true_eq] at *; omega) hs (ids_sorted ps P) hp
/-- The outs of a state: the patterns that are its word, and the outs of its fail, in order. -/
theorem outs_step {T : List Wd} (ps : List Wd) (hps : ∀ p ∈ ps, p ∈ T) (hc : Closed T) (x : Wd) (hx : x ≠ []) : (ownW ps x ++ outsW ps (failW T x)).mergeSort (fun x y => decide (x ≤ y)) = outsW ps x := by
  refine ids_sort ps _ _ ?_
  unfold ownW outsW idsW
  rw [← List.map_append]
  refine List.Perm.map _ ?_
  have hm : ∀ i, i ∈ List.range ps.length → ps.getD i [] ∈ T := fun i hi => by
    have hl := List.mem_range.1 hi
    refine hps _ ?_
    rw [List.getD_eq_getElem?_getD, List.getElem?_eq_getElem hl, Option.getD_some]
    exact List.getElem_mem hl
  generalize List.range ps.length = L at hm ⊢
  have hlen := fail_len T x
  have hxl := List.length_pos_iff.2 hx
  induction L with
  | nil => exact List.Perm.refl _
  | cons a l ih =>
    have ih := ih (fun i hi => hm i (List.mem_cons_of_mem _ hi))
    have ha := ends_link x (ps.getD a []) (hm a List.mem_cons_self) hx
    simp only [List.filter_cons]
    by_cases h1 : ps.getD a [] = x
    · have h2 : ¬ ps.getD a [] <:+ failW T x := fun h => by
        have := h.length_le
        rw [h1] at this; omega
      have h3 : ps.getD a [] <:+ x := ha.2 (.inl h1)
      rw [if_pos (decide_eq_true h1), if_neg (ndec h2), if_pos (decide_eq_true h3)]
      exact List.Perm.cons a ih
    · by_cases h2 : ps.getD a [] <:+ failW T x
      · have h3 : ps.getD a [] <:+ x := ha.2 (.inr h2)
        rw [if_neg (ndec h1), if_pos (decide_eq_true h2), if_pos (decide_eq_true h3)]
        exact List.perm_middle.trans (List.Perm.cons a ih)
      · have h3 : ¬ ps.getD a [] <:+ x := fun h => (ha.1 h).elim h1 h2
        rw [if_neg (ndec h1), if_neg (ndec h2), if_neg (ndec h3)]
        exact ih
theorem outs_nil (ps : List Wd) (hps : ∀ p ∈ ps, p ≠ []) : outsW ps [] = [] ∧ ownW ps [] = [] := by
  have hm : ∀ i, i ∈ List.range ps.length → ps.getD i [] ≠ [] := fun i hi => by
    have hl := List.mem_range.1 hi
    refine hps _ ?_
    rw [List.getD_eq_getElem?_getD, List.getElem?_eq_getElem hl, Option.getD_some]
    exact List.getElem_mem hl
  constructor
  · unfold outsW idsW
    rw [List.map_eq_nil_iff, List.filter_eq_nil_iff]
    intro i hi
    simp only [decide_eq_true_eq, List.suffix_nil]
    exact hm i hi
  · unfold ownW idsW
    rw [List.map_eq_nil_iff, List.filter_eq_nil_iff]
    intro i hi
    simp only [decide_eq_true_eq]
    exact hm i hi
theorem own_snoc (ps : List Wd) (p x : Wd) : ownW (ps ++ [p]) x = ownW ps x ++ (if p = x then [(ps.length : Int)] else []) := by
  unfold ownW idsW
  rw [List.length_append, List.length_singleton, List.range_succ, List.filter_append, List.map_append]
  congr 1
  · congr 1
    refine List.filter_congr fun i hi => ?_
    have hl := List.mem_range.1 hi
    rw [List.getD_eq_getElem?_getD, List.getD_eq_getElem?_getD, List.getElem?_append_left hl]
  · have e : (ps ++ [p]).getD ps.length [] = p := by rw [List.getD_eq_getElem?_getD, List.getElem?_append_right (Nat.le_refl _)]; simp
    by_cases h : p = x
    · rw [if_pos h]
      simp [List.filter_cons, e, h]
    · rw [if_neg h]
      simp [List.filter_cons, e, h]
open Go.Sort in
theorem order_ahead {N : Nat} (dep : Fin (N + 1) → Int) (lt : Fin (N + 1) → Fin (N + 1) → Bool) (hlt : ∀ x y, lt x y = decide (dep x < dep y)) (d0 d : Array (Fin (N + 1))) (h0 : d0.size = N + 1) (hid : ∀ j, j < N + 1 → (d0[j]!).val = j) (hp : PermIn 0 (N + 1) d0 d) (hs : SortedIn lt 0 (N + 1) d) :
    (∀ t t', t < N + 1 → t' < N + 1 → d[t]! = d[t']! → t = t') ∧ ∀ t (j : Fin (N + 1)), t < N + 1 → dep j < dep d[t]! → ∃ t', t' < t ∧ d[t']! = j := by
  have hsz : d.size = N + 1 := hp.1.trans h0
  have hpl : d.toList.Perm d0.toList := by
    have := hp.2.2
    rwa [Array.extract_eq_self_of_le (by omega), Array.extract_eq_self_of_le (by omega)] at this
  have hnd0 : d0.toList.Nodup := by
    rw [List.nodup_iff_pairwise_ne, List.pairwise_iff_getElem]
    intro i j hi hj hij e
    have hi' : i < N + 1 := by simpa [h0] using hi
    have hj' : j < N + 1 := by simpa [h0] using hj
    have e1 := hid i hi'
    have e2 := hid j hj'
    rw [getElem!_pos d0 i (by omega)] at e1
    rw [getElem!_pos d0 j (by omega)] at e2
    have : (d0[i]'(by omega)).val = (d0[j]'(by omega)).val := congrArg Fin.val (by simpa using e)
    omega
  have hnd : d.toList.Nodup := hpl.symm.nodup hnd0
  refine ⟨fun t t' ht ht' e => ?_, fun t j ht hj => ?_⟩
  · rw [getElem!_pos d t (by omega), getElem!_pos d t' (by omega)] at e
    have hq := List.pairwise_iff_getElem.1 (List.nodup_iff_pairwise_ne.1 hnd)
    rcases Nat.lt_trichotomy t t' with hl | hl | hl
    · exact absurd (show d.toList[t]'(by simp; omega) = d.toList[t']'(by simp; omega) by rw [Array.getElem_toList, Array.getElem_toList]; exact e) (hq t t' (by simp; omega) (by simp; omega) hl)
    · exact hl
    · exact absurd (show d.toList[t']'(by simp; omega) = d.toList[t]'(by simp; omega) by rw [Array.getElem_toList, Array.getElem_toList]; exact e.symm) (hq t' t (by simp; omega) (by simp; omega) hl)
  · have hm : j ∈ d.toList := by
      rw [hpl.mem_iff]
      have e1 := hid j.val j.isLt
      have hl : j.val < d0.size := by omega
      rw [getElem!_pos d0 j.val hl] at e1
      have : d0[j.val]'hl = j := Fin.ext e1
      rw [← this]
      simp
    obtain ⟨t', ht', e⟩ := List.getElem_of_mem hm
    have ht2 : t' < N + 1 := by simpa [hsz] using ht'
    have e' : d[t']! = j := by rw [getElem!_pos d t' (by omega)]; simpa using e
    refine ⟨t', ?_, e'⟩
    rcases Nat.lt_or_ge t' t with h | h
    · exact h
    · exfalso
      rcases Nat.eq_or_lt_of_le h with h | h
      · subst h; rw [e'] at hj; omega
      · have := hs t t' (Nat.zero_le _) h ht2
        rw [hlt, e'] at this
        have := of_decide_eq_false this
        omega
end Go.Proofs.Ytdciniefkodeaaa.PAll
