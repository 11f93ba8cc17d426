/- The reference's machine, plainly: kids, find, longest. -/
import Derived.Test.YtdciniefkodeaaaQPl7HWords6
set_option linter.unusedVariables false
set_option linter.unusedSimpArgs false
namespace Go.Proofs.Ytdciniefkodeaaa.PAll
/-- The state one byte on; -1: none. -/
def kidW (T : List Wd) (s : Nat) (b : Int) : Int := if T.getD s [] ++ [b] ∈ T then ((T.idxOf (T.getD s [] ++ [b]) : Nat) : Int) else -1
/-- The state of a word; -1: none. -/
def findW (T : List Wd) (x : Wd) : Int := if x ∈ T then ((T.idxOf x : Nat) : Int) else -1
/-- The lists of kids tell the states one byte on. -/
structure KidsOk (T : List Wd) (K : List (List (Int × Int))) : Prop where
  len : K.length = T.length
  mem : ∀ s, s < T.length → ∀ b t, (b, t) ∈ K.getD s [] ↔ T.getD s [] ++ [b] ∈ T ∧ t = ((T.idxOf (T.getD s [] ++ [b]) : Nat) : Int)
theorem getD_left {α : Type} (l m : List α) (d : α) {i : Nat} (h : i < l.length) : (l ++ m).getD i d = l.getD i d := by
  rw [List.getD_eq_getElem?_getD, List.getD_eq_getElem?_getD, List.getElem?_append_left h]
theorem getD_last {α : Type} (l : List α) (a d : α) : (l ++ [a]).getD l.length d = a := by
  rw [List.getD_eq_getElem?_getD, List.getElem?_append_right (Nat.le_refl _), Nat.sub_self]; rfl
theorem getD_set_ne {α : Type} (l : List α) (a d : α) {i j : Nat} (h : i ≠ j) : (l.set i a).getD j d = l.getD j d := by
  rw [List.getD_eq_getElem?_getD, List.getD_eq_getElem?_getD, List.getElem?_set_ne h]
theorem getD_set_self {α : Type} (l : List α) (a d : α) {i : Nat} (h : i < l.length) : (l.set i a).getD i d = a := by
  rw [List.getD_eq_getElem?_getD, List.getElem?_set_self h]; rfl
theorem kids_start : KidsOk [[]] [[]] := by
  refine ⟨rfl, fun s hs b t => ?_⟩
  obtain rfl : s = 0 := by simpa using hs
  simp
theorem kid_hit {T : List Wd} {K : List (List (Int × Int))} (h : KidsOk T K) {s : Nat} (hs : s < T.length) {b t : Int} (hm : (b, t) ∈ K.getD s []) : kidW T s b = t := by
  obtain ⟨h1, h2⟩ := (h.mem s hs b t).1 hm
  unfold kidW
  rw [if_pos h1, h2]
theorem kid_miss {T : List Wd} {K : List (List (Int × Int))} (h : KidsOk T K) {s : Nat} (hs : s < T.length) {b : Int} (hm : ∀ e ∈ K.getD s [], e.1 ≠ b) : kidW T s b = -1 := by
  unfold kidW
  rw [if_neg (fun h1 => hm _ ((h.mem s hs b _).2 ⟨h1, rfl⟩) rfl)]
theorem kids_add {T : List Wd} {K : List (List (Int × Int))} (h : KidsOk T K) (hn : T.Nodup) (hc : Closed T) {s : Nat} (hs : s < T.length) {b : Int} (hw : T.getD s [] ++ [b] ∉ T) :
    KidsOk (T ++ [T.getD s [] ++ [b]]) (K.set s (K.getD s [] ++ [(b, (T.length : Int))]) ++ [[]]) := by
  have hl := h.len
  refine ⟨by rw [List.length_append, List.length_append, List.length_set, hl]; rfl, fun t ht b' z => ?_⟩
  rw [List.length_append] at ht
  have ht : t < T.length + 1 := ht
  by_cases h1 : t < T.length
  · rw [getD_append_left _ h1, List.mem_append, List.mem_singleton]
    have e1 : (K.set s (K.getD s [] ++ [(b, (T.length : Int))]) ++ [[]]).getD t [] = (K.set s (K.getD s [] ++ [(b, (T.length : Int))])).getD t [] := getD_left _ _ _ (by rw [List.length_set]; omega)
    rw [e1]
    by_cases h2 : t = s
    · subst h2
      have e2 : (K.set t (K.getD t [] ++ [(b, (T.length : Int))])).getD t [] = K.getD t [] ++ [(b, (T.length : Int))] := getD_set_self _ _ _ (by omega)
      rw [e2, List.mem_append, List.mem_singleton, h.mem t h1]
      constructor
      · rintro (⟨q1, q2⟩ | q)
        · exact ⟨.inl q1, by rw [idx_append _ q1]; exact q2⟩
        · obtain ⟨rfl, rfl⟩ := Prod.mk.inj q
          exact ⟨.inr rfl, by rw [idx_last hw]⟩
      · rintro ⟨q1 | q1, q2⟩
        · exact .inl ⟨q1, by rw [idx_append _ q1] at q2; exact q2⟩
        · have hb := (snoc_inj q1).2
          subst hb
          rw [idx_last hw] at q2
          exact .inr (by rw [q2])
    · have e2 : (K.set s (K.getD s [] ++ [(b, (T.length : Int))])).getD t [] = K.getD t [] := getD_set_ne _ _ _ (Ne.symm h2)
      rw [e2, h.mem t h1]
      constructor
      · rintro ⟨q1, q2⟩
        exact ⟨.inl q1, by rw [idx_append _ q1]; exact q2⟩
      · rintro ⟨q1 | q1, q2⟩
        · exact ⟨q1, by rw [idx_append _ q1] at q2; exact q2⟩
        · exact absurd (get_inj hn h1 hs (snoc_inj q1).1) h2
  · obtain rfl : t = T.length := by omega
    rw [getD_append_last]
    have e1 : (K.set s (K.getD s [] ++ [(b, (T.length : Int))]) ++ [[]]).getD T.length [] = [] := by
      rw [List.getD_eq_getElem?_getD, List.getElem?_append_right (by rw [List.length_set]; omega)]
      simp [hl]
    rw [e1]
    constructor
    · intro q; cases q
    · rintro ⟨q1, _⟩
      rcases List.mem_append.1 q1 with q1 | q1
      · exact absurd (hc.2 _ _ q1) hw
      · have := congrArg List.length (List.mem_singleton.1 q1)
        simp at this
theorem closed_take {T : List Wd} (hc : Closed T) : ∀ (x : Wd) (i : Nat), x ∈ T → x.take i ∈ T := by
  intro x i hx
  have key : ∀ n, x.take (x.length - n) ∈ T := by
    intro n
    induction n with
    | zero => rw [Nat.sub_zero, List.take_length]; exact hx
    | succ n ih =>
      by_cases h : x.length - n = 0
      · rw [show x.length - (n + 1) = 0 by omega, List.take_zero]; exact hc.1
      · have h2 : x.length - (n + 1) < x.length := by omega
        have e : x.take (x.length - n) = x.take (x.length - (n + 1)) ++ [x.getD (x.length - (n + 1)) 0] := by
          rw [← text_step h2]; congr 1; omega
        rw [e] at ih
        exact hc.2 _ _ ih
  by_cases h : i ≤ x.length
  · have := key (x.length - i)
    rwa [show x.length - (x.length - i) = i by omega] at this
  · rw [List.take_of_length_le (by omega)]; exact hx
theorem find_zero {T : List Wd} (hT : TrieI T) : findW T [] = 0 := by
  unfold findW
  rw [if_pos hT.closed.1]
  have := get_idx hT.nodup hT.pos
  rw [hT.zero] at this
  rw [this]; rfl
theorem find_step {T : List Wd} (hT : TrieI T) {x : Wd} {i : Nat} (hi : i < x.length) {s : Nat} (hs : findW T (x.take i) = (s : Int)) : s < T.length ∧ findW T (x.take (i + 1)) = kidW T s (x.getD i 0) := by
  unfold findW at hs
  by_cases h : x.take i ∈ T
  · rw [if_pos h] at hs
    have e : s = T.idxOf (x.take i) := by omega
    subst e
    refine ⟨idx_lt h, ?_⟩
    unfold kidW findW
    rw [idx_get h, ← text_step hi]
  · rw [if_neg h] at hs; omega
theorem find_miss {T : List Wd} (hT : TrieI T) {x : Wd} {i : Nat} (h : findW T (x.take i) < 0) : findW T x = -1 := by
  unfold findW at h ⊢
  by_cases h1 : x.take i ∈ T
  · rw [if_pos h1] at h; omega
  · rw [if_neg (fun hx => h1 (closed_take hT.closed x i hx))]
theorem find_pos {T : List Wd} {x : Wd} (h : 0 ≤ findW T x) : x ∈ T ∧ findW T x = ((T.idxOf x : Nat) : Int) := by
  unfold findW at h ⊢
  by_cases h1 : x ∈ T
  · rw [if_pos h1]; exact ⟨h1, rfl⟩
  · rw [if_neg h1] at h; omega
theorem find_neg {T : List Wd} {x : Wd} (h : ¬ 0 ≤ findW T x) : x ∉ T := fun hx => h (by unfold findW; rw [if_pos hx]; omega)
theorem find_bound (T : List Wd) (x : Wd) : -1 ≤ findW T x ∧ findW T x ≤ (T.length : Int) := by
  unfold findW
  by_cases h1 : x ∈ T
  · rw [if_pos h1]; have := idx_lt h1; omega
  · rw [if_neg h1]; omega
/-- What longest answers. -/
def longT (T : List Wd) (x : Wd) (k : Nat) : Nat := T.idxOf (lsuf T (x.drop k))
theorem long_hit {T : List Wd} {x : Wd} {k : Nat} (h : 0 ≤ findW T (x.drop k)) : findW T (x.drop k) = ((longT T x k : Nat) : Int) := by
  obtain ⟨h1, h2⟩ := find_pos h
  unfold longT
  rw [h2, lsuf_of_mem h1]
theorem long_step {T : List Wd} (hT : TrieI T) {x : Wd} {k : Nat} (hk : k ≤ x.length) (h : ¬ 0 ≤ findW T (x.drop k)) : k < x.length ∧ longT T x k = longT T x (k + 1) := by
  have hn := find_neg h
  have hlt : k < x.length := by
    rcases Nat.lt_or_ge k x.length with h1 | h1
    · exact h1
    · rw [List.drop_eq_nil_of_le h1] at hn
      exact absurd hT.closed.1 hn
  refine ⟨hlt, ?_⟩
  unfold longT
  rw [lsuf_step1 hlt hn]
theorem next_long (T : List Wd) (s : Nat) (b : Int) : nxT T s b = longT T (T.getD s [] ++ [b]) 0 := rfl
end Go.Proofs.Ytdciniefkodeaaa.PAll
