/- Patterns in another order, plainly. -/
import Derived.Test.YtdciniefkodeaaaQTu6HRun6
set_option linter.unusedVariables false
set_option linter.unusedSimpArgs false
namespace Go.Proofs.Ytdciniefkodeaaa.PAll
theorem chkL_iff : ∀ (ps seen : List Wd), chkL seen ps = 0 ↔ (∀ p ∈ ps, p ≠ [] ∧ p.length ≤ 32 ∧ p ∉ seen) ∧ ps.Nodup
  | [], seen => by simp [chkL]
  | q :: r, seen => by
    rw [chkL]
    by_cases h1 : q = []
    · rw [if_pos h1]; exact ⟨fun h => absurd h (by decide), fun h => absurd h1 (h.1 q List.mem_cons_self).1⟩
    rw [if_neg h1]
    by_cases h2 : 32 < q.length
    · rw [if_pos h2]; exact ⟨fun h => absurd h (by decide), fun h => absurd (h.1 q List.mem_cons_self).2.1 (by omega)⟩
    rw [if_neg h2]
    by_cases h3 : q ∈ seen
    · rw [if_pos h3]; exact ⟨fun h => absurd h (by decide), fun h => absurd h3 (h.1 q List.mem_cons_self).2.2⟩
    rw [if_neg h3, chkL_iff r, List.nodup_cons]
    constructor
    · rintro ⟨h4, h5⟩
      refine ⟨fun p hp => ?_, fun hm => (h4 q hm).2.2 (List.mem_append.2 (.inr (List.mem_singleton.2 rfl))), h5⟩
      rcases List.mem_cons.1 hp with rfl | hp
      · exact ⟨h1, by omega, h3⟩
      · exact ⟨(h4 p hp).1, (h4 p hp).2.1, fun hm => (h4 p hp).2.2 (List.mem_append.2 (.inl hm))⟩
    · rintro ⟨h4, h5, h6⟩
      refine ⟨fun p hp => ⟨(h4 p (List.mem_cons_of_mem _ hp)).1, (h4 p (List.mem_cons_of_mem _ hp)).2.1, fun hm => ?_⟩, h6⟩
      rcases List.mem_append.1 hm with hm | hm
      · exact (h4 p (List.mem_cons_of_mem _ hp)).2.2 hm
      · rw [List.mem_singleton.1 hm] at hp; exact h5 hp
theorem chkW_iff (ps : List Wd) : chkW ps = 0 ↔ (0 < ps.length ∧ ps.length ≤ 64) ∧ (∀ p ∈ ps, p ≠ [] ∧ p.length ≤ 32) ∧ ps.Nodup := by
  unfold chkW
  by_cases h : ps.length = 0 ∨ 64 < ps.length
  · rw [if_pos h]; exact ⟨fun h => absurd h (by decide), fun h => by omega⟩
  · rw [if_neg h, chkL_iff]
    constructor
    · rintro ⟨h1, h2⟩; exact ⟨by omega, fun p hp => ⟨(h1 p hp).1, (h1 p hp).2.1⟩, h2⟩
    · rintro ⟨_, h1, h2⟩; exact ⟨fun p hp => ⟨(h1 p hp).1, (h1 p hp).2, fun h => by cases h⟩, h2⟩
theorem chk_perm {ps qs : List Wd} (h : ps.Perm qs) : chkW ps = 0 ↔ chkW qs = 0 := by
  rw [chkW_iff, chkW_iff, h.length_eq, h.nodup_iff]
  constructor
  · rintro ⟨h1, h2, h3⟩; exact ⟨h1, fun p hp => h2 p (h.mem_iff.2 hp), h3⟩
  · rintro ⟨h1, h2, h3⟩; exact ⟨h1, fun p hp => h2 p (h.mem_iff.1 hp), h3⟩
theorem trie_same {ps qs : List Wd} (h : ps.Perm qs) (x : Wd) : x ∈ trie ps ↔ x ∈ trie qs := by
  rw [mem_trie, mem_trie]
  constructor
  · rintro (h1 | ⟨p, hp, h1⟩)
    · exact .inl h1
    · exact .inr ⟨p, h.mem_iff.1 hp, h1⟩
  · rintro (h1 | ⟨p, hp, h1⟩)
    · exact .inl h1
    · exact .inr ⟨p, h.mem_iff.2 hp, h1⟩
theorem nodup_len : ∀ {l m : List Wd}, l.Nodup → (∀ x ∈ l, x ∈ m) → l.length ≤ m.length
  | [], m, _, _ => Nat.zero_le _
  | a :: l, m, hn, hs => by
    rw [List.nodup_cons] at hn
    have ha := hs a List.mem_cons_self
    have ih := nodup_len (l := l) (m := m.erase a) hn.2 (fun x hx => by
      have hne : x ≠ a := fun e => hn.1 (e ▸ hx)
      exact (List.mem_erase_of_ne hne).2 (hs x (List.mem_cons_of_mem _ hx)))
    rw [List.length_erase_of_mem ha] at ih
    have := List.length_pos_of_mem ha
    rw [List.length_cons]
    omega
theorem trie_size {ps qs : List Wd} (h : ps.Perm qs) : (trie ps).length = (trie qs).length :=
  Nat.le_antisymm (nodup_len (trie_nodup ps) fun x hx => (trie_same h x).1 hx) (nodup_len (trie_nodup qs) fun x hx => (trie_same h x).2 hx)
theorem lsuf_same {S T : List Wd} (h : ∀ x, x ∈ S ↔ x ∈ T) : ∀ l : Wd, lsuf S l = lsuf T l
  | [] => rfl
  | c :: t => by
    rw [lsuf, lsuf, lsuf_same h t]
    by_cases h1 : c :: t ∈ S
    · rw [if_pos h1, if_pos ((h _).1 h1)]
    · rw [if_neg h1, if_neg (fun h2 => h1 ((h _).2 h2))]
theorem long_swap (m : Int) (p q : Wd) : (fun (m : Int) (p : Wd) => if m < (p.length : Int) then (p.length : Int) else m) ((fun (m : Int) (p : Wd) => if m < (p.length : Int) then (p.length : Int) else m) m p) q = (fun (m : Int) (p : Wd) => if m < (p.length : Int) then (p.length : Int) else m) ((fun (m : Int) (p : Wd) => if m < (p.length : Int) then (p.length : Int) else m) m q) p := by
  dsimp only
  repeat' split
  all_goals first | rfl | omega
theorem long_perm {ps qs : List Wd} (h : ps.Perm qs) : longW ps = longW qs := by
  unfold longW
  exact h.foldl_eq' (fun x _ y _ z => long_swap z x y) 0
/-- Turned round at k. -/
def turnW (ps : List Wd) (k : Nat) : List Wd := ps.drop k ++ ps.take k
theorem turn_perm (ps : List Wd) (k : Nat) : ps.Perm (turnW ps k) := by
  have h := List.perm_append_comm (l₁ := ps.take k) (l₂ := ps.drop k)
  rw [List.take_append_drop] at h
  exact h
theorem turn_len (ps : List Wd) (k : Nat) : (turnW ps k).length = ps.length := (turn_perm ps k).length_eq.symm
theorem turn_get {ps : List Wd} {k i : Nat} (hk : k < ps.length) (hi : i < ps.length) : (turnW ps k).getD i [] = ps.getD ((i + k) % ps.length) [] := by
  unfold turnW
  rw [List.getD_eq_getElem?_getD, List.getD_eq_getElem?_getD]
  congr 1
  by_cases h : i < ps.length - k
  · rw [List.getElem?_append_left (by rw [List.length_drop]; exact h), List.getElem?_drop, Nat.mod_eq_of_lt (by omega), Nat.add_comm]
  · rw [List.getElem?_append_right (by rw [List.length_drop]; omega), List.length_drop, List.getElem?_take_of_lt (by omega)]
    have : (i + k) % ps.length = i - (ps.length - k) := by
      rw [Nat.mod_eq_sub_mod (by omega), Nat.mod_eq_of_lt (by omega)]
      omega
    rw [this]
theorem outs_count (ps : List Wd) (x : Wd) : (outsW ps x).length = (ps.filter fun p => decide (p <:+ x)).length := by
  unfold outsW idsW
  rw [List.length_map]
  have key : ∀ n, n ≤ ps.length → ((List.range n).filter fun i => decide (ps.getD i [] <:+ x)).length = ((ps.take n).filter fun p => decide (p <:+ x)).length := by
    intro n
    induction n with
    | zero => intro _; rfl
    | succ n ih =>
      intro hn
      rw [List.range_succ, take_succ_ (by omega), List.filter_append, List.filter_append, List.length_append, List.length_append, ih (by omega)]
      congr 1
      by_cases h : ps.getD n [] <:+ x
      · rw [List.filter_cons, if_pos (decide_eq_true h), List.filter_cons, if_pos (decide_eq_true h)]; rfl
      · rw [List.filter_cons, if_neg (ndec h), List.filter_cons, if_neg (ndec h)]; rfl
  have := key ps.length (Nat.le_refl _)
  rw [List.take_length] at this
  exact this
theorem outs_turn_len (ps : List Wd) (k : Nat) (x : Wd) : (outsW (turnW ps k) x).length = (outsW ps x).length := by
  rw [outs_count, outs_count]
  exact ((turn_perm ps k).filter _).length_eq.symm
theorem mem_outs {ps : List Wd} {x : Wd} {z : Int} : z ∈ outsW ps x ↔ ∃ i : Nat, z = (i : Int) ∧ i < ps.length ∧ ps.getD i [] <:+ x := by
  unfold outsW idsW
  rw [List.mem_map]
  constructor
  · rintro ⟨i, hi, rfl⟩
    rw [List.mem_filter] at hi
    exact ⟨i, rfl, List.mem_range.1 hi.1, of_decide_eq_true hi.2⟩
  · rintro ⟨i, rfl, h1, h2⟩
    exact ⟨i, List.mem_filter.2 ⟨List.mem_range.2 h1, decide_eq_true h2⟩, rfl⟩
/-- A pattern that the turned machine tells is told by the other one, under its own number. -/
theorem outs_turn {ps : List Wd} {k : Nat} (hk : k < ps.length) {x : Wd} {z : Int} (h : z ∈ outsW (turnW ps k) x) : ∃ j : Nat, z = (j : Int) ∧ j < ps.length ∧ (((j + k) % ps.length : Nat) : Int) ∈ outsW ps x := by
  obtain ⟨i, rfl, h1, h2⟩ := mem_outs.1 h
  rw [turn_len] at h1
  rw [turn_get hk h1] at h2
  exact ⟨i, rfl, h1, mem_outs.2 ⟨_, rfl, Nat.mod_lt _ (by omega), h2⟩⟩
end Go.Proofs.Ytdciniefkodeaaa.PAll
