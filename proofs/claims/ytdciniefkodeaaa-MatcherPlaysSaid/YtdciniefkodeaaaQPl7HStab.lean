/- The plain law of Go's stable sort: ranges swapped, blocks rotated, two sorted blocks merged in place. No program here. -/
import Derived.Sort.LotA
set_option linter.unusedVariables false
set_option linter.unusedSimpArgs false
namespace Go.Proofs.Ytdciniefkodeaaa.PAll
open Go.Sort
variable {α : Type} [Inhabited α]
def swapR (a b : Nat) : Nat → Array α → Array α
  | 0, d => d
  | n + 1, d => swp (swapR a b n d) (a + n) (b + n)
theorem swapR_size (a b n : Nat) (d : Array α) : (swapR a b n d).size = d.size := by
  induction n with
  | zero => rfl
  | succ n ih => rw [swapR, size_swp, ih]
/-- What stands where, two ranges that are apart having been swapped. -/
theorem swapR_get (a b n : Nat) (d : Array α) (hab : a + n ≤ b) (hb : b + n ≤ d.size) (k : Nat) :
    (swapR a b n d)[k]! = if a ≤ k ∧ k < a + n then d[k - a + b]! else if b ≤ k ∧ k < b + n then d[k - b + a]! else d[k]! := by
  induction n generalizing k with
  | zero => rw [if_neg (by omega), if_neg (by omega)]; rfl
  | succ n ih =>
    have ih := fun k => ih (by omega) (by omega) k
    have hs := swapR_size a b n d
    rw [swapR]
    by_cases h1 : k = a + n
    · subst h1
      rw [swp_left _ _ _ (by omega) (by omega), ih, if_neg (by omega), if_neg (by omega), if_pos (by omega)]
      congr 1; omega
    · by_cases h2 : k = b + n
      · subst h2
        rw [swp_right _ _ _ (by omega), ih, if_neg (by omega), if_neg (by omega), if_neg (by omega), if_pos (by omega)]
        congr 1; omega
      · rw [swp_other _ _ _ _ h1 h2, ih]
        by_cases h3 : a ≤ k ∧ k < a + n
        · rw [if_pos h3, if_pos (by omega)]
        · rw [if_neg h3, if_neg (show ¬ (a ≤ k ∧ k < a + (n + 1)) by omega)]
          by_cases h4 : b ≤ k ∧ k < b + n
          · rw [if_pos h4, if_pos (show b ≤ k ∧ k < b + (n + 1) by omega)]
          · rw [if_neg h4, if_neg (show ¬ (b ≤ k ∧ k < b + (n + 1)) by omega)]
theorem swapR_perm (a b n lo hi : Nat) (d : Array α) (h1 : lo ≤ a) (hab : a + n ≤ b) (hb : b + n ≤ hi) (hh : hi ≤ d.size) : PermIn lo hi d (swapR a b n d) := by
  induction n with
  | zero => exact permIn_refl _ _ _
  | succ n ih =>
    rw [swapR]
    refine permIn_trans _ _ _ _ _ (ih (by omega) (by omega)) ?_
    exact swp_permIn _ _ _ _ _ (by omega) (by omega) (by omega) (by omega) (by rw [swapR_size]; exact hh)
/-- What stands at k, the blocks [a, m) and [m, b) having been exchanged. -/
def rotF (d : Array α) (a m b k : Nat) : α := if a ≤ k ∧ k < b then (if k < a + (b - m) then d[k - a + m]! else d[k - (b - m)]!) else d[k]!
/-- On the way: of the blocks of i and j elements round m the rest is still to be exchanged. -/
def RotInv (d c : Array α) (a m b i j : Nat) : Prop :=
  i ≤ m ∧ a ≤ m - i ∧ m + j ≤ b ∧ c.size = d.size ∧ PermIn a b d c ∧ ∀ k, rotF d a m b k = if m - i ≤ k ∧ k < m + j then (if k < m - i + j then c[k - (m - i) + m]! else c[k - j]!) else c[k]!
theorem rot_start (d : Array α) (a m b : Nat) (h1 : a ≤ m) (h2 : m ≤ b) : RotInv d d a m b (m - a) (b - m) := by
  refine ⟨by omega, by omega, by omega, rfl, permIn_refl _ _ _, fun k => ?_⟩
  unfold rotF
  rw [show m - (m - a) = a by omega, show m + (b - m) = b by omega]
theorem rot_gt (d c : Array α) (a m b i j : Nat) (h : RotInv d c a m b i j) (hij : j < i) (hb : b ≤ d.size) : RotInv d (swapR (m - i) m j c) a m b (i - j) j := by
  obtain ⟨h1, h2, h3, h4, h5, h6⟩ := h
  refine ⟨by omega, by omega, by omega, by rw [swapR_size]; exact h4, permIn_trans _ _ _ _ _ h5 (swapR_perm _ _ _ _ _ _ h2 (by omega) h3 (by omega)), fun k => ?_⟩
  rw [h6]
  have hg := fun k => swapR_get (m - i) m j c (by omega) (by omega) k
  by_cases k1 : m - i ≤ k ∧ k < m + j
  · rw [if_pos k1]
    by_cases k2 : k < m - i + j
    · rw [if_pos k2, if_neg (by omega), hg, if_pos (by omega)]
    · rw [if_neg k2, if_pos (by omega)]
      by_cases k3 : k < m - (i - j) + j
      · rw [if_pos k3, hg, if_neg (by omega), if_pos (by omega)]
        congr 1; omega
      · rw [if_neg k3, hg, if_neg (by omega), if_neg (by omega)]
  · rw [if_neg k1, if_neg (by omega), hg, if_neg (by omega), if_neg (by omega)]
theorem rot_lt (d c : Array α) (a m b i j : Nat) (h : RotInv d c a m b i j) (hij : i < j) (hb : b ≤ d.size) : RotInv d (swapR (m - i) (m + j - i) i c) a m b i (j - i) := by
  obtain ⟨h1, h2, h3, h4, h5, h6⟩ := h
  refine ⟨by omega, by omega, by omega, by rw [swapR_size]; exact h4, permIn_trans _ _ _ _ _ h5 (swapR_perm _ _ _ _ _ _ h2 (by omega) (by omega) (by omega)), fun k => ?_⟩
  rw [h6]
  have hg := fun k => swapR_get (m - i) (m + j - i) i c (by omega) (by omega) k
  by_cases k1 : m - i ≤ k ∧ k < m + j
  · rw [if_pos k1]
    by_cases k2 : k < m - i + j
    · rw [if_pos k2, if_pos (by omega)]
      by_cases k3 : k < m - i + (j - i)
      · rw [if_pos k3, hg, if_neg (by omega), if_neg (by omega)]
      · rw [if_neg k3, hg, if_pos (by omega)]
        congr 1; omega
    · rw [if_neg k2, if_neg (by omega), hg, if_neg (by omega), if_pos (by omega)]
      congr 1; omega
  · rw [if_neg k1, if_neg (by omega), hg, if_neg (by omega), if_neg (by omega)]
theorem rot_eq (d c : Array α) (a m b i : Nat) (h : RotInv d c a m b i i) (hb : b ≤ d.size) : (swapR (m - i) m i c).size = d.size ∧ PermIn a b d (swapR (m - i) m i c) ∧ ∀ k, (swapR (m - i) m i c)[k]! = rotF d a m b k := by
  obtain ⟨h1, h2, h3, h4, h5, h6⟩ := h
  refine ⟨by rw [swapR_size]; exact h4, permIn_trans _ _ _ _ _ h5 (swapR_perm _ _ _ _ _ _ h2 (by omega) h3 (by omega)), fun k => ?_⟩
  rw [h6, swapR_get (m - i) m i c (by omega) (by omega) k]
  by_cases k1 : m - i ≤ k ∧ k < m + i
  · rw [if_pos k1]
    by_cases k2 : k < m - i + i
    · rw [if_pos k2, if_pos (by omega)]
    · rw [if_neg k2, if_neg (by omega), if_pos (by omega)]
      congr 1; omega
  · rw [if_neg k1, if_neg (by omega), if_neg (by omega)]
section
variable {lt : α → α → Bool}
theorem _root_.Go.Sort.SortedIn.of_get {a b : Nat} {d d' : Array α} (h : SortedIn lt a b d) (he : ∀ k, a ≤ k → k < b → d'[k]! = d[k]!) : SortedIn lt a b d' := fun i j hi hj hb => by rw [he i hi (by omega), he j (by omega) hb]; exact h i j hi hj hb
end
/-- data[a] has been brought to the place t (a ≤ t), what stood between has moved down by one. -/
def upF (d : Array α) (a t k : Nat) : α := if a ≤ k ∧ k < t then d[k + 1]! else if k = t then d[a]! else d[k]!
theorem up_step (d c : Array α) (a t hi : Nat) (hat : a ≤ t) (hs : c.size = d.size) (ht : t + 1 < hi) (hh : hi ≤ d.size) (hp : PermIn a hi d c) (hc : ∀ k, c[k]! = upF d a t k) :
    (swp c t (t + 1)).size = d.size ∧ PermIn a hi d (swp c t (t + 1)) ∧ ∀ k, (swp c t (t + 1))[k]! = upF d a (t + 1) k := by
  refine ⟨by rw [size_swp]; exact hs, permIn_trans _ _ _ _ _ hp (swp_permIn _ _ _ _ _ hat (by omega) (by omega) ht (by omega)), fun k => ?_⟩
  by_cases h1 : k = t
  · subst h1
    rw [swp_left _ _ _ (by omega) (by omega), hc]
    unfold upF
    rw [if_neg (by omega), if_neg (by omega), if_pos (by omega)]
  · by_cases h2 : k = t + 1
    · subst h2
      rw [swp_right _ _ _ (by omega), hc]
      unfold upF
      rw [if_neg (by omega), if_pos rfl, if_neg (by omega), if_pos rfl]
    · rw [swp_other _ _ _ _ h1 h2, hc]
      unfold upF
      by_cases h3 : a ≤ k ∧ k < t
      · rw [if_pos h3, if_pos (by omega)]
      · rw [if_neg h3, if_neg h1, if_neg (by omega), if_neg h2]
theorem up_start (d : Array α) (a k : Nat) : d[k]! = upF d a a k := by
  unfold upF
  rw [if_neg (by omega)]
  split
  · rename_i h; rw [h]
  · rfl
theorem up_sorted {lt : α → α → Bool} (hS : SWO lt) (d c : Array α) (a b i : Nat) (hai : a + 1 ≤ i) (hib : i ≤ b) (hs : SortedIn lt (a + 1) b d) (h1 : ∀ k, a + 1 ≤ k → k < i → lt d[k]! d[a]! = true) (h2 : ∀ k, i ≤ k → k < b → lt d[k]! d[a]! = false)
    (hc : ∀ k, c[k]! = upF d a (i - 1) k) : SortedIn lt a b c := by
  have k1 : ∀ k, a ≤ k → k < i - 1 → c[k]! = d[k + 1]! := fun k x y => by rw [hc]; unfold upF; rw [if_pos ⟨x, y⟩]
  have k2 : c[i - 1]! = d[a]! := by rw [hc]; unfold upF; rw [if_neg (by omega), if_pos rfl]
  have k3 : ∀ k, i - 1 < k → c[k]! = d[k]! := fun k x => by rw [hc]; unfold upF; rw [if_neg (by omega), if_neg (by omega)]
  intro p q hp hpq hq
  by_cases p1 : p < i - 1
  · rw [k1 p hp p1]
    by_cases q1 : q < i - 1
    · rw [k1 q (by omega) q1]; exact hs _ _ (by omega) (by omega) (by omega)
    · by_cases q2 : q = i - 1
      · rw [q2, k2]
        exact hS.asymmA (h1 (p + 1) (by omega) (by omega))
      · rw [k3 q (by omega)]; exact hs _ _ (by omega) (by omega) (by omega)
  · by_cases p2 : p = i - 1
    · rw [p2, k2, k3 q (by omega)]
      exact h2 q (by omega) hq
    · rw [k3 p (by omega), k3 q (by omega)]; exact hs _ _ (by omega) (by omega) (by omega)
/-- data[m] has been brought down to the place t, what stood between has moved up by one. -/
def downF (d : Array α) (m t k : Nat) : α := if t < k ∧ k ≤ m then d[k - 1]! else if k = t then d[m]! else d[k]!
theorem down_step (d c : Array α) (m t lo : Nat) (htm : t + 1 ≤ m) (hs : c.size = d.size) (ht : lo ≤ t) (hh : m < d.size) (hp : PermIn lo (m + 1) d c) (hc : ∀ k, c[k]! = downF d m (t + 1) k) :
    (swp c (t + 1) t).size = d.size ∧ PermIn lo (m + 1) d (swp c (t + 1) t) ∧ ∀ k, (swp c (t + 1) t)[k]! = downF d m t k := by
  refine ⟨by rw [size_swp]; exact hs, permIn_trans _ _ _ _ _ hp (swp_permIn _ _ _ _ _ (by omega) (by omega) (by omega) (by omega) (by omega)), fun k => ?_⟩
  by_cases h1 : k = t
  · subst h1
    rw [swp_right _ _ _ (by omega), hc]
    unfold downF
    rw [if_neg (by omega), if_pos rfl, if_neg (by omega), if_pos rfl]
  · by_cases h2 : k = t + 1
    · subst h2
      rw [swp_left _ _ _ (by omega) (by omega), hc]
      unfold downF
      rw [if_neg (by omega), if_neg (by omega), if_pos (by omega)]
      rfl
    · rw [swp_other _ _ _ _ h2 h1, hc]
      unfold downF
      by_cases h3 : t + 1 < k ∧ k ≤ m
      · rw [if_pos h3, if_pos (by omega)]
      · rw [if_neg h3, if_neg h2, if_neg (by omega), if_neg h1]
theorem down_start (d : Array α) (m k : Nat) : d[k]! = downF d m m k := by
  unfold downF
  rw [if_neg (by omega)]
  split
  · rename_i h; rw [h]
  · rfl
theorem down_sorted {lt : α → α → Bool} (hS : SWO lt) (d c : Array α) (a m i : Nat) (hai : a ≤ i) (him : i ≤ m) (hs : SortedIn lt a m d) (h1 : ∀ k, a ≤ k → k < i → lt d[m]! d[k]! = false) (h2 : ∀ k, i ≤ k → k < m → lt d[m]! d[k]! = true)
    (hc : ∀ k, c[k]! = downF d m i k) : SortedIn lt a (m + 1) c := by
  have k1 : ∀ k, k < i → c[k]! = d[k]! := fun k x => by rw [hc]; unfold downF; rw [if_neg (by omega), if_neg (by omega)]
  have k2 : c[i]! = d[m]! := by rw [hc]; unfold downF; rw [if_neg (by omega), if_pos rfl]
  have k3 : ∀ k, i < k → k ≤ m → c[k]! = d[k - 1]! := fun k x y => by rw [hc]; unfold downF; rw [if_pos ⟨x, y⟩]
  intro p q hp hpq hq
  by_cases p1 : p < i
  · rw [k1 p p1]
    by_cases q1 : q < i
    · rw [k1 q q1]; exact hs _ _ (by omega) (by omega) (by omega)
    · by_cases q2 : q = i
      · rw [q2, k2]; exact h1 p hp p1
      · rw [k3 q (by omega) (by omega)]; exact hs _ _ (by omega) (by omega) (by omega)
  · by_cases p2 : p = i
    · rw [p2, k2, k3 q (by omega) (by omega)]
      exact hS.asymmA (h2 (q - 1) (by omega) (by omega))
    · rw [k3 p (by omega) (by omega), k3 q (by omega) (by omega)]; exact hs _ _ (by omega) (by omega) (by omega)
/-- What the search for the turning point finds. -/
def Turn (lt : α → α → Bool) (d : Array α) (a m b s e : Nat) : Prop :=
  a ≤ s ∧ s ≤ m ∧ m ≤ e ∧ e ≤ b ∧ (a < s → e < b → lt d[e]! d[s - 1]! = false) ∧ (s < m → m < e → lt d[e - 1]! d[s]! = true)
/-- Nothing behind mid is less than anything ahead of it. -/
def Cross (lt : α → α → Bool) (a mid b : Nat) (c : Array α) : Prop := ∀ p q, a ≤ p → p < mid → mid ≤ q → q < b → lt c[q]! c[p]! = false
theorem merge_rot {lt : α → α → Bool} (hS : SWO lt) (d c : Array α) (a m b s e : Nat) (hT : Turn lt d a m b s e) (h1 : SortedIn lt a m d) (h2 : SortedIn lt m b d) (hc : ∀ k, c[k]! = rotF d s m e k) :
    SortedIn lt a s c ∧ SortedIn lt s (s + (e - m)) c ∧ SortedIn lt (s + (e - m)) e c ∧ SortedIn lt e b c ∧ Cross lt a (s + (e - m)) b c := by
  obtain ⟨t1, t2, t3, t4, t5, t6⟩ := hT
  have hl : ∀ i j, a ≤ i → i ≤ j → j < m → lt d[j]! d[i]! = false := fun i j x y z => by
    rcases Nat.eq_or_lt_of_le y with rfl | y
    · exact hS.irrefl _
    · exact h1 i j x y z
  have hr : ∀ i j, m ≤ i → i ≤ j → j < b → lt d[j]! d[i]! = false := fun i j x y z => by
    rcases Nat.eq_or_lt_of_le y with rfl | y
    · exact hS.irrefl _
    · exact h2 i j x y z
  have k1 : ∀ k, k < s → c[k]! = d[k]! := fun k h => by rw [hc]; unfold rotF; rw [if_neg (by omega)]
  have k2 : ∀ k, s ≤ k → k < s + (e - m) → c[k]! = d[k - s + m]! := fun k h h' => by rw [hc]; unfold rotF; rw [if_pos (by omega), if_pos (by omega)]
  have k3 : ∀ k, s + (e - m) ≤ k → k < e → c[k]! = d[k - (e - m)]! := fun k h h' => by rw [hc]; unfold rotF; rw [if_pos (by omega), if_neg (by omega)]
  have k4 : ∀ k, e ≤ k → c[k]! = d[k]! := fun k h => by rw [hc]; unfold rotF; rw [if_neg (by omega)]
  refine ⟨fun p q hp hpq hq => ?_, fun p q hp hpq hq => ?_, fun p q hp hpq hq => ?_, fun p q hp hpq hq => ?_, fun p q hp hpm hmq hq => ?_⟩
  · rw [k1 p (by omega), k1 q (by omega)]; exact h1 _ _ hp hpq (by omega)
  · rw [k2 p (by omega) (by omega), k2 q (by omega) (by omega)]; exact h2 _ _ (by omega) (by omega) (by omega)
  · rw [k3 p (by omega) (by omega), k3 q (by omega) (by omega)]; exact h1 _ _ (by omega) (by omega) (by omega)
  · rw [k4 p (by omega), k4 q (by omega)]; exact h2 _ _ (by omega) (by omega) (by omega)
  · by_cases p1 : p < s
    · rw [k1 p p1]
      by_cases q1 : q < e
      · rw [k3 q hmq q1]; exact hl _ _ hp (by omega) (by omega)
      · rw [k4 q (by omega)]
        refine hS.ntrans _ _ _ (hr e q t3 (by omega) hq) (hS.ntrans _ _ _ (t5 (by omega) (by omega)) (hl p (s - 1) hp (by omega) (by omega)))
    · rw [k2 p (by omega) hpm]
      by_cases q1 : q < e
      · rw [k3 q hmq q1]
        exact hS.ntrans _ _ _ (hl s _ t1 (by omega) (by omega)) (hS.ntrans _ _ _ (hS.asymmA (t6 (by omega) (by omega))) (hr _ (e - 1) (by omega) (by omega) (by omega)))
      · rw [k4 q (by omega)]; exact hr _ _ (by omega) (by omega) hq
theorem merge_done {lt : α → α → Bool} (hS : SWO lt) (c c1 c2 : Array α) (a mid b : Nat) (h0 : a ≤ mid) (h1 : mid ≤ b) (hb : b ≤ c.size) (hX : Cross lt a mid b c) (p1 : PermIn a mid c c1) (s1 : SortedIn lt a mid c1) (p2 : PermIn mid b c1 c2) (s2 : SortedIn lt mid b c2) :
    PermIn a b c c2 ∧ SortedIn lt a b c2 := by
  have z1 := p1.1
  have z2 := p2.1
  refine ⟨permIn_trans _ _ _ _ _ (permIn_mono _ _ _ _ _ _ (Nat.le_refl _) h1 hb p1) (permIn_mono _ _ _ _ _ _ h0 (Nat.le_refl _) (by omega) p2), fun p q hp hpq hq => ?_⟩
  by_cases q1 : q < mid
  · rw [p2.2.1 p (.inl (by omega)), p2.2.1 q (.inl q1)]; exact s1 p q hp hpq q1
  · by_cases pm : mid ≤ p
    · exact s2 p q pm hpq hq
    · rw [p2.2.1 p (.inl (by omega))]
      have hq2 : ∀ i, mid ≤ i → i < b → lt c1[i]! c1[p]! = false := fun i hi hib => by
        rw [p1.2.1 i (.inr hi)]
        exact permIn_all c c1 a mid (fun x => lt c[i]! x = false) (by omega) p1 (fun j hj hjm => hX j i hj hjm hi hib) p hp (by omega)
      exact permIn_all c1 c2 mid b (fun y => lt y c1[p]! = false) (by omega) p2 hq2 q (by omega) hq
theorem rotF_same (d : Array α) (s m e k : Nat) (h : s = m ∨ m = e) : rotF d s m e k = d[k]! := by
  unfold rotF
  split
  · split
    · congr 1; omega
    · congr 1; omega
  · rfl
/-- Between lo and hi (both within the range) the point lies: behind lo, what is asked was true one earlier; at hi it was false. -/
def Srch (P : Nat → Bool) (lo0 hi0 lo hi : Nat) : Prop := lo0 ≤ lo ∧ lo ≤ hi ∧ hi ≤ hi0 ∧ (lo0 < lo → P (lo - 1) = true) ∧ (hi < hi0 → P hi = false)
theorem srch_start (P : Nat → Bool) {lo hi : Nat} (h : lo ≤ hi) : Srch P lo hi lo hi := ⟨Nat.le_refl _, h, Nat.le_refl _, fun h => absurd h (by omega), fun h => absurd h (by omega)⟩
theorem srch_up {P : Nat → Bool} {lo0 hi0 lo hi c : Nat} (h : Srch P lo0 hi0 lo hi) (h1 : lo ≤ c) (h2 : c < hi) (hp : P c = true) : Srch P lo0 hi0 (c + 1) hi :=
  ⟨by have := h.1; omega, by omega, h.2.2.1, fun _ => hp, h.2.2.2.2⟩
theorem srch_down {P : Nat → Bool} {lo0 hi0 lo hi c : Nat} (h : Srch P lo0 hi0 lo hi) (h1 : lo ≤ c) (h2 : c < hi) (hp : P c = false) : Srch P lo0 hi0 lo c :=
  ⟨h.1, h1, by have := h.2.2.1; omega, h.2.2.2.1, fun _ => hp⟩
/-- Cut into blocks of bs each is sorted; the last one may be shorter. -/
def BlocksIn (lt : α → α → Bool) (bs n : Nat) (d : Array α) : Prop := ∀ k, SortedIn lt (k * bs) (min (k * bs + bs) n) d
theorem blocks_whole {lt : α → α → Bool} {bs n : Nat} {d : Array α} (h : BlocksIn lt bs n d) (hn : n ≤ bs) : SortedIn lt 0 n d := by
  have := h 0
  rw [Nat.zero_mul, Nat.zero_add, Nat.min_eq_right hn] at this
  exact this
/-- On the way: the blocks ahead of a are of twice the size, those from a on as before. -/
def HalfIn (lt : α → α → Bool) (bs n a : Nat) (d : Array α) : Prop := (∃ j, a = j * (2 * bs)) ∧ (∀ k, k * (2 * bs) + 2 * bs ≤ a → SortedIn lt (k * (2 * bs)) (min (k * (2 * bs) + 2 * bs) n) d) ∧ ∀ k, a ≤ k * bs → SortedIn lt (k * bs) (min (k * bs + bs) n) d
theorem half_start {lt : α → α → Bool} {bs n : Nat} {d : Array α} (hb : 0 < bs) (h : BlocksIn lt bs n d) : HalfIn lt bs n 0 d := ⟨⟨0, by simp⟩, fun k hk => by omega, fun k _ => h k⟩
/-- The two blocks at a are both sorted. -/
theorem half_two {lt : α → α → Bool} {bs n a : Nat} {d : Array α} (hb : 0 < bs) (h : HalfIn lt bs n a d) : SortedIn lt a (min (a + bs) n) d ∧ SortedIn lt (a + bs) (min (a + 2 * bs) n) d := by
  obtain ⟨⟨j, rfl⟩, h1, h2⟩ := h
  have e1 : j * (2 * bs) = (2 * j) * bs := by rw [← Nat.mul_assoc, Nat.mul_comm j 2]
  have e2 : j * (2 * bs) + bs = (2 * j + 1) * bs := by rw [e1, Nat.add_mul, Nat.one_mul]
  constructor
  · have := h2 (2 * j) (by omega)
    rw [← e1] at this; exact this
  · have := h2 (2 * j + 1) (by omega)
    rw [← e2] at this
    rw [show j * (2 * bs) + 2 * bs = j * (2 * bs) + bs + bs by omega]; exact this
theorem half_step {lt : α → α → Bool} {bs n a : Nat} {d c : Array α} (hb : 0 < bs) (ha : a + 2 * bs ≤ n) (h : HalfIn lt bs n a d) (hp : PermIn a (a + 2 * bs) d c) (hs : SortedIn lt a (a + 2 * bs) c) : HalfIn lt bs n (a + 2 * bs) c := by
  obtain ⟨⟨j, rfl⟩, h1, h2⟩ := h
  refine ⟨⟨j + 1, by rw [Nat.add_mul, Nat.one_mul]⟩, fun k hk => ?_, fun k hk => ?_⟩
  · by_cases e : k = j
    · subst e; rw [Nat.min_eq_left (by omega)]; exact hs
    · have hkj : k < j := by
        have : k * (2 * bs) ≤ j * (2 * bs) := by omega
        have := Nat.le_of_mul_le_mul_right this (by omega)
        omega
      have : (k + 1) * (2 * bs) ≤ j * (2 * bs) := Nat.mul_le_mul_right _ hkj
      rw [Nat.add_mul, Nat.one_mul] at this
      exact (h1 k this).of_get fun q hq1 hq2 => hp.2.1 q (.inl (by omega))
  · exact (h2 k (by omega)).of_get fun q hq1 hq2 => hp.2.1 q (.inr (by omega))
/-- The rest, behind the last pair: a short pair merged, or one block left. -/
theorem half_end {lt : α → α → Bool} {bs n a : Nat} {d c : Array α} (hb : 0 < bs) (ha : n < a + 2 * bs) (han : a ≤ n) (h : HalfIn lt bs n a d) (hp : PermIn a n d c) (hs : SortedIn lt a n c) : BlocksIn lt (2 * bs) n c := by
  obtain ⟨⟨j, rfl⟩, h1, h2⟩ := h
  intro k
  by_cases e : k = j
  · subst e; rw [Nat.min_eq_right (by omega)]; exact hs
  · by_cases hkj : k < j
    · have : (k + 1) * (2 * bs) ≤ j * (2 * bs) := Nat.mul_le_mul_right _ hkj
      rw [Nat.add_mul, Nat.one_mul] at this
      exact (h1 k this).of_get fun q hq1 hq2 => hp.2.1 q (.inl (by omega))
    · have : (j + 1) * (2 * bs) ≤ k * (2 * bs) := Nat.mul_le_mul_right _ (by omega)
      rw [Nat.add_mul, Nat.one_mul] at this
      intro p q hp hpq hq
      omega
/-- The first pass: the blocks ahead of a are sorted. -/
def AheadIn (lt : α → α → Bool) (bs n a : Nat) (d : Array α) : Prop := (∃ j, a = j * bs) ∧ ∀ k, k * bs + bs ≤ a → SortedIn lt (k * bs) (min (k * bs + bs) n) d
theorem ahead_start (lt : α → α → Bool) {bs : Nat} (hb : 0 < bs) (n : Nat) (d : Array α) : AheadIn lt bs n 0 d := ⟨⟨0, by simp⟩, fun k hk => by omega⟩
theorem ahead_step {lt : α → α → Bool} {bs n a : Nat} {d c : Array α} (hb : 0 < bs) (ha : a + bs ≤ n) (h : AheadIn lt bs n a d) (hp : PermIn a (a + bs) d c) (hs : SortedIn lt a (a + bs) c) : AheadIn lt bs n (a + bs) c := by
  obtain ⟨⟨j, rfl⟩, h1⟩ := h
  refine ⟨⟨j + 1, by rw [Nat.add_mul, Nat.one_mul]⟩, fun k hk => ?_⟩
  by_cases e : k = j
  · subst e; rw [Nat.min_eq_left (by omega)]; exact hs
  · have hkj : k < j := by
      have : k * bs ≤ j * bs := by omega
      have := Nat.le_of_mul_le_mul_right this (by omega)
      omega
    have : (k + 1) * bs ≤ j * bs := Nat.mul_le_mul_right _ hkj
    rw [Nat.add_mul, Nat.one_mul] at this
    exact (h1 k this).of_get fun q hq1 hq2 => hp.2.1 q (.inl (by omega))
theorem ahead_end {lt : α → α → Bool} {bs n a : Nat} {d c : Array α} (hb : 0 < bs) (ha : n < a + bs) (han : a ≤ n) (h : AheadIn lt bs n a d) (hp : PermIn a n d c) (hs : SortedIn lt a n c) : BlocksIn lt bs n c := by
  obtain ⟨⟨j, rfl⟩, h1⟩ := h
  intro k
  by_cases e : k = j
  · subst e; rw [Nat.min_eq_right (by omega)]; exact hs
  · by_cases hkj : k < j
    · have : (k + 1) * bs ≤ j * bs := Nat.mul_le_mul_right _ hkj
      rw [Nat.add_mul, Nat.one_mul] at this
      exact (h1 k this).of_get fun q hq1 hq2 => hp.2.1 q (.inl (by omega))
    · have : (j + 1) * bs ≤ k * bs := Nat.mul_le_mul_right _ (by omega)
      rw [Nat.add_mul, Nat.one_mul] at this
      intro p q hp hpq hq
      omega
end Go.Proofs.Ytdciniefkodeaaa.PAll
