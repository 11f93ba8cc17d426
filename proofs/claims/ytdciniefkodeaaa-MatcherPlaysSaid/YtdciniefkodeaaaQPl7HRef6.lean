/- The reference's plain answers: Same, Ints, Ends, begins, Copy, Check. -/
import Derived.Test.YtdciniefkodeaaaQPl7HChk
import Derived.Test.YtdciniefkodeaaaQPl7FSame
import Derived.Test.YtdciniefkodeaaaQPl7FInts
import Derived.Test.YtdciniefkodeaaaQPl7FEnds
import Derived.Test.YtdciniefkodeaaaQPl7PAllx0
import Derived.Test.YtdciniefkodeaaaQPl7FCopy
import Derived.Test.YtdciniefkodeaaaQPl7FCheck
set_option linter.unusedVariables false
set_option linter.unusedSimpArgs false
namespace Go.Proofs.Ytdciniefkodeaaa.PAll
open Go.RowKit Go.Proofs.YtdciniefkodeaaaW.PrintWords Go.Proofs.YtdciniefkodeaaaW.PrintLast Go.Proofs.YtdciniefkodeaaaW.PrintMore
theorem wrap_succ (i n : Nat) (h : i < n) (hn : n ≤ 9223372036854775807) : wrap64 ((i : Int) + 1) = ((i + 1 : Nat) : Int) := by
  unfold wrap64; omega
theorem rd_nat (l : List Int) {i : Nat} (h : i < l.length) : rd l (i : Int) = l[i] := by
  unfold rd
  rw [Int.toNat_natCast, List.getD_eq_getElem?_getD, List.getElem?_eq_getElem h]; rfl
theorem rdL_nat (l : List Wd) (i : Nat) : rd_L1 l (i : Int) = l.getD i [] := by
  unfold rd_L1
  rw [Int.toNat_natCast]
theorem same_l0 (a b : Wd) (hl : a.length = b.length) (hn : a.length ≤ 9223372036854775807) : ∀ (d i k : Nat), a.length - i = d → i ≤ a.length → d < k → winkleref03_Same.l0 k a b (i : Int) = some (decide (a.drop i = b.drop i))
  | 0, i, k + 1, hd, hi, hk => by
    obtain rfl : i = a.length := by omega
    rw [winkleref03_Same.l0, if_neg (by omega), List.drop_length, hl, List.drop_length]
    simp
  | d + 1, i, k + 1, hd, hi, hk => by
    have h1 : i < a.length := by omega
    have h2 : i < b.length := by omega
    have ih := same_l0 a b hl hn d (i + 1) k (by omega) (by omega) (by omega)
    rw [winkleref03_Same.l0, if_pos (by omega), if_pos (by omega), if_pos (by omega), rd_nat a h1, rd_nat b h2, wrap_succ i a.length h1 hn, ih, List.drop_eq_getElem_cons h1, List.drop_eq_getElem_cons h2]
    by_cases e : a[i] = b[i]
    · rw [if_pos e, e]
      congr 1
      rw [decide_eq_decide]
      exact ⟨fun h => by rw [h], fun h => (List.cons.inj h).2⟩
    · rw [if_neg e, decide_eq_false (fun h => e (List.cons.inj h).1)]
theorem same_is (a b : Wd) (hn : a.length ≤ 9223372036854775807) (k : Nat) (hk : a.length < k) : winkleref03_Same.f k a b = some (decide (a = b)) := by
  unfold winkleref03_Same.f
  by_cases hl : a.length = b.length
  · rw [if_pos (by omega)]
    exact same_l0 a b hl hn a.length 0 k (by omega) (by omega) hk
  · rw [if_neg (by omega), decide_eq_false (fun h => hl (by rw [h]))]
theorem ints_l0 (a b : List Int) (hl : a.length = b.length) (hn : a.length ≤ 9223372036854775807) : ∀ (d i k : Nat), a.length - i = d → i ≤ a.length → d < k → winkleref06_Ints.l0 k a b (i : Int) = some (decide (a.drop i = b.drop i))
  | 0, i, k + 1, hd, hi, hk => by
    obtain rfl : i = a.length := by omega
    rw [winkleref06_Ints.l0, if_neg (by omega), List.drop_length, hl, List.drop_length]
    simp
  | d + 1, i, k + 1, hd, hi, hk => by
    have h1 : i < a.length := by omega
    have h2 : i < b.length := by omega
    have ih := ints_l0 a b hl hn d (i + 1) k (by omega) (by omega) (by omega)
    rw [winkleref06_Ints.l0, if_pos (by omega), if_pos (by omega), if_pos (by omega), rd_nat a h1, rd_nat b h2, wrap_succ i a.length h1 hn, ih, List.drop_eq_getElem_cons h1, List.drop_eq_getElem_cons h2]
    by_cases e : a[i] = b[i]
    · rw [if_pos e, e]
      congr 1
      rw [decide_eq_decide]
      exact ⟨fun h => by rw [h], fun h => (List.cons.inj h).2⟩
    · rw [if_neg e, decide_eq_false (fun h => e (List.cons.inj h).1)]
theorem ints_is (a b : List Int) (hn : a.length ≤ 9223372036854775807) (k : Nat) (hk : a.length < k) : winkleref06_Ints.f k a b = some (decide (a = b)) := by
  unfold winkleref06_Ints.f
  by_cases hl : a.length = b.length
  · rw [if_pos (by omega)]
    exact ints_l0 a b hl hn a.length 0 k (by omega) (by omega) hk
  · rw [if_neg (by omega), decide_eq_false (fun h => hl (by rw [h]))]
theorem ends_is (text e : Wd) (hn : text.length ≤ 9223372036854775807) (k : Nat) (hk : text.length < k) : winkleref06_Ends.f k text e = some (decide (e <:+ text)) := by
  unfold winkleref06_Ends.f
  by_cases hl : e.length ≤ text.length
  · have hw : wrap64 ((text.length : Int) - (e.length : Int)) = ((text.length - e.length : Nat) : Int) := by
      unfold wrap64; omega
    rw [if_pos (by omega), hw, if_pos (by omega), if_pos (by omega), Int.toNat_natCast, same_is _ _ (by rw [List.length_drop]; omega) k (by rw [List.length_drop]; omega)]
    show some (decide _) = some (decide _)
    congr 1
    rw [decide_eq_decide]
    constructor
    · intro h; rw [← h]; exact List.drop_suffix _ _
    · rintro ⟨t, rfl⟩
      rw [List.length_append, Nat.add_sub_cancel, List.drop_left]
  · rw [if_neg (by omega), decide_eq_false (fun h => hl h.length_le)]
theorem copy_l0 (ps : List Wd) (hn : ps.length < 5864062014805) (hp : ∀ p ∈ ps, p.length < 140737488355328) : ∀ (d i k : Nat), ps.length - i = d → i ≤ ps.length → d < k → winkleref06_Copy.l0 k ps (ps.take i) (i : Int) = some ps
  | 0, i, k + 1, hd, hi, hk => by
    obtain rfl : i = ps.length := by omega
    rw [winkleref06_Copy.l0, if_neg (by omega), List.take_length]
  | d + 1, i, k + 1, hd, hi, hk => by
    have h1 : i < ps.length := by omega
    have ih := copy_l0 ps hn hp d (i + 1) k (by omega) (by omega) (by omega)
    have e : ps.getD i [] = ps[i] := by rw [List.getD_eq_getElem?_getD, List.getElem?_eq_getElem h1]; rfl
    rw [winkleref06_Copy.l0, if_pos (by omega), rdL_nat, wrap_succ i ps.length h1 (by omega), e]
    simp only [Option.bind_some]
    rw [if_pos (by omega), if_pos (by have := hp _ (List.getElem_mem h1); simpa using this), if_pos (by rw [List.length_take]; omega), List.nil_append, ← List.take_succ_eq_append_getElem h1, ih]
theorem copy_is (ps : List Wd) (hn : ps.length < 5864062014805) (hp : ∀ p ∈ ps, p.length < 140737488355328) (k : Nat) (hk : ps.length < k) : winkleref06_Copy.f k ps = some ps :=
  copy_l0 ps hn hp ps.length 0 k (by omega) (by omega) hk
/-- Check's inner loop. -/
theorem check_l1 (ps : List Wd) (hn : ps.length ≤ 64) (K i : Nat) (hi : i < ps.length) (h32 : (ps.getD i []).length ≤ 32) (r : Int) (hr : ∀ k, K ≤ k → winkleref06_Check.l0 k ps ((i + 1 : Nat) : Int) = some r) (hp : ∀ p ∈ ps.take i, p.length ≤ 32) :
    ∀ (d j k : Nat), i - j = d → j ≤ i → K + d + 40 < k → winkleref06_Check.l1 k ps (i : Int) (j : Int) = some (if ps.getD i [] ∈ (ps.take i).drop j then 63 else r)
  | 0, j, k + 1, hd, hj, hk => by
    obtain rfl : j = i := by omega
    rw [winkleref06_Check.l1, if_neg (by omega), wrap_succ j ps.length hi (by omega), hr k (by omega), if_neg]
    rw [List.drop_eq_nil_of_le (by rw [List.length_take]; omega)]
    exact fun h => by cases h
  | d + 1, j, k + 1, hd, hj, hk => by
    have h1 : j < ps.length := by omega
    have h2 : j < (ps.take i).length := by rw [List.length_take]; omega
    have ih := check_l1 ps hn K i hi h32 r hr hp d (j + 1) k (by omega) (by omega) (by omega)
    have e : ps.getD j [] = (ps.take i)[j] := by rw [List.getD_eq_getElem?_getD, List.getElem?_eq_getElem h1, Option.getD_some, List.getElem_take]
    have hlen : (ps.getD j []).length ≤ 32 := by rw [e]; exact hp _ (List.getElem_mem h2)
    rw [winkleref06_Check.l1, if_pos (by omega), if_pos (by omega), if_pos (by omega), if_pos (by omega), if_pos (by omega), rdL_nat, rdL_nat, wrap_succ j ps.length h1 (by omega), ih, same_is _ _ (by omega) k (by omega), List.drop_eq_getElem_cons h2, ← e]
    by_cases hs : ps.getD j [] = ps.getD i []
    · rw [decide_eq_true hs]
      show some (63 : Int) = some _
      rw [if_pos (by rw [hs]; exact List.mem_cons_self)]
    · rw [decide_eq_false hs]
      show some _ = some _
      congr 1
      by_cases hm : ps.getD i [] ∈ (ps.take i).drop (j + 1)
      · rw [if_pos hm, if_pos (List.mem_cons_of_mem _ hm)]
      · rw [if_neg hm, if_neg (fun h => by
          rcases List.mem_cons.1 h with h | h
          · exact hs h.symm
          · exact hm h)]
theorem check_l0 (ps : List Wd) (hn : ps.length ≤ 64) : ∀ (d i k : Nat), ps.length - i = d → i ≤ ps.length → (∀ p ∈ ps.take i, p.length ≤ 32) → d * 150 + 1 ≤ k → winkleref06_Check.l0 k ps (i : Int) = some (chkL (ps.take i) (ps.drop i))
  | 0, i, k + 1, hd, hi, hp, hk => by
    obtain rfl : i = ps.length := by omega
    rw [winkleref06_Check.l0, if_neg (by omega), List.drop_length, chkL]
  | d + 1, i, k + 1, hd, hi, hp, hk => by
    have h1 : i < ps.length := by omega
    rw [winkleref06_Check.l0, if_pos (by omega), if_pos (by omega), rdL_nat, chk_step h1]
    have e : ps.getD i [] = ps[i] := by rw [List.getD_eq_getElem?_getD, List.getElem?_eq_getElem h1]; rfl
    by_cases p0 : ps.getD i [] = []
    · rw [if_pos (by rw [p0]; rfl), if_pos p0]
    · rw [if_neg (fun h => p0 (List.eq_nil_of_length_eq_zero (by omega))), if_neg p0]
      by_cases p1 : 32 < (ps.getD i []).length
      · rw [if_pos (by omega), if_pos p1]
      · rw [if_neg (by omega), if_neg p1]
        have hp' : ∀ p ∈ ps.take (i + 1), p.length ≤ 32 := fun p hm => by
          rw [List.take_succ_eq_append_getElem h1] at hm
          rcases List.mem_append.1 hm with hm | hm
          · exact hp p hm
          · rw [List.mem_singleton.1 hm, ← e]; omega
        have := check_l1 ps hn (d * 150 + 1) i h1 (by omega) _ (fun k hk => check_l0 ps hn d (i + 1) k (by omega) (by omega) hp' hk) hp i 0 k (by omega) (by omega) (by omega)
        rw [show ((0 : Nat) : Int) = 0 from rfl] at this
        rw [this, List.drop_zero]
theorem check_is (ps : List Wd) (k : Nat) (hk : 10000 ≤ k) : winkleref06_Check.f k ps = some (chkW ps) := by
  unfold winkleref06_Check.f chkW
  obtain ⟨k, rfl⟩ : ∃ k', k = k' + 1 := ⟨k - 1, by omega⟩
  by_cases h0 : ps.length = 0
  · rw [if_pos (by omega), winkleref06_Check.j0, if_pos rfl, if_pos (.inl h0)]
  · rw [if_neg (by omega), winkleref06_Check.j0]
    by_cases h1 : 64 < ps.length
    · rw [if_pos (decide_eq_true (by omega)), if_pos (.inr h1)]
    · rw [if_neg (by rw [decide_eq_false (by omega)]; decide), if_neg (by omega)]
      have := check_l0 ps (by omega) ps.length 0 k (by omega) (by omega) (fun p hm => by cases hm) (by omega)
      rw [List.take_zero, List.drop_zero] at this
      exact this
end Go.Proofs.Ytdciniefkodeaaa.PAll
