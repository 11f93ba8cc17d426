/- The reference's plain answers: Same, Ints, Ends, begins, Copy, Check. -/
import Derived.Test.YtdciniefkodeaaaQTu6HChk
import Derived.Test.YtdciniefkodeaaaQTu6FSame
import Derived.Test.YtdciniefkodeaaaQTu6FInts
import Derived.Test.YtdciniefkodeaaaQTu6PAllx0
import Derived.Test.YtdciniefkodeaaaQTu6FCopy
set_option linter.unusedVariables false
set_option linter.unusedSimpArgs false
namespace Go.Proofs.Ytdciniefkodeaaa.PAll
open Go.RowKit Go.Proofs.YtdciniefkodeaaaW.PrintWords Go.Proofs.YtdciniefkodeaaaW.PrintLast Go.Proofs.YtdciniefkodeaaaW.PrintMore
theorem wrap_succ (i n : Nat) (h : i < n) (hn : n ≤ 9223372036854775807) : wrap64 ((i : Int) + 1) = ((i + 1 : Nat) : Int) := by
  unfold wrap64; omega
theorem rd_nat (l : List Int) {i : Nat} (h : i < l.length) : rd l (i : Int) = l[i] := by
  unfold rd
  rw [Int.toNat_natCast, List.getD_eq_getElem?_getD, List.getElem?_eq_getElem h]; rfl
theorem rdL_nat (l : List Wd) (i : Nat) : rd_L1 l (i : Int) = l.getD i [] := by
  unfold rd_L1
  rw [Int.toNat_natCast]
theorem same_l0 (a b : Wd) (hl : a.length = b.length) (hn : a.length ≤ 9223372036854775807) : ∀ (d i k : Nat), a.length - i = d → i ≤ a.length → d < k → winkleref03_Same.l0 k a b (i : Int) = some (decide (a.drop i = b.drop i))
  | 0, i, k + 1, hd, hi, hk => by
    obtain rfl : i = a.length := by omega
    rw [winkleref03_Same.l0, if_neg (by omega), List.drop_length, hl, List.drop_length]
    simp
  | d + 1, i, k + 1, hd, hi, hk => by
    have h1 : i < a.length := by omega
    have h2 : i < b.length := by omega
    have ih := same_l0 a b hl hn d (i + 1) k (by omega) (by omega) (by omega)
    rw [winkleref03_Same.l0, if_pos (by omega), if_pos (by omega), if_pos (by omega), rd_nat a h1, rd_nat b h2, wrap_succ i a.length h1 hn, ih, List.drop_eq_getElem_cons h1, List.drop_eq_getElem_cons h2]
    by_cases e : a[i] = b[i]
    · rw [if_pos e, e]
      congr 1
      rw [decide_eq_decide]
      exact ⟨fun h => by rw [h], fun h => (List.cons.inj h).2⟩
    · rw [if_neg e, decide_eq_false (fun h => e (List.cons.inj h).1)]
theorem same_is (a b : Wd) (hn : a.length ≤ 9223372036854775807) (k : Nat) (hk : a.length < k) : winkleref03_Same.f k a b = some (decide (a = b)) := by
  unfold winkleref03_Same.f
  by_cases hl : a.length = b.length
  · rw [if_pos (by omega)]
    exact same_l0 a b hl hn a.length 0 k (by omega) (by omega) hk
  · rw [if_neg (by omega), decide_eq_false (fun h => hl (by rw [h]))]
theorem copy_l0 (ps : List Wd) (hn : ps.length < 5864062014805) (hp : ∀ p ∈ ps, p.length < 140737488355328) : ∀ (d i k : Nat), ps.length - i = d → i ≤ ps.length → d < k → winkleref06_Copy.l0 k ps (ps.take i) (i : Int) = some ps
  | 0, i, k + 1, hd, hi, hk => by
    obtain rfl : i = ps.length := by omega
    rw [winkleref06_Copy.l0, if_neg (by omega), List.take_length]
  | d + 1, i, k + 1, hd, hi, hk => by
    have h1 : i < ps.length := by omega
    have ih := copy_l0 ps hn hp d (i + 1) k (by omega) (by omega) (by omega)
    have e : ps.getD i [] = ps[i] := by rw [List.getD_eq_getElem?_getD, List.getElem?_eq_getElem h1]; rfl
    rw [winkleref06_Copy.l0, if_pos (by omega), rdL_nat, wrap_succ i ps.length h1 (by omega), e]
    simp only [Option.bind_some]
    rw [if_pos (by omega), if_pos (by have := hp _ (List.getElem_mem h1); simpa using this), if_pos (by rw [List.length_take]; omega), List.nil_append, ← List.take_succ_eq_append_getElem h1, ih]
theorem copy_is (ps : List Wd) (hn : ps.length < 5864062014805) (hp : ∀ p ∈ ps, p.length < 140737488355328) (k : Nat) (hk : ps.length < k) : winkleref06_Copy.f k ps = some ps :=
  copy_l0 ps hn hp ps.length 0 k (by omega) (by omega) hk
end Go.Proofs.Ytdciniefkodeaaa.PAll
