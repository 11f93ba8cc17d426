/- The hits of a longer text; small arguments. -/
import Derived.Test.YtdciniefkodeaaaQCa7HSame7
import Derived.Test.YtdciniefkodeaaaQCa7HWords6
set_option linter.unusedVariables false
set_option linter.unusedSimpArgs false
namespace Go.Proofs.Ytdciniefkodeaaa.PAll
open Go.Sort Go.RowKit Go.Proofs.YtdciniefkodeaaaW.PrintWords Go.Proofs.YtdciniefkodeaaaW.PrintLast Go.Proofs.YtdciniefkodeaaaW.PrintMore
theorem ps_ofU {w : World} {A : Option Addr} {c : Nat} {ps : List Wd} (h1 : (Kd.slice 5 (Kd.int .u8)).C w A ps.length ps) (h2 : ps.length ≤ c) (h3 : BytesOk ps) (h4 : ps.length ≤ 1048576) (h5 : ∀ p ∈ ps, p.length ≤ 1048576) : PsAt w A c ps :=
  ⟨h1, h2, h3, by omega, fun p hp => by have := h5 p hp; omega⟩
theorem tx_ofU {w : World} {A : Option Addr} {c : Nat} {x : Wd} (h1 : (Kd.int .u8).C w A x.length x) (h2 : x.length ≤ c) (h3 : ∀ b ∈ x, 0 ≤ b ∧ b ≤ 255) (h4 : x.length ≤ 1048576) : TxAt w A c x := ⟨h1, h2, h3, by omega⟩
theorem hits_app (ps : List Wd) (x m : Wd) : ∀ n, n ≤ x.length → hitsTo ps (x ++ m) n = hitsTo ps x n
  | 0, _ => rfl
  | n + 1, h => by
    rw [hitsTo, hitsTo, hits_app ps x m n (by omega), List.take_append_of_le_length h]
theorem hits_ends (ps : List Wd) (x : Wd) (n : Nat) : ∀ d, ∀ h ∈ (hitsTo ps x (n + d)).drop (hitsTo ps x n).length, (n : Int) < h.2
  | 0, h, hh => by rw [Nat.add_zero, List.drop_length] at hh; cases hh
  | d + 1, h, hh => by
    obtain ⟨r, hr⟩ := hits_pre ps x n d
    have ih := hits_ends ps x n d
    rw [hr, List.drop_left] at ih
    rw [← Nat.add_assoc, hitsTo, hr, List.append_assoc, List.drop_left] at hh
    rcases List.mem_append.1 hh with hh | hh
    · exact ih h hh
    · obtain ⟨k, _, rfl⟩ := List.mem_map.1 hh
      show (n : Int) < ((n + d + 1 : Nat) : Int)
      omega
/-- What Caps asks: the longer text's hits begin with the shorter one's; what is behind ends later. -/
theorem caps_plain {ps : List Wd} (x m : Wd) : ∃ r, hitsTo ps (x ++ m) (x ++ m).length = hitsTo ps x x.length ++ r ∧ ∀ h ∈ r, (x.length : Int) < h.2 := by
  obtain ⟨r, hr⟩ := hits_pre ps (x ++ m) x.length m.length
  have h2 := hits_ends ps (x ++ m) x.length m.length
  rw [hr, List.drop_left] at h2
  rw [hits_app ps x m _ (Nat.le_refl _)] at hr
  exact ⟨r, by rw [List.length_append, hr], h2⟩
theorem all_whole {ps : List Wd} (hp : ps.length ≤ 64) {x : Wd} (hx : x.length ≤ 1048576) {most : Int} (hm : 67108864 ≤ most) : allW ps x most = (hitsTo ps x x.length, true) := by
  have h := hits_le hp x x.length
  unfold allW
  rw [decide_eq_true (by omega), List.take_of_length_le (by omega)]
theorem all_part {ps : List Wd} {x : Wd} {n : Nat} (hn : n ≤ (hitsTo ps x x.length).length) : allW ps x (n : Int) = ((hitsTo ps x x.length).take n, decide (n = (hitsTo ps x x.length).length)) := by
  unfold allW
  rw [Int.toNat_natCast]
  congr 1
  rw [decide_eq_decide]
  omega
end Go.Proofs.Ytdciniefkodeaaa.PAll
