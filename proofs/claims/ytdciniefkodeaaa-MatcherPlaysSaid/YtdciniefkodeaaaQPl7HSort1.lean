/- Go's stable sort by depth, walked: ranges swapped (slices.swapRangeCmpFunc). -/
import Derived.Test.YtdciniefkodeaaaProg
import Derived.Sort.WalkC
import Derived.Lib.Hide
import Derived.BigRegion
import Derived.WalkKit
import Derived.Deep.LoopGhost
import Derived.Deep.QuietTactic
import Derived.BigQuiet
import Derived.Test.YtdciniefkodeaaaQPl7HStab
set_option linter.unusedVariables false
set_option linter.unusedSimpArgs false
namespace Go.Proofs.Ytdciniefkodeaaa.PAll
open Go.Sort Go.RowKit
/-- A number below a bound, as the program holds it. -/
abbrev encF (N : Nat) : Fin (N + 1) → Value := fun x => Value.int .i64 (x.val : Int)
set_option maxHeartbeats 4000000 in
set_option maxRecDepth 1000000 in
theorem swapRange_any (N : Nat) (F : Value) (blk off cap a b n : Nat) (d : Array (Fin (N + 1))) (w : World) (hH : Holds (encF N) w blk off d) (hab : a + n ≤ b) (hb : b + n ≤ d.size) (hsz : d.size < 4611686018427387904) :
    Calls Try.prog 87 #[.slice (some ⟨blk, off, none⟩) d.size cap, .int .i64 a, .int .i64 b, .int .i64 n, F] w fun e w' =>
      e = .returned (.tuple #[]) ∧ ∃ q, w' = (putRow (encF N) w blk off (swapR a b n d)).drewN q := by
  have HST : Hid (w = (putRow (encF N) w blk off d).drewN 0) := (putRow_self (encF N) w blk off d hH).symm
  have HH : Hid (Holds (encF N) w blk off d) := hH
  clear hH
  go_enter Try.func87, Try.ntmps87
  go_wp2
  go_loopg [10] n (fun g1 vi wr => ∃ (i q : Nat), vi = .int .i64 i ∧ i ≤ n ∧ n - i ≤ g1 ∧ wr = (putRow (encF N) w blk off (swapR a b i d)).drewN q)
  case atStart => exact ⟨0, 0, rfl, Nat.zero_le _, by omega, HST.out⟩
  case round =>
    obtain ⟨i, q, rfl, hi, hg1, rfl⟩ := hrel
    by_cases hlt : i < n
    · have hltz : (i : Int) < (n : Int) := by omega
      have hs := swapR_size a b i d
      have hHi := holds_putRow (encF N) w blk off d (swapR a b i d) HH.out hs
      obtain ⟨xa, hxa⟩ : ∃ x, (swapR a b i d)[a + i]! = x := ⟨_, rfl⟩
      obtain ⟨xb, hxb⟩ : ∃ x, (swapR a b i d)[b + i]! = x := ⟨_, rfl⟩
      obtain ⟨ca, fa⟩ := hHi (a + i) (by omega)
      obtain ⟨cb, fb⟩ := hHi (b + i) (by omega)
      rw [hxa] at ca
      rw [hxb] at cb
      obtain ⟨ja, hja⟩ : ∃ j, j = a + i := ⟨_, rfl⟩
      obtain ⟨jb, hjb⟩ : ∃ j, j = b + i := ⟨_, rfl⟩
      rw [← hja] at ca fa hxa
      rw [← hjb] at cb fb hxb
      have sa : IntKind.i64.wrap ((a : Int) + (i : Int)) = (ja : Int) := by rw [IntKind.wrap_i64]; omega
      have sb : IntKind.i64.wrap ((b : Int) + (i : Int)) = (jb : Int) := by rw [IntKind.wrap_i64]; omega
      have la : (ja : Int) < (d.size : Int) := by omega
      have lb : (jb : Int) < (d.size : Int) := by omega
      have H1 : Hid (ja = a + i ∧ jb = b + i ∧ (swapR a b i d).size = d.size) := ⟨hja, hjb, hs⟩
      have hne : ja ≠ jb := by omega
      clear hHi hja hjb hs
      have ca' : ((putRow (encF N) w blk off (swapR a b i d)).drewN q).cell? ⟨blk, off + ja, none⟩ = some (.int .i64 (xa.val : Int)) := ca
      have cb' : ((putRow (encF N) w blk off (swapR a b i d)).drewN q).cell? ⟨blk, off + jb, none⟩ = some (.int .i64 (xb.val : Int)) := cb
      have fa' : ((putRow (encF N) w blk off (swapR a b i d)).drewN q).frozen? ⟨blk, off + ja, none⟩ = false := fa
      have fb' : ((putRow (encF N) w blk off (swapR a b i d)).drewN q).frozen? ⟨blk, off + jb, none⟩ = false := fb
      clear ca cb fa fb
      generalize hwq : (putRow (encF N) w blk off (swapR a b i d)).drewN q = wq at ca' cb' fa' fb' ⊢
      have HW : Hid _ := hwq
      clear hwq
      go_wp2_with fail
      go_region
      all_goals go_wp2
      go_roundg (n - (i + 1))
      case measure => omega
      case rel =>
        refine ⟨i + 1, q + 1, by go_num, by omega, Nat.le_refl _, ?_⟩
        obtain ⟨rfl, rfl, hs⟩ := H1.out
        rw [← HW.out, ← hxa, ← hxb]
        have := swap_worldC (encF N) w blk off (swapR a b i d) q (a + i) (b + i) (by omega) (by omega)
        rw [swapR]
        exact this
    · go_wp2
      go_end0
      obtain rfl : i = n := by omega
      exact ⟨rfl, q, rfl⟩
theorem put_again {α : Type} [Inhabited α] (enc : α → Value) (w : World) (blk off : Nat) (c c' : Array α) (q q' : Nat) (h : c'.size = c.size) :
    (putRow enc ((putRow enc w blk off c).drewN q) blk off c').drewN q' = (putRow enc w blk off c').drewN (q + q') := by
  rw [← World.drewN_drewN, ← putRow_putRow enc w blk off c c' h]
  rfl
theorem holds_again {α : Type} [Inhabited α] (enc : α → Value) (w : World) (blk off : Nat) (d c : Array α) (q : Nat) (hH : Holds enc w blk off d) (h : c.size = d.size) : Holds enc ((putRow enc w blk off c).drewN q) blk off c :=
  holds_putRow enc w blk off d c hH h
set_option maxHeartbeats 4000000 in
set_option maxRecDepth 1000000 in
theorem rotate_any (N : Nat) (F : Value) (blk off cap a m b : Nat) (d : Array (Fin (N + 1))) (w : World) (hH : Holds (encF N) w blk off d) (h1 : a < m) (h2 : m < b) (hb : b ≤ d.size) (hsz : d.size < 4611686018427387904) :
    Calls Try.prog 80 #[.slice (some ⟨blk, off, none⟩) d.size cap, .int .i64 a, .int .i64 m, .int .i64 b, F] w fun e w' =>
      e = .returned (.tuple #[]) ∧ ∃ (c : Array (Fin (N + 1))) (q : Nat), c.size = d.size ∧ PermIn a b d c ∧ (∀ k, c[k]! = rotF d a m b k) ∧ w' = (putRow (encF N) w blk off c).drewN q := by
  have HST : Hid (w = (putRow (encF N) w blk off d).drewN 0) := (putRow_self (encF N) w blk off d hH).symm
  have HH : Hid (Holds (encF N) w blk off d) := hH
  have HR : Hid (RotInv d d a m b (m - a) (b - m)) := rot_start d a m b (by omega) (by omega)
  clear hH
  have si : IntKind.i64.wrap ((m : Int) - (a : Int)) = ((m - a : Nat) : Int) := by rw [IntKind.wrap_i64]; omega
  have sj : IntKind.i64.wrap ((b : Int) - (m : Int)) = ((b - m : Nat) : Int) := by rw [IntKind.wrap_i64]; omega
  have gi : Value.int .i64 ((m : Int) - (a : Int)) = Value.int .i64 ((m - a : Nat) : Int) := by congr 1; omega
  have gj : Value.int .i64 ((b : Int) - (m : Int)) = Value.int .i64 ((b - m : Nat) : Int) := by congr 1; omega
  have GI := Lib.hid gi
  have GJ := Lib.hid gj
  clear gi gj
  go_enter Try.func80, Try.ntmps80
  go_wp2
  go_loopg [10, 11] (b - a) (fun g1 vi vj wr => ∃ (i j q : Nat) (c : Array (Fin (N + 1))), vi = .int .i64 i ∧ vj = .int .i64 j ∧ 0 < i ∧ 0 < j ∧ i + j ≤ g1 ∧ i ≤ m ∧ m + j ≤ b ∧ c.size = d.size ∧ Hid (RotInv d c a m b i j) ∧ wr = (putRow (encF N) w blk off c).drewN q)
  case atStart => exact ⟨m - a, b - m, 0, d, (by first | rfl | exact GI.out), (by first | rfl | exact GJ.out), by omega, by omega, by omega, by omega, by omega, rfl, HR, HST.out⟩
  case round =>
    obtain ⟨i, j, q, c, rfl, rfl, hi0, hj0, hg1, him, hjb, hcs, HI, rfl⟩ := hrel
    have HC : Hid (Holds (encF N) ((putRow (encF N) w blk off c).drewN q) blk off c) := holds_again _ _ _ _ _ _ _ HH.out hcs
    have hcb : b ≤ c.size := by omega
    have hcz : c.size < 4611686018427387904 := by omega
    have hds : d.size = c.size := hcs.symm
    have HD := Lib.hid hds
    clear hcs hds
    generalize hwq : (putRow (encF N) w blk off c).drewN q = wq at HC ⊢
    have HW : Hid _ := hwq
    clear hwq
    rcases Nat.lt_trichotomy i j with hlt | heq | hgt
    · have hne : ¬ (i = j) := by omega
      have hng : ¬ ((j : Int) < (i : Int)) := by omega
      have hc := swapRange_any N F blk off cap (m - i) (m + j - i) i c wq HC.out (by omega) (by omega) hcz
      rw [← HD.out, show ((m - i : Nat) : Int) = (m : Int) - (i : Int) by omega, show ((m + j - i : Nat) : Int) = (m : Int) + (j : Int) - (i : Int) by omega] at hc
      have HCC := Lib.hid hc
      clear hc
      have hm1 : IntKind.i64.wrap ((m : Int) + (j : Int)) = (m : Int) + (j : Int) := by rw [IntKind.wrap_i64]; omega
      have hm2 : IntKind.i64.wrap ((m : Int) + (j : Int) - (i : Int)) = (m : Int) + (j : Int) - (i : Int) := by rw [IntKind.wrap_i64]; omega
      clear hcz
      go_wp2_with fail
      refine HCC.out.mono ?_
      rintro e w' ⟨rfl, q', rfl⟩
      go_wp2
      go_roundg (i + (j - i))
      case measure => omega
      case rel => exact ⟨i, j - i, q + q', swapR (m - i) (m + j - i) i c, by go_num, by first | rfl | go_num | (congr 1; omega), hi0, by omega, Nat.le_refl _, him, by omega, by rw [swapR_size, HD.out], rot_lt _ _ _ _ _ _ _ HI.out hlt hb, by rw [← HW.out]; exact put_again _ _ _ _ _ _ _ _ (swapR_size _ _ _ _)⟩
    · subst heq
      have hc := swapRange_any N F blk off cap (m - i) m i c wq HC.out (by omega) (by omega) hcz
      rw [← HD.out, show ((m - i : Nat) : Int) = (m : Int) - (i : Int) by omega] at hc
      have HCC := Lib.hid hc
      clear hc
      go_wp2_with fail
      refine HCC.out.mono ?_
      rintro e w' ⟨rfl, q', rfl⟩
      go_wp2
      go_end0
      have hr := rot_eq d c a m b i HI.out hb
      exact ⟨rfl, _, q + q', hr.1, hr.2.1, hr.2.2, by rw [← HW.out]; exact put_again _ _ _ _ _ _ _ _ (swapR_size _ _ _ _)⟩
    · have hne : ¬ (i = j) := by omega
      have hng : (j : Int) < (i : Int) := by omega
      have hc := swapRange_any N F blk off cap (m - i) m j c wq HC.out (by omega) (by omega) hcz
      rw [← HD.out, show ((m - i : Nat) : Int) = (m : Int) - (i : Int) by omega] at hc
      have HCC := Lib.hid hc
      clear hc
      go_wp2_with fail
      refine HCC.out.mono ?_
      rintro e w' ⟨rfl, q', rfl⟩
      go_wp2
      go_roundg ((i - j) + j)
      case measure => omega
      case rel => exact ⟨i - j, j, q + q', swapR (m - i) m j c, by first | rfl | go_num | (congr 1; omega), by go_num, by omega, hj0, Nat.le_refl _, by omega, hjb, by rw [swapR_size, HD.out], rot_gt _ _ _ _ _ _ _ HI.out hgt hb, by rw [← HW.out]; exact put_again _ _ _ _ _ _ _ _ (swapR_size _ _ _ _)⟩
end Go.Proofs.Ytdciniefkodeaaa.PAll
