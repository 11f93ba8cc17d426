/- Go's stable sort by depth, walked: the merge of two sorted blocks, whatever their lengths; the whole sort (slices.SortStableFunc). -/
import Derived.Test.YtdciniefkodeaaaQPl7HSort3
import Derived.Test.YtdciniefkodeaaaQPl7HShelf
set_option linter.unusedVariables false
set_option linter.unusedSimpArgs false
namespace Go.Proofs.Ytdciniefkodeaaa.PAll
open Go.Sort Go.RowKit
theorem merge_all (N : Nat) (dep : Fin (N + 1) → Int) (cv : Value) (blk off cap size : Nat) (hsz : size < 1152921504606846976) : ∀ l, MergeAll N dep cv blk off cap size l := by
  intro l
  induction l with
  | zero => intro a m b d w _ hl; exact absurd hl (Nat.not_lt_zero _)
  | succ l ih =>
    intro a m b d w hd hl hcmp hH h1 h2 hb s1 s2
    subst hd
    by_cases c1 : m = a + 1
    · subst c1
      exact mergeUp_any N dep cv blk off cap a b d w hcmp hH h2 hb (by omega) s2
    · by_cases c2 : b = m + 1
      · subst c2
        exact mergeDown_any N dep cv blk off cap a m d w hcmp hH (by omega) hb (by omega) s1
      · refine merge_step N dep cv blk off cap a m b d w (fun a' m' b' d' w' hd' hl' => ih a' m' b' d' w' hd' (by omega)) hcmp hH (by omega) (by omega) hb hsz s1 s2
theorem merge_any (N : Nat) (dep : Fin (N + 1) → Int) (cv : Value) (blk off cap a m b : Nat) (d : Array (Fin (N + 1))) (w : World) (hsz : d.size < 1152921504606846976) (hcmp : CmpD N dep cv blk off d.size w) (hH : Holds (encF N) w blk off d) (h1 : a < m) (h2 : m < b) (hb : b ≤ d.size)
    (s1 : SortedIn (ltD N dep) a m d) (s2 : SortedIn (ltD N dep) m b d) : MergeOk N dep cv blk off cap a m b d w := merge_all N dep cv blk off cap d.size hsz (b - a + 1) a m b d w rfl (by omega) hcmp hH h1 h2 hb s1 s2
/-- One sorted stretch, by insertion. -/
theorem insert_any (N : Nat) (dep : Fin (N + 1) → Int) (cv : Value) (blk off cap a b : Nat) (d : Array (Fin (N + 1))) (w : World) (hsz : d.size < 1152921504606846976) (hcmp : CmpD N dep cv blk off d.size w) (hH : Holds (encF N) w blk off d) (h1 : a ≤ b) (hb : b ≤ d.size) :
    Calls Try.prog 67 #[.slice (some ⟨blk, off, none⟩) d.size cap, .int .i64 a, .int .i64 b, .func (.func 60) #[] #[cv]] w fun e w' =>
      e = .returned (.tuple #[]) ∧ ∃ (c : Array (Fin (N + 1))) (q : Nat), PermIn a b d c ∧ SortedIn (ltD N dep) a b c ∧ w' = (putRow (encF N) w blk off c).drewN q := by
  refine (Try.insertionSortCmpFunc_one (encF N) (fun _ => rfl) (cfD N dep) 60 #[cv] blk off cap a b d w enters60 hcmp hH h1 hb (by omega)).mono ?_
  rintro e w' ⟨rfl, q, rfl⟩
  have h := insertionSort_holds (lt := ltOf (cfD N dep)) (swo_ltD N dep) d a b h1 hb
  exact ⟨rfl, _, q, h.1, h.2, rfl⟩
/-- The first pass, under way. -/
def PassI {N : Nat} (dep : Fin (N + 1) → Int) (d c : Array (Fin (N + 1))) (a : Nat) : Prop := PermIn 0 d.size d c ∧ AheadIn (ltD N dep) 20 d.size a c
/-- A merging pass, under way. -/
def HalfI {N : Nat} (dep : Fin (N + 1) → Int) (d c : Array (Fin (N + 1))) (bs a : Nat) : Prop := PermIn 0 d.size d c ∧ HalfIn (ltD N dep) bs d.size a c
/-- Between two passes. -/
def RestI {N : Nat} (dep : Fin (N + 1) → Int) (d c : Array (Fin (N + 1))) (bs : Nat) : Prop := PermIn 0 d.size d c ∧ BlocksIn (ltD N dep) bs d.size c
def SortEnd {N : Nat} (dep : Fin (N + 1) → Int) (blk off : Nat) (d : Array (Fin (N + 1))) (w : World) (e : Ending) (w' : World) : Prop :=
  e = .returned (.tuple #[]) ∧ ∃ (c : Array (Fin (N + 1))) (q : Nat), PermIn 0 d.size d c ∧ SortedIn (ltD N dep) 0 d.size c ∧ w' = (putRow (encF N) w blk off c).drewN q
set_option maxHeartbeats 4000000 in
set_option maxRecDepth 1000000 in
theorem stable_any (N : Nat) (dep : Fin (N + 1) → Int) (cv : Value) (blk off cap : Nat) (d : Array (Fin (N + 1))) (w : World) (hsz : d.size < 1125899906842624) (hcmp : CmpD N dep cv blk off d.size w) (hH : Holds (encF N) w blk off d) (h0 : 0 < d.size) :
    Calls Try.prog 64 #[.slice (some ⟨blk, off, none⟩) d.size cap, .int .i64 d.size, .func (.func 60) #[] #[cv]] w (SortEnd dep blk off d w) := by
  have HST : Hid (w = (putRow (encF N) w blk off d).drewN 0) := (putRow_self (encF N) w blk off d hH).symm
  have HH : Hid (Holds (encF N) w blk off d) := hH
  have HL : Hid (blk < w.heap.size) := holds_lt hH h0
  have HC := Lib.hid hcmp
  have HZ : Hid (d.size < 1152921504606846976) := Nat.lt_trans hsz (by decide)
  clear hH hcmp
  obtain ⟨n, hn⟩ : ∃ n, d.size = n := ⟨_, rfl⟩
  have HN := Lib.hid hn
  rw [hn] at h0 hsz HC ⊢
  clear hn
  go_enter Try.func64, Try.ntmps64
  go_wp2
  go_loopg [7, 8] n (fun g1 va vb wr => ∃ (a q : Nat) (c : Array (Fin (N + 1))), va = .int .i64 a ∧ vb = .int .i64 (a + 20 : Nat) ∧ a ≤ n ∧ n - a ≤ g1 ∧ Hid (PassI dep d c a) ∧ wr = (putRow (encF N) w blk off c).drewN q)
  case atStart => exact ⟨0, 0, d, rfl, rfl, Nat.zero_le _, Nat.le_refl _, ⟨permIn_refl _ _ _, ahead_start _ (by omega) _ _⟩, HST.out⟩
  case round =>
    obtain ⟨a, q, c, rfl, rfl, han, hg1, HI, rfl⟩ := hrel
    have hcs := HI.out.1.1.trans HN.out
    have HQ : Hid (Holds (encF N) ((putRow (encF N) w blk off c).drewN q) blk off c) := holds_again _ _ _ _ _ _ _ HH.out HI.out.1.1
    have HC2 : Hid (CmpD N dep cv blk off c.size ((putRow (encF N) w blk off c).drewN q)) := by rw [hcs]; exact HC.out.again HL.out c hcs q
    have HCS := Lib.hid hcs
    clear hcs
    generalize hwq : (putRow (encF N) w blk off c).drewN q = wq at HQ HC2 ⊢
    have HW := Lib.hid hwq
    clear hwq
    by_cases hlt : a + 20 ≤ n
    · have hltz : ((a : Int) + 20) ≤ (n : Int) := by omega
      have hM := insert_any N dep cv blk off cap a (a + 20) c wq (by rw [HCS.out]; have := HZ.out; have := HN.out; omega) HC2.out HQ.out (by omega) (by rw [HCS.out]; exact hlt)
      rw [HCS.out] at hM
      have HM := Lib.hid hM
      clear hM
      go_wp2_with fail
      refine HM.out.mono ?_
      rintro e w' ⟨rfl, c1, q', p1, p2, rfl⟩
      have hid : Hid (PassI dep d c1 (a + 20)) := ⟨permIn_trans _ _ _ _ _ HI.out.1 (permIn_mono _ _ _ _ _ _ (Nat.zero_le _) (by rw [HN.out]; exact hlt) (by rw [HN.out, HCS.out]; exact Nat.le_refl _) p1), ahead_step (by omega) (by rw [HN.out]; exact hlt) HI.out.2 p1 p2⟩
      have hp1 := Lib.hid p1.1
      clear p1 p2
      go_wp2
      go_roundg (n - (a + 20))
      case measure => omega
      case rel => exact ⟨a + 20, q + q', c1, by go_num, by go_num, hlt, Nat.le_refl _, hid, by rw [← HW.out]; exact put_again _ _ _ _ _ _ _ _ hp1.out⟩
    · have hltz : ¬ ((a : Int) + 20) ≤ (n : Int) := by omega
      have hM := insert_any N dep cv blk off cap a n c wq (by rw [HCS.out]; have := HZ.out; have := HN.out; omega) HC2.out HQ.out (by omega) (by rw [HCS.out]; exact Nat.le_refl _)
      rw [HCS.out] at hM
      have HM := Lib.hid hM
      clear hM
      go_wp2_with fail
      refine HM.out.mono ?_
      rintro e w' ⟨rfl, c1, q', p1, p2, rfl⟩
      have hid : Hid (RestI dep d c1 20) := ⟨permIn_trans _ _ _ _ _ HI.out.1 (permIn_mono _ _ _ _ _ _ (Nat.zero_le _) (by rw [HN.out]; exact Nat.le_refl _) (by rw [HN.out, HCS.out]; exact Nat.le_refl _) p1), by rw [HN.out]; exact ahead_end (by omega) (by omega) han (by rw [← HN.out]; exact HI.out.2) p1 p2⟩
      have hwn : Hid ((putRow (encF N) wq blk off c1).drewN q' = (putRow (encF N) w blk off c1).drewN (q + q')) := by show _ = _; rw [← HW.out]; exact put_again _ _ _ _ _ _ _ _ p1.1
      clear p1 p2 HQ HC2 HI HCS
      generalize hw1 : (putRow (encF N) wq blk off c1).drewN q' = w1 at hwn ⊢
      clear hw1 HW
      go_wp2
      go_loopg [6] (n + 20) (fun g1 vs wr => ∃ (bs q : Nat) (c : Array (Fin (N + 1))), vs = .int .i64 bs ∧ 20 ≤ bs ∧ bs ≤ n + n + 20 ∧ n + 20 - bs ≤ g1 ∧ Hid (RestI dep d c bs) ∧ wr = (putRow (encF N) w blk off c).drewN q)
      case atStart => exact ⟨20, q + q', c1, rfl, Nat.le_refl _, by omega, by omega, hid, hwn.out⟩
      case round =>
        clear hwn hid q q' c1
        obtain ⟨bs, q, c, rfl, hb1, hb2, hg1, HI, rfl⟩ := hrel
        by_cases hbn : bs < n
        · have hbz : (bs : Int) < (n : Int) := by omega
          have HA : Hid (HalfI dep d c bs 0) := ⟨HI.out.1, half_start (by omega) HI.out.2⟩
          clear HI
          go_wp2
          go_loopg [7, 8] n (fun g2 va vb wr => ∃ (a q : Nat) (c : Array (Fin (N + 1))), va = .int .i64 a ∧ vb = .int .i64 (a + 2 * bs : Nat) ∧ a ≤ n ∧ n - a ≤ g2 ∧ Hid (HalfI dep d c bs a) ∧ wr = (putRow (encF N) w blk off c).drewN q)
          case atStart => exact ⟨0, q, c, rfl, by go_num, Nat.zero_le _, Nat.le_refl _, HA, rfl⟩
          case round =>
            clear HA
            obtain ⟨a, q, c, rfl, rfl, han, hg2, HI, rfl⟩ := hrel
            have hcs := HI.out.1.1.trans HN.out
            have HQ : Hid (Holds (encF N) ((putRow (encF N) w blk off c).drewN q) blk off c) := holds_again _ _ _ _ _ _ _ HH.out HI.out.1.1
            have HC2 : Hid (CmpD N dep cv blk off c.size ((putRow (encF N) w blk off c).drewN q)) := by rw [hcs]; exact HC.out.again HL.out c hcs q
            have HCS := Lib.hid hcs
            have HTw : Hid (SortedIn (ltD N dep) a (min (a + bs) n) c ∧ SortedIn (ltD N dep) (a + bs) (min (a + 2 * bs) n) c) := by
              have := half_two (by omega) HI.out.2
              rw [HN.out] at this
              exact this
            clear hcs
            generalize hwq : (putRow (encF N) w blk off c).drewN q = wq at HQ HC2 ⊢
            have HW := Lib.hid hwq
            clear hwq
            by_cases hlt : a + 2 * bs ≤ n
            · have hltz : ((a : Int) + 2 * (bs : Int)) ≤ (n : Int) := by omega
              have hM := merge_any N dep cv blk off cap a (a + bs) (a + 2 * bs) c wq (by rw [HCS.out]; have := HZ.out; have := HN.out; omega) HC2.out HQ.out (by omega) (by omega) (by rw [HCS.out]; exact hlt) (by have := HTw.out.1; rwa [Nat.min_eq_left (by omega)] at this) (by have := HTw.out.2; rwa [Nat.min_eq_left hlt] at this)
              unfold MergeOk at hM
              rw [HCS.out] at hM
              have HM := Lib.hid hM
              clear hM
              go_wp2_with fail
              refine HM.out.mono ?_
              rintro e w' ⟨rfl, c1, q', p1, p2, rfl⟩
              have hid : Hid (HalfI dep d c1 bs (a + 2 * bs)) := ⟨permIn_trans _ _ _ _ _ HI.out.1 (permIn_mono _ _ _ _ _ _ (Nat.zero_le _) (by rw [HN.out]; exact hlt) (by rw [HN.out, HCS.out]; exact Nat.le_refl _) p1), half_step (by omega) (by rw [HN.out]; exact hlt) HI.out.2 p1 p2⟩
              have hp1 := Lib.hid p1.1
              clear p1 p2
              go_wp2
              go_roundg (n - (a + 2 * bs))
              case measure => omega
              case rel => exact ⟨a + 2 * bs, q + q', c1, by go_num, by go_num, hlt, Nat.le_refl _, hid, by rw [← HW.out]; exact put_again _ _ _ _ _ _ _ _ hp1.out⟩
            · have hltz : ¬ ((a : Int) + 2 * (bs : Int)) ≤ (n : Int) := by omega
              by_cases hm : a + bs < n
              · have hmz : (a : Int) + (bs : Int) < (n : Int) := by omega
                have hM := merge_any N dep cv blk off cap a (a + bs) n c wq (by rw [HCS.out]; have := HZ.out; have := HN.out; omega) HC2.out HQ.out (by omega) hm (by rw [HCS.out]; exact Nat.le_refl _) (by have := HTw.out.1; rwa [Nat.min_eq_left (by omega)] at this) (by have := HTw.out.2; rwa [Nat.min_eq_right (by omega)] at this)
                unfold MergeOk at hM
                rw [HCS.out] at hM
                have HM := Lib.hid hM
                clear hM
                go_wp2_with fail
                refine HM.out.mono ?_
                rintro e w' ⟨rfl, c1, q', p1, p2, rfl⟩
                have hid : Hid (RestI dep d c1 (2 * bs)) := ⟨permIn_trans _ _ _ _ _ HI.out.1 (permIn_mono _ _ _ _ _ _ (Nat.zero_le _) (by rw [HN.out]; exact Nat.le_refl _) (by rw [HN.out, HCS.out]; exact Nat.le_refl _) p1), by rw [HN.out]; exact half_end (by omega) (by omega) han (by rw [← HN.out]; exact HI.out.2) p1 p2⟩
                have hp1 := Lib.hid p1.1
                clear p1 p2
                go_wp2
                go_roundg (n + 20 - 2 * bs)
                case measure => omega
                case rel => exact ⟨2 * bs, q + q', c1, by first | go_num | (congr 1; omega), by omega, by omega, Nat.le_refl _, hid, by rw [← HW.out]; exact put_again _ _ _ _ _ _ _ _ hp1.out⟩
              · have hmz : ¬ (a : Int) + (bs : Int) < (n : Int) := by omega
                have hid : Hid (RestI dep d c (2 * bs)) := ⟨HI.out.1, by rw [HN.out]; exact half_end (by omega) (by omega) han (by rw [← HN.out]; exact HI.out.2) (permIn_refl _ _ _) (by have := HTw.out.1; rwa [Nat.min_eq_right (by omega)] at this)⟩
                go_wp2
                go_roundg (n + 20 - 2 * bs)
                case measure => omega
                case rel => exact ⟨2 * bs, q, c, by first | go_num | (congr 1; omega), by omega, by omega, Nat.le_refl _, hid, HW.out.symm⟩
        · have hbz : ¬ (bs : Int) < (n : Int) := by omega
          go_wp2
          go_end0
          exact ⟨rfl, c, q, HI.out.1, blocks_whole HI.out.2 (by rw [HN.out]; omega), rfl⟩
theorem sortStable_any (N : Nat) (dep : Fin (N + 1) → Int) (cv : Value) (blk off cap : Nat) (d : Array (Fin (N + 1))) (w : World) (hsz : d.size < 1125899906842624) (hcmp : CmpD N dep cv blk off d.size w) (hH : Holds (encF N) w blk off d) (h0 : 0 < d.size) :
    Calls Try.prog 59 #[.slice (some ⟨blk, off, none⟩) d.size cap, .func (.func 60) #[] #[cv]] w (SortEnd dep blk off d w) := by
  have hM := Lib.hid (stable_any N dep cv blk off cap d w hsz hcmp hH h0)
  clear hsz hcmp hH h0
  go_enter Try.func59, Try.ntmps59
  go_wp2_with fail
  refine hM.out.mono ?_
  rintro e w' ⟨rfl, h⟩
  go_wp2
  go_end0
  exact ⟨rfl, h⟩
end Go.Proofs.Ytdciniefkodeaaa.PAll
