/- Go's stable sort by depth, walked: two sorted blocks merged in place, one of them a single element (slices.symMergeCmpFunc). -/
import Derived.Shelf.SlSortCmp.Insertion
import Derived.IntWalk
import Derived.Test.YtdciniefkodeaaaQPl7HSort1
set_option linter.unusedVariables false
set_option linter.unusedSimpArgs false
namespace Go.Proofs.Ytdciniefkodeaaa.PAll
open Go.Sort Go.RowKit
theorem enters60 : ∀ args w, (callFunc 60 args).run Try.prog w = .ok (.enter 60 args) w := enters_of Try.func60 (by kernel_rfl) rfl
/-- What the sort compares by: depths. -/
def cfD (N : Nat) (dep : Fin (N + 1) → Int) (x y : Fin (N + 1)) : Int := dep x - dep y
/-- The comparing closure, bound to cv, in every world that the sort passes through. -/
def CmpD (N : Nat) (dep : Fin (N + 1) → Int) (cv : Value) (blk off size : Nat) (w : World) : Prop := CmpReads Try.prog 60 #[cv] (encF N) (cfD N dep) blk off size w
def ltD (N : Nat) (dep : Fin (N + 1) → Int) : Fin (N + 1) → Fin (N + 1) → Bool := ltOf (cfD N dep)
theorem swo_ltD (N : Nat) (dep : Fin (N + 1) → Int) : SWO (ltD N dep) := by
  refine ⟨fun x => ?_, fun x y z h1 h2 => ?_, fun x y z h1 h2 => ?_⟩
  · simp [ltD, ltOf, cfD]
  · have h1 := of_decide_eq_true h1; have h2 := of_decide_eq_true h2; unfold cfD at h1 h2; refine decide_eq_true ?_; unfold cfD; omega
  · have h1 := of_decide_eq_false h1; have h2 := of_decide_eq_false h2; unfold cfD at h1 h2; refine decide_eq_false ?_; unfold cfD; omega
theorem CmpD.at' {N : Nat} {dep : Fin (N + 1) → Int} {cv : Value} {blk off size : Nat} {w : World} (h : CmpD N dep cv blk off size w) (X : Array (Fin (N + 1))) (hX : X.size = size) (m n : Nat) (x y : Fin (N + 1)) :
    Calls Try.prog 60 #[encF N x, encF N y, cv] (((putRow (encF N) w blk off X).drewN m).drewN n) fun e w' => e = .returned (.int .i64 (cfD N dep x y)) ∧ ∃ q, w' = (((putRow (encF N) w blk off X).drewN m).drewN n).drewN q := by
  have := h (m + n) #[] X hX x y
  rw [sortWorld_none, ← World.drewN_drewN] at this
  exact this
theorem CmpD.again {N : Nat} {dep : Fin (N + 1) → Int} {cv : Value} {blk off size : Nat} {w : World} (h : CmpD N dep cv blk off size w) (hblk : blk < w.heap.size) (X : Array (Fin (N + 1))) (hX : X.size = size) (m : Nat) : CmpD N dep cv blk off size ((putRow (encF N) w blk off X).drewN m) := by
  intro n os dk hdk x y
  have := h (m + n) (#[] ++ os) dk hdk x y
  rw [← sortWorld_on (encF N) w blk off m n X dk #[] os hblk (hdk.trans hX.symm), sortWorld_none] at this
  exact this
theorem holds_lt {α : Type} [Inhabited α] {enc : α → Value} {w : World} {blk off : Nat} {d : Array α} (h : Holds enc w blk off d) (h0 : 0 < d.size) : blk < w.heap.size := World.block_lt_of_cell? _ _ (h 0 h0).1
theorem srch_up_all {α : Type} [Inhabited α] {lt : α → α → Bool} (hS : SWO lt) {lo b i : Nat} {d : Array α} {x : α} (hs : SortedIn lt lo b d) (h : Srch (fun k => lt d[k]! x) lo b i i) :
    (∀ k, lo ≤ k → k < i → lt d[k]! x = true) ∧ ∀ k, i ≤ k → k < b → lt d[k]! x = false := by
  obtain ⟨h1, _, h2, h3, h4⟩ := h
  refine ⟨fun k k1 k2 => ?_, fun k k1 k2 => ?_⟩
  · have hp : lt d[i - 1]! x = true := h3 (by omega)
    rcases Nat.eq_or_lt_of_le (show k ≤ i - 1 by omega) with e | e
    · rw [e]; exact hp
    · cases hk : lt d[k]! x
      · have := hS.ntrans _ _ _ (hs k (i - 1) k1 e (by omega)) hk
        rw [hp] at this; cases this
      · rfl
  · have hp : lt d[i]! x = false := h4 (by omega)
    rcases Nat.eq_or_lt_of_le k1 with e | e
    · rw [← e]; exact hp
    · exact hS.ntrans _ _ _ (hs i k h1 e k2) hp
theorem srch_down_all {α : Type} [Inhabited α] {lt : α → α → Bool} (hS : SWO lt) {a m i : Nat} {d : Array α} {x : α} (hs : SortedIn lt a m d) (h : Srch (fun k => !lt x d[k]!) a m i i) :
    (∀ k, a ≤ k → k < i → lt x d[k]! = false) ∧ ∀ k, i ≤ k → k < m → lt x d[k]! = true := by
  obtain ⟨h1, _, h2, h3, h4⟩ := h
  refine ⟨fun k k1 k2 => ?_, fun k k1 k2 => ?_⟩
  · have hp : lt x d[i - 1]! = false := by simpa using h3 (by omega)
    rcases Nat.eq_or_lt_of_le (show k ≤ i - 1 by omega) with e | e
    · rw [e]; exact hp
    · exact hS.ntrans _ _ _ hp (hs k (i - 1) k1 e (by omega))
  · have hp : lt x d[i]! = true := by simpa using h4 (by omega)
    rcases Nat.eq_or_lt_of_le k1 with e | e
    · rw [← e]; exact hp
    · cases hk : lt x d[k]!
      · have := hS.ntrans _ _ _ hk (hs i k h1 e k2)
        rw [hp] at this; cases this
      · rfl
def UpI {α : Type} [Inhabited α] (d c : Array α) (a b t : Nat) : Prop := c.size = d.size ∧ PermIn a b d c ∧ ∀ j, c[j]! = upF d a t j
def DownI {α : Type} [Inhabited α] (d c : Array α) (a m t : Nat) : Prop := c.size = d.size ∧ PermIn a (m + 1) d c ∧ ∀ j, c[j]! = downF d m t j
set_option maxHeartbeats 4000000 in
set_option maxRecDepth 1000000 in
theorem mergeUp_any (N : Nat) (dep : Fin (N + 1) → Int) (cv : Value) (blk off cap a b : Nat) (d : Array (Fin (N + 1))) (w : World) (hcmp : CmpD N dep cv blk off d.size w) (hH : Holds (encF N) w blk off d) (h2 : a + 1 < b) (hb : b ≤ d.size) (hsz : d.size < 4611686018427387904)
    (hs : SortedIn (ltD N dep) (a + 1) b d) :
    Calls Try.prog 68 #[.slice (some ⟨blk, off, none⟩) d.size cap, .int .i64 a, .int .i64 (a + 1 : Nat), .int .i64 b, .func (.func 60) #[] #[cv]] w fun e w' =>
      e = .returned (.tuple #[]) ∧ ∃ (c : Array (Fin (N + 1))) (q : Nat), PermIn a b d c ∧ SortedIn (ltD N dep) a b c ∧ w' = (putRow (encF N) w blk off c).drewN q := by
  have HST : Hid (w = (putRow (encF N) w blk off d).drewN 0) := (putRow_self (encF N) w blk off d hH).symm
  have HH : Hid (Holds (encF N) w blk off d) := hH
  have HS := Lib.hid hs
  have HC := Lib.hid hcmp
  clear hH hs hcmp
  obtain ⟨m, hm⟩ : ∃ m, m = a + 1 := ⟨_, rfl⟩
  have HM := Lib.hid hm
  rw [← hm] at h2 HS ⊢
  have hma : IntKind.i64.wrap ((m : Int) - (a : Int)) = 1 := by rw [IntKind.wrap_i64]; omega
  have hma2 : (m : Int) - (a : Int) = 1 := by omega
  have hzz : ((m : Int) - (a : Int) == 1) = true := by simp [hma2]
  have ham : a < m := by omega
  clear hm hma2
  have eg := enters60
  go_enter Try.func68, Try.ntmps68
  go_wp2
  go_loopg [10, 11] (b - m) (fun g1 vi vj wr => ∃ (i j q : Nat), vi = .int .i64 i ∧ vj = .int .i64 j ∧ j - i ≤ g1 ∧ m ≤ i ∧ i ≤ j ∧ j ≤ b ∧ Hid (Srch (fun k => ltD N dep d[k]! d[a]!) m b i j) ∧ wr = (putRow (encF N) w blk off d).drewN q)
  case atStart => exact ⟨m, b, 0, rfl, rfl, Nat.le_refl _, Nat.le_refl _, by omega, Nat.le_refl _, srch_start _ (by omega), HST.out⟩
  case round =>
    obtain ⟨i, j, q, rfl, rfl, hg1, hmi, hij, hjb, HI, rfl⟩ := hrel
    by_cases hlt : i < j
    · obtain ⟨h, hh⟩ : ∃ h, h = (i + j) / 2 := ⟨_, rfl⟩
      have e1 : IntKind.u64.wrap ((i : Int) + (j : Int)) = (i : Int) + (j : Int) := by rw [IntKind.wrap_u64]; omega
      have e2 : ((i : Int) + (j : Int)) / 2 = (h : Int) := by omega
      have b1 : i ≤ h ∧ h < j := by omega
      clear hh
      obtain ⟨xh, hxh⟩ : ∃ x, d[h]! = x := ⟨_, rfl⟩
      obtain ⟨xa, hxa⟩ : ∃ x, d[a]! = x := ⟨_, rfl⟩
      obtain ⟨ch, fh⟩ := holds_again _ w blk off d d q HH.out rfl h (by omega)
      obtain ⟨ca, fa⟩ := holds_again _ w blk off d d q HH.out rfl a (by omega)
      have hc := fun n => HC.out.at' d rfl q n xh xa
      rw [hxh] at ch
      rw [hxa] at ca
      have HX : Hid (d[h]! = xh ∧ d[a]! = xa) := ⟨hxh, hxa⟩
      clear hxh hxa fh fa
      have lh : (h : Int) < (d.size : Int) := by omega
      have la : (a : Int) < (d.size : Int) := by omega
      obtain ⟨cv', hcv⟩ : ∃ v, cfD N dep xh xa = v := ⟨_, rfl⟩
      rw [hcv] at hc
      have HV := Lib.hid hcv
      clear hcv
      generalize hwq : (putRow (encF N) w blk off d).drewN q = wq at ch ca hc ⊢
      have HW := Lib.hid hwq
      clear hwq
      by_cases hlv : cv' < 0
      · go_wp2_with fail
        go_quiet ((go_at_fn 60; refine Calls.quiet_of (hc _)))
        go_wp2
        go_roundg (j - (h + 1))
        case measure => omega
        case rel => exact ⟨h + 1, j, q + nq, by go_num, by go_num, Nat.le_refl _, by omega, by omega, hjb, srch_up HI.out b1.1 b1.2 (by show ltD N dep d[h]! d[a]! = true; rw [HX.out.1, HX.out.2]; exact decide_eq_true (by rw [HV.out]; omega)), by rw [← HW.out, World.drewN_drewN]⟩
      · go_wp2_with fail
        go_quiet ((go_at_fn 60; refine Calls.quiet_of (hc _)))
        go_wp2
        go_roundg (h - i)
        case measure => omega
        case rel => exact ⟨i, h, q + nq, by go_num, by go_num, Nat.le_refl _, hmi, b1.1, by omega, srch_down HI.out b1.1 b1.2 (by show ltD N dep d[h]! d[a]! = false; rw [HX.out.1, HX.out.2]; exact decide_eq_false (by rw [HV.out]; omega)), by rw [← HW.out, World.drewN_drewN]⟩
    · obtain rfl : i = j := by omega
      obtain ⟨p, rfl⟩ : ∃ p, i = p + 1 := ⟨i - 1, by omega⟩
      have hap : a ≤ p := by omega
      have HU : Hid (UpI d d a b a) := ⟨rfl, permIn_refl _ _ _, up_start d a⟩
      go_wp2
      go_loopg [13] (p - a) (fun g1 vk wr => ∃ (k q : Nat) (c : Array (Fin (N + 1))), vk = .int .i64 k ∧ p - k ≤ g1 ∧ a ≤ k ∧ k ≤ p ∧ Hid (UpI d c a b k) ∧ wr = (putRow (encF N) w blk off c).drewN q)
      case atStart => exact ⟨a, q, d, by go_num, Nat.le_refl _, Nat.le_refl _, hap, HU, rfl⟩
      case round =>
        obtain ⟨k, q, c, rfl, hg1, hak, hkp, HU, rfl⟩ := hrel
        by_cases hlt : k < p
        · have hkz : (k : Int) < (p : Int) := by omega
          have hcs := HU.out.1
          obtain ⟨xk, hxk⟩ : ∃ x, c[k]! = x := ⟨_, rfl⟩
          obtain ⟨xn, hxn⟩ : ∃ x, c[k + 1]! = x := ⟨_, rfl⟩
          obtain ⟨ck, fk⟩ := holds_again _ w blk off d c q HH.out hcs k (by omega)
          obtain ⟨cn, fn⟩ := holds_again _ w blk off d c q HH.out hcs (k + 1) (by omega)
          rw [hxk] at ck
          rw [hxn] at cn
          have HX : Hid (c[k]! = xk ∧ c[k + 1]! = xn) := ⟨hxk, hxn⟩
          clear hxk hxn
          obtain ⟨k1, hk1⟩ : ∃ k1, k1 = k + 1 := ⟨_, rfl⟩
          rw [← hk1] at cn fn
          have s1 : IntKind.i64.wrap ((k : Int) + 1) = (k1 : Int) := by rw [IntKind.wrap_i64]; omega
          have l1 : (k1 : Int) < (d.size : Int) := by omega
          have l2 : (k : Int) < (d.size : Int) := by omega
          have hne : k ≠ k1 := by omega
          have K1 := Lib.hid hk1
          clear hk1 hcs
          generalize hwq : (putRow (encF N) w blk off c).drewN q = wq at ck cn fk fn ⊢
          have HW := Lib.hid hwq
          clear hwq
          go_wp2_with fail
          go_region
          all_goals go_wp2
          go_roundg (p - (k + 1))
          case measure => omega
          case rel =>
            have hst := up_step d c a k b hak HU.out.1 (by omega) hb HU.out.2.1 HU.out.2.2
            refine ⟨k + 1, q + 1, swp c k (k + 1), by first | go_num | rw [K1.out] | (rw [K1.out]; go_num), Nat.le_refl _, by omega, by omega, hst, ?_⟩
            have := swap_worldC (encF N) w blk off c q k (k + 1) (by rw [HU.out.1]; omega) (by rw [HU.out.1]; omega)
            rw [HX.out.1, HX.out.2] at this
            rw [← HW.out, K1.out]
            exact this
        · obtain rfl : k = p := by omega
          go_wp2
          refine bodyPost_ret (v := .tuple #[]) (results_none rfl _ _ _) rfl ?_
          have hM := HM.out
          have hA := srch_up_all (swo_ltD N dep) HS.out HI.out
          exact ⟨rfl, c, q, HU.out.2.1, up_sorted (swo_ltD N dep) d c a b (k + 1) (by omega) hjb (by rw [← hM]; exact HS.out) (fun k h => hA.1 k (by omega)) hA.2 HU.out.2.2, rfl⟩
set_option maxHeartbeats 4000000 in
set_option maxRecDepth 1000000 in
theorem mergeDown_any (N : Nat) (dep : Fin (N + 1) → Int) (cv : Value) (blk off cap a m : Nat) (d : Array (Fin (N + 1))) (w : World) (hcmp : CmpD N dep cv blk off d.size w) (hH : Holds (encF N) w blk off d) (h1 : a + 1 < m) (hb : m + 1 ≤ d.size) (hsz : d.size < 4611686018427387904)
    (hs : SortedIn (ltD N dep) a m d) :
    Calls Try.prog 68 #[.slice (some ⟨blk, off, none⟩) d.size cap, .int .i64 a, .int .i64 m, .int .i64 (m + 1 : Nat), .func (.func 60) #[] #[cv]] w fun e w' =>
      e = .returned (.tuple #[]) ∧ ∃ (c : Array (Fin (N + 1))) (q : Nat), PermIn a (m + 1) d c ∧ SortedIn (ltD N dep) a (m + 1) c ∧ w' = (putRow (encF N) w blk off c).drewN q := by
  have HST : Hid (w = (putRow (encF N) w blk off d).drewN 0) := (putRow_self (encF N) w blk off d hH).symm
  have HH : Hid (Holds (encF N) w blk off d) := hH
  have HS := Lib.hid hs
  have HC := Lib.hid hcmp
  clear hH hs hcmp
  obtain ⟨b, hbm⟩ : ∃ b, b = m + 1 := ⟨_, rfl⟩
  have HB := Lib.hid hbm
  rw [← hbm] at hb ⊢
  have hmb : m < b := by omega
  have hma : IntKind.i64.wrap ((m : Int) - (a : Int)) = (m : Int) - (a : Int) := by rw [IntKind.wrap_i64]; omega
  have hz0 : ((m : Int) - (a : Int) == 1) = false := by rw [beq_eq_false_iff_ne]; omega
  have hbm1 : IntKind.i64.wrap ((b : Int) - (m : Int)) = 1 := by rw [IntKind.wrap_i64]; omega
  have hbm2 : (b : Int) - (m : Int) = 1 := by omega
  have hzz : ((b : Int) - (m : Int) == 1) = true := by simp [hbm2]
  have ham : a < m := by omega
  obtain ⟨xm, hxm⟩ : ∃ x, d[m]! = x := ⟨_, rfl⟩
  have HXM := Lib.hid hxm
  clear hbm hbm2 hxm
  have eg := enters60
  go_enter Try.func68, Try.ntmps68
  go_wp2
  go_loopg [14, 15] (m - a) (fun g1 vi vj wr => ∃ (i j q : Nat), vi = .int .i64 i ∧ vj = .int .i64 j ∧ j - i ≤ g1 ∧ a ≤ i ∧ i ≤ j ∧ j ≤ m ∧ Hid (Srch (fun k => !ltD N dep xm d[k]!) a m i j) ∧ wr = (putRow (encF N) w blk off d).drewN q)
  case atStart => exact ⟨a, m, 0, rfl, rfl, Nat.le_refl _, Nat.le_refl _, by omega, Nat.le_refl _, srch_start _ (by omega), HST.out⟩
  case round =>
    obtain ⟨i, j, q, rfl, rfl, hg1, hai, hij, hjm, HI, rfl⟩ := hrel
    by_cases hlt : i < j
    · obtain ⟨h, hh⟩ : ∃ h, h = (i + j) / 2 := ⟨_, rfl⟩
      have e1 : IntKind.u64.wrap ((i : Int) + (j : Int)) = (i : Int) + (j : Int) := by rw [IntKind.wrap_u64]; omega
      have e2 : ((i : Int) + (j : Int)) / 2 = (h : Int) := by omega
      have b1 : i ≤ h ∧ h < j := by omega
      clear hh
      obtain ⟨xh, hxh⟩ : ∃ x, d[h]! = x := ⟨_, rfl⟩
      obtain ⟨ch, fh⟩ := holds_again _ w blk off d d q HH.out rfl h (by omega)
      obtain ⟨cm, fm⟩ := holds_again _ w blk off d d q HH.out rfl m (by omega)
      have hc := fun n => HC.out.at' d rfl q n xm xh
      rw [hxh] at ch
      rw [HXM.out] at cm
      have HX := Lib.hid hxh
      clear hxh fh fm
      have lh : (h : Int) < (d.size : Int) := by omega
      have lm : (m : Int) < (d.size : Int) := by omega
      obtain ⟨cv', hcv⟩ : ∃ v, cfD N dep xm xh = v := ⟨_, rfl⟩
      rw [hcv] at hc
      have HV := Lib.hid hcv
      clear hcv
      generalize hwq : (putRow (encF N) w blk off d).drewN q = wq at ch cm hc ⊢
      have HW := Lib.hid hwq
      clear hwq
      by_cases hlv : cv' < 0
      · go_wp2_with fail
        go_quiet ((go_at_fn 60; refine Calls.quiet_of (hc _)))
        go_wp2
        all_goals
          go_roundg (h - i)
          case measure => omega
          case rel => exact ⟨i, h, q + nq, by go_num, by go_num, Nat.le_refl _, hai, b1.1, by omega, srch_down HI.out b1.1 b1.2 (by show (!ltD N dep xm d[h]!) = false; rw [HX.out, show ltD N dep xm xh = true from decide_eq_true (by rw [HV.out]; exact hlv)]; rfl), by rw [← HW.out, World.drewN_drewN]⟩
      · have hd : (!decide (cv' < 0)) = true := by simp; omega
        go_wp2_with fail
        go_quiet ((go_at_fn 60; refine Calls.quiet_of (hc _)))
        go_wp2
        go_roundg (j - (h + 1))
        case measure => omega
        case rel => exact ⟨h + 1, j, q + nq, by go_num, by go_num, Nat.le_refl _, by omega, by omega, hjm, srch_up HI.out b1.1 b1.2 (by show (!ltD N dep xm d[h]!) = true; rw [HX.out, show ltD N dep xm xh = false from decide_eq_false (by rw [HV.out]; omega)]; rfl), by rw [← HW.out, World.drewN_drewN]⟩
    · obtain rfl : i = j := by omega
      have HU : Hid (DownI d d a m m) := ⟨rfl, permIn_refl _ _ _, down_start d m⟩
      go_wp2
      go_loopg [17] (m - i) (fun g1 vk wr => ∃ (k q : Nat) (c : Array (Fin (N + 1))), vk = .int .i64 k ∧ k - i ≤ g1 ∧ i ≤ k ∧ k ≤ m ∧ Hid (DownI d c a m k) ∧ wr = (putRow (encF N) w blk off c).drewN q)
      case atStart => exact ⟨m, q, d, by go_num, Nat.le_refl _, hjm, Nat.le_refl _, HU, rfl⟩
      case round =>
        obtain ⟨k, q, c, rfl, hg1, hik, hkm, HU, rfl⟩ := hrel
        by_cases hlt : i < k
        · obtain ⟨k0, hk0⟩ : ∃ k0, k = k0 + 1 := ⟨k - 1, by omega⟩
          have hcs := HU.out.1
          obtain ⟨xk, hxk⟩ : ∃ x, c[k]! = x := ⟨_, rfl⟩
          obtain ⟨xn, hxn⟩ : ∃ x, c[k0]! = x := ⟨_, rfl⟩
          obtain ⟨ck, fk⟩ := holds_again _ w blk off d c q HH.out hcs k (by omega)
          obtain ⟨cn, fn⟩ := holds_again _ w blk off d c q HH.out hcs k0 (by omega)
          rw [hxk] at ck
          rw [hxn] at cn
          have HX : Hid (c[k]! = xk ∧ c[k0]! = xn) := ⟨hxk, hxn⟩
          clear hxk hxn
          have s1 : IntKind.i64.wrap ((k : Int) - 1) = (k0 : Int) := by rw [IntKind.wrap_i64]; omega
          have l1 : (k0 : Int) < (d.size : Int) := by omega
          have l2 : (k : Int) < (d.size : Int) := by omega
          have hne : k ≠ k0 := by omega
          have hkz : (i : Int) < (k : Int) := by omega
          have K1 := Lib.hid hk0
          clear hk0 hcs
          generalize hwq : (putRow (encF N) w blk off c).drewN q = wq at ck cn fk fn ⊢
          have HW := Lib.hid hwq
          clear hwq
          go_wp2_with fail
          go_region
          all_goals go_wp2
          go_roundg (k0 - i)
          case measure => have := K1.out; omega
          case rel =>
            have hK := K1.out
            have hst := down_step d c m k0 a (by omega) HU.out.1 (by omega) (by omega) HU.out.2.1 (by rw [← hK]; exact HU.out.2.2)
            refine ⟨k0, q + 1, swp c (k0 + 1) k0, by first | go_num | (rw [hK]; go_num) | (congr 1; omega), Nat.le_refl _, by omega, by omega, hst, ?_⟩
            have := swap_worldC (encF N) w blk off c q (k0 + 1) k0 (by rw [HU.out.1]; omega) (by rw [HU.out.1]; omega)
            rw [← hK, HX.out.1, HX.out.2] at this
            rw [← HW.out, ← hK]
            exact this
        · obtain rfl : k = i := by omega
          go_wp2
          refine bodyPost_ret (v := .tuple #[]) (results_none rfl _ _ _) rfl ?_
          have hA := srch_down_all (swo_ltD N dep) HS.out HI.out
          rw [HB.out]
          exact ⟨rfl, c, q, HU.out.2.1, down_sorted (swo_ltD N dep) d c a m k hai hjm HS.out (by rw [HXM.out]; exact hA.1) (by rw [HXM.out]; exact hA.2) HU.out.2.2, rfl⟩
end Go.Proofs.Ytdciniefkodeaaa.PAll
