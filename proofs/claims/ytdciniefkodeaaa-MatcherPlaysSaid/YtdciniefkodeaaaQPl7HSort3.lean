/- Go's stable sort by depth, walked: two sorted blocks merged in place (slices.symMergeCmpFunc). -/
import Derived.Deep.DeepCutAuto
import Derived.Test.YtdciniefkodeaaaQPl7HSort2
set_option linter.unusedVariables false
set_option linter.unusedSimpArgs false
namespace Go.Proofs.Ytdciniefkodeaaa.PAll
open Go.Sort Go.RowKit
/-- What the merge does. -/
def MergeOk (N : Nat) (dep : Fin (N + 1) → Int) (cv : Value) (blk off cap a m b : Nat) (d : Array (Fin (N + 1))) (w : World) : Prop :=
  Calls Try.prog 68 #[.slice (some ⟨blk, off, none⟩) d.size cap, .int .i64 a, .int .i64 m, .int .i64 b, .func (.func 60) #[] #[cv]] w fun e w' =>
      e = .returned (.tuple #[]) ∧ ∃ (c : Array (Fin (N + 1))) (q : Nat), PermIn a b d c ∧ SortedIn (ltD N dep) a b c ∧ w' = (putRow (encF N) w blk off c).drewN q
def MergeAll (N : Nat) (dep : Fin (N + 1) → Int) (cv : Value) (blk off cap : Nat) (size l : Nat) : Prop :=
  ∀ (a m b : Nat) (d : Array (Fin (N + 1))) (w : World), d.size = size → b - a < l → CmpD N dep cv blk off size w → Holds (encF N) w blk off d → a < m → m < b → b ≤ size → SortedIn (ltD N dep) a m d → SortedIn (ltD N dep) m b d → MergeOk N dep cv blk off cap a m b d w
/-- This test is these two. -/
def Gd (B : Bool) (x y : Prop) : Prop := B = true ↔ (x ∧ y)
theorem gd_tt {x y : Prop} (h : x) (h' : y) : Gd true x y := ⟨fun _ => ⟨h, h'⟩, fun _ => rfl⟩
theorem gd_f1 {x y : Prop} (h : ¬ x) : Gd false x y := ⟨fun e => Bool.noConfusion e, fun e => absurd e.1 h⟩
theorem gd_f2 {x y : Prop} (h : ¬ y) : Gd false x y := ⟨fun e => Bool.noConfusion e, fun e => absurd e.2 h⟩
theorem gd_no {x y : Prop} (h : Gd false x y) : ¬ (x ∧ y) := fun e => Bool.noConfusion (h.2 e)
/-- Where the search begins. -/
def StartI (a m b mid lo hi : Nat) : Prop := (lo = a ∨ mid + m = b + lo) ∧ (hi = m ∨ hi = mid)
/-- The pieces are where they shall be. -/
def RotI {α : Type} [Inhabited α] (d c : Array α) (s m e : Nat) : Prop := c.size = d.size ∧ PermIn s e d c ∧ ∀ k, c[k]! = rotF d s m e k
theorem turn_of {α : Type} [Inhabited α] {lt : α → α → Bool} {d : Array α} {a m b mid lo hi s e : Nat} (hI : StartI a m b mid lo hi) (h1 : a ≤ lo) (h2 : hi ≤ m) (h3 : hi ≤ mid) (h4 : mid + m ≤ b + lo) (h : Srch (fun k => !lt d[mid + m - 1 - k]! d[k]!) lo hi s s) (he : e = mid + m - s) : Turn lt d a m b s e := by
  obtain ⟨g1, g2, g3, g4, g5⟩ := h
  obtain ⟨i1, i2⟩ := hI
  refine ⟨by omega, by omega, by omega, by omega, fun x y => ?_, fun x y => ?_⟩
  · have := g4 (by omega)
    simp only [Bool.not_eq_true'] at this
    rw [show mid + m - 1 - (s - 1) = e by omega] at this
    exact this
  · have := g5 (by omega)
    simp only [Bool.not_eq_false'] at this
    rw [show mid + m - 1 - s = e - 1 by omega] at this
    exact this
set_option maxHeartbeats 4000000 in
set_option maxRecDepth 1000000 in
theorem merge_step (N : Nat) (dep : Fin (N + 1) → Int) (cv : Value) (blk off cap a m b : Nat) (d : Array (Fin (N + 1))) (w : World) (ih : MergeAll N dep cv blk off cap d.size (b - a)) (hcmp : CmpD N dep cv blk off d.size w) (hH : Holds (encF N) w blk off d)
    (h1 : a + 1 < m) (h2 : m + 1 < b) (hb : b ≤ d.size) (hsz : d.size < 1152921504606846976) (s1 : SortedIn (ltD N dep) a m d) (s2 : SortedIn (ltD N dep) m b d) : MergeOk N dep cv blk off cap a m b d w := by
  unfold MergeOk
  have HST : Hid (w = (putRow (encF N) w blk off d).drewN 0) := (putRow_self (encF N) w blk off d hH).symm
  have HH : Hid (Holds (encF N) w blk off d) := hH
  have HL : Hid (blk < w.heap.size) := holds_lt hH (by omega)
  have HS1 := Lib.hid s1
  have HS2 := Lib.hid s2
  have HC := Lib.hid hcmp
  have IH := Lib.hid ih
  clear hH s1 s2 hcmp ih
  have hma : IntKind.i64.wrap ((m : Int) - (a : Int)) = (m : Int) - (a : Int) := by rw [IntKind.wrap_i64]; omega
  have hz0 : ((m : Int) - (a : Int) == 1) = false := by rw [beq_eq_false_iff_ne]; omega
  have hbm1 : IntKind.i64.wrap ((b : Int) - (m : Int)) = (b : Int) - (m : Int) := by rw [IntKind.wrap_i64]; omega
  have hz1 : ((b : Int) - (m : Int) == 1) = false := by rw [beq_eq_false_iff_ne]; omega
  obtain ⟨mid, hmid⟩ : ∃ mid, mid = (a + b) / 2 := ⟨_, rfl⟩
  have e1 : IntKind.u64.wrap ((a : Int) + (b : Int)) = (a : Int) + (b : Int) := by rw [IntKind.wrap_u64]; omega
  have e2 : ((a : Int) + (b : Int)) / 2 = (mid : Int) := by omega
  have e3 : IntKind.i64.wrap ((mid : Int) + (m : Int)) = (mid : Int) + (m : Int) := by rw [IntKind.wrap_i64]; omega
  have hm1 : a < mid ∧ mid < b ∧ (b - mid) ≤ (mid - a) + 1 ∧ (mid - a) ≤ b - mid := by omega
  clear hmid
  have eg := enters60
  have h12 : a < m ∧ m < b := ⟨by omega, by omega⟩
  have hp1 : IntKind.i64.wrap ((mid : Int) + (m : Int) - 1) = (mid : Int) + (m : Int) - 1 := by rw [IntKind.wrap_i64]; omega
  go_enter Try.func68, Try.ntmps68
  go_upto_if 140 with (fail)
  go_cut [20, 21] (fun v20 v21 wc => ∃ lo hi : Nat, v20 = .int .i64 lo ∧ v21 = .int .i64 hi ∧ a ≤ lo ∧ lo ≤ hi ∧ hi ≤ m ∧ hi ≤ mid ∧ mid + m ≤ b + lo ∧ Hid (StartI a m b mid lo hi) ∧ wc = w)
  case first =>
    by_cases hgt : mid < m
    · have hgz : (mid : Int) < (m : Int) := by omega
      have e4 : IntKind.i64.wrap ((mid : Int) + (m : Int) - (b : Int)) = ((mid + m - b : Nat) : Int) := by rw [IntKind.wrap_i64]; omega
      go_wp2
      go_meet
      exact ⟨mid + m - b, mid, by first | rfl | go_num | (congr 1; omega), by go_num, by omega, by omega, by omega, by omega, by omega, ⟨.inr (by omega), .inr rfl⟩, rfl⟩
    · have hgz : ¬ (mid : Int) < (m : Int) := by omega
      go_wp2
      go_meet
      exact ⟨a, m, by go_num, by go_num, by omega, by omega, by omega, by omega, by omega, ⟨.inl rfl, .inl rfl⟩, rfl⟩
  case rest =>
    obtain ⟨lo, hi, rfl, rfl, k1, k2, k3, k4, k5, KI, hwc⟩ := hcut
    obtain rfl := hwc.symm
    go_wp2
    go_loopg [20, 21] (hi - lo) (fun g1 vi vj wr => ∃ (i j q : Nat), vi = .int .i64 i ∧ vj = .int .i64 j ∧ j - i ≤ g1 ∧ lo ≤ i ∧ i ≤ j ∧ j ≤ hi ∧ Hid (Srch (fun k => !ltD N dep d[mid + m - 1 - k]! d[k]!) lo hi i j) ∧ wr = (putRow (encF N) w blk off d).drewN q)
    case atStart => exact ⟨lo, hi, 0, rfl, rfl, Nat.le_refl _, Nat.le_refl _, k2, Nat.le_refl _, srch_start _ k2, HST.out⟩
    case round =>
      obtain ⟨i, j, q, rfl, rfl, hg1, hli, hij, hjh, HI, rfl⟩ := hrel
      by_cases hlt : i < j
      · obtain ⟨h, hh⟩ : ∃ h, h = (i + j) / 2 := ⟨_, rfl⟩
        have e1 : IntKind.u64.wrap ((i : Int) + (j : Int)) = (i : Int) + (j : Int) := by rw [IntKind.wrap_u64]; omega
        have e2 : ((i : Int) + (j : Int)) / 2 = (h : Int) := by omega
        have b1 : i ≤ h ∧ h < j := by omega
        clear hh
        obtain ⟨r, hr⟩ : ∃ r, r = mid + m - 1 - h := ⟨_, rfl⟩
        have e5 : IntKind.i64.wrap ((mid : Int) + (m : Int) - 1 - (h : Int)) = (r : Int) := by rw [IntKind.wrap_i64]; omega
        have lr : (r : Int) < (d.size : Int) := by omega
        have HR := Lib.hid hr
        clear hr
        obtain ⟨xh, hxh⟩ : ∃ x, d[h]! = x := ⟨_, rfl⟩
        obtain ⟨xr, hxr⟩ : ∃ x, d[r]! = x := ⟨_, rfl⟩
        obtain ⟨ch, fh⟩ := holds_again _ w blk off d d q HH.out rfl h (by omega)
        obtain ⟨cr, fr⟩ := holds_again _ w blk off d d q HH.out rfl r (by omega)
        have hc := fun n => HC.out.at' d rfl q n xr xh
        rw [hxh] at ch
        rw [hxr] at cr
        have HX : Hid (d[h]! = xh ∧ d[r]! = xr) := ⟨hxh, hxr⟩
        clear hxh hxr fh fr
        have lh : (h : Int) < (d.size : Int) := by omega
        obtain ⟨cv', hcv⟩ : ∃ v, cfD N dep xr xh = v := ⟨_, rfl⟩
        rw [hcv] at hc
        have HV := Lib.hid hcv
        clear hcv
        generalize hwq : (putRow (encF N) w blk off d).drewN q = wq at ch cr hc ⊢
        have HW := Lib.hid hwq
        clear hwq
        by_cases hlv : cv' < 0
        · go_wp2_with fail
          go_quiet ((go_at_fn 60; refine Calls.quiet_of (hc _)))
          go_wp2
          go_roundg (h - i)
          case measure => omega
          case rel => exact ⟨i, h, q + nq, by go_num, by go_num, Nat.le_refl _, hli, b1.1, by omega, srch_down HI.out b1.1 b1.2 (by show (!ltD N dep d[mid + m - 1 - h]! d[h]!) = false; rw [← HR.out, HX.out.1, HX.out.2, show ltD N dep xr xh = true from decide_eq_true (by rw [HV.out]; exact hlv)]; rfl), by rw [← HW.out, World.drewN_drewN]⟩
        · have hd : (!decide (cv' < 0)) = true := by simp; omega
          go_wp2_with fail
          go_quiet ((go_at_fn 60; refine Calls.quiet_of (hc _)))
          go_wp2
          go_roundg (j - (h + 1))
          case measure => omega
          case rel => exact ⟨h + 1, j, q + nq, by go_num, by go_num, Nat.le_refl _, by omega, by omega, hjh, srch_up HI.out b1.1 b1.2 (by show (!ltD N dep d[mid + m - 1 - h]! d[h]!) = true; rw [← HR.out, HX.out.1, HX.out.2, show ltD N dep xr xh = false from decide_eq_false (by rw [HV.out]; omega)]; rfl), by rw [← HW.out, World.drewN_drewN]⟩
      · obtain rfl : i = j := by omega
        obtain ⟨e, he⟩ : ∃ e, e = mid + m - i := ⟨_, rfl⟩
        have HT : Hid (Turn (ltD N dep) d a m b i e) := turn_of KI.out k1 k3 k4 k5 HI.out he
        have e6 : IntKind.i64.wrap ((mid : Int) + (m : Int) - (i : Int)) = (e : Int) := by rw [IntKind.wrap_i64]; omega
        have hm2 : mid = i + (e - m) ∧ m ≤ e ∧ i ≤ m ∧ e ≤ b ∧ a ≤ i := by omega
        obtain ⟨hm2, f1, f2, f3, f4⟩ := hm2
        have HM2 := Lib.hid hm2
        clear he hm2
        have HQ : Hid (Holds (encF N) ((putRow (encF N) w blk off d).drewN q) blk off d) := holds_again _ _ _ _ _ _ _ HH.out rfl
        generalize hwq : (putRow (encF N) w blk off d).drewN q = wq at HQ ⊢
        have HW := Lib.hid hwq
        clear hwq
        go_upto_region 39 with (fail)
        go_cut [185] (fun v wx => ∃ B : Bool, v = .bool B ∧ Hid (Gd B (i < m) (m < e)) ∧ wx = wq)
        case first =>
          by_cases hx1 : i < m
          · by_cases hx2 : m < e
            · have hB : Hid (Gd true (i < m) (m < e)) := gd_tt hx1 hx2
              go_wp2
              go_meet
              exact ⟨true, rfl, hB, rfl⟩
            · have hB : Hid (Gd false (i < m) (m < e)) := gd_f2 hx2
              go_wp2
              go_meet
              exact ⟨false, rfl, hB, rfl⟩
          · have hB : Hid (Gd false (i < m) (m < e)) := gd_f1 hx1
            go_wp2
            go_meet
            exact ⟨false, rfl, hB, rfl⟩
        case rest =>
          obtain ⟨B, rfl, HBt, hwc⟩ := hcut
          obtain rfl := hwc.symm
          have h3 : e - m ≤ d.size ∧ i ≤ d.size := by omega
          go_upto_if 185 with (fail)
          go_cut [] (fun wx => ∃ (c : Array (Fin (N + 1))) (q : Nat), Hid (RotI d c i m e) ∧ wx = (putRow (encF N) w blk off c).drewN q)
          case first =>
            cases B
            · have hid : Hid (RotI d d i m e) := ⟨rfl, permIn_refl _ _ _, fun k => (rotF_same d i m e k (by
                have := gd_no HBt.out
                omega)).symm⟩
              go_wp2
              go_meet
              exact ⟨d, q, hid, HW.out.symm⟩
            · obtain ⟨hx1, hx2⟩ := HBt.out.1 rfl
              go_wp2_with fail
              refine (rotate_any N _ blk off cap i m e d _ HQ.out hx1 hx2 (by omega) (by omega)).mono ?_
              rintro e' w' ⟨rfl, c, q', c1, c2, c3, rfl⟩
              go_wp2
              go_meet
              exact ⟨c, q + q', ⟨c1, c2, c3⟩, by rw [← HW.out]; exact put_again _ _ _ _ _ _ _ _ c1⟩
          case rest =>
            as_aux_lemma =>
            obtain ⟨c, q1, HRot, hwx⟩ := hcut
            have HMR : Hid (SortedIn (ltD N dep) a i c ∧ SortedIn (ltD N dep) i mid c ∧ SortedIn (ltD N dep) mid e c ∧ SortedIn (ltD N dep) e b c ∧ Cross (ltD N dep) a mid b c) := by
              have := merge_rot (swo_ltD N dep) d c a m b i e HT.out HS1.out HS2.out HRot.out.2.2
              rw [← HM2.out] at this
              exact this
            have him : i ≤ mid := by have := HM2.out; omega
            have hme : mid ≤ e := by have := HM2.out; omega
            have hcs := HRot.out.1
            have HQ2 : Hid (Holds (encF N) wc blk off c) := by rw [hwx]; exact holds_again _ _ _ _ _ _ _ HH.out hcs
            have HC2 : Hid (CmpD N dep cv blk off c.size wc) := by rw [hwx, hcs]; exact HC.out.again HL.out c hcs q1
            have HCS := Lib.hid hcs
            have HW2 := Lib.hid hwx
            clear hcs hwx HW HQ HBt
            generalize hwn : wc = w2 at HQ2 HC2 HW2 ⊢
            clear hwn
            go_upto_region 41 with (fail)
            go_cut [199] (fun v wx => ∃ B : Bool, v = .bool B ∧ Hid (Gd B (a < i) (i < mid)) ∧ wx = w2)
            case first =>
              by_cases hx1 : a < i
              · by_cases hx2 : i < mid
                · have hB : Hid (Gd true (a < i) (i < mid)) := gd_tt hx1 hx2
                  go_wp2
                  go_meet
                  exact ⟨true, rfl, hB, rfl⟩
                · have hB : Hid (Gd false (a < i) (i < mid)) := gd_f2 hx2
                  go_wp2
                  go_meet
                  exact ⟨false, rfl, hB, rfl⟩
              · have hB : Hid (Gd false (a < i) (i < mid)) := gd_f1 hx1
                go_wp2
                go_meet
                exact ⟨false, rfl, hB, rfl⟩
            case rest =>
              obtain ⟨B, rfl, HBt, hwc⟩ := hcut
              obtain rfl := hwc.symm
              have HMo : Hid (a < i → i < mid → MergeOk N dep cv blk off cap a i mid c w2) := fun y1 y2 => IH.out a i mid c w2 HCS.out (by omega) (by rw [← HCS.out]; exact HC2.out) HQ2.out y1 y2 (by omega) HMR.out.1 HMR.out.2.1
              go_upto_if 199 with (fail)
              go_cut [] (fun wx => ∃ (c1 : Array (Fin (N + 1))) (q : Nat), Hid (PermIn a mid c c1 ∧ SortedIn (ltD N dep) a mid c1) ∧ wx = (putRow (encF N) w blk off c1).drewN q)
              case first =>
                cases B
                · have hid : Hid (PermIn a mid c c ∧ SortedIn (ltD N dep) a mid c) := ⟨permIn_refl _ _ _, by
                    have := gd_no HBt.out
                    rcases Nat.lt_or_ge a i with h | h
                    · have : i = mid := by omega
                      rw [← this]; exact HMR.out.1
                    · have : i = a := by omega
                      rw [← this]; exact HMR.out.2.1⟩
                  go_wp2
                  go_meet
                  exact ⟨c, q1, hid, HW2.out⟩
                · obtain ⟨hx1, hx2⟩ := HBt.out.1 rfl
                  have hM := HMo.out hx1 hx2
                  unfold MergeOk at hM
                  rw [HCS.out] at hM
                  have HMM := Lib.hid hM
                  clear hM
                  go_wp2_with fail
                  refine HMM.out.mono ?_
                  rintro e' w' ⟨rfl, c1, q', p1, p2, rfl⟩
                  have hid : Hid (PermIn a mid c c1 ∧ SortedIn (ltD N dep) a mid c1) := ⟨p1, p2⟩
                  clear p1 p2
                  go_wp2
                  go_meet
                  exact ⟨c1, q1 + q', hid, by rw [HW2.out]; exact put_again _ _ _ _ _ _ _ _ hid.out.1.1⟩
              case rest =>
                as_aux_lemma =>
                obtain ⟨c1, q2, HP1, hwx⟩ := hcut
                have hcs := HP1.out.1.1.trans HCS.out
                have HQ3 : Hid (Holds (encF N) wc blk off c1) := by rw [hwx]; exact holds_again _ _ _ _ _ _ _ HH.out hcs
                have HC3 : Hid (CmpD N dep cv blk off c1.size wc) := by rw [hwx, hcs]; exact HC.out.again HL.out c1 hcs q2
                have HCS1 := Lib.hid hcs
                have HW3 := Lib.hid hwx
                have HP3 : Hid (SortedIn (ltD N dep) mid e c1 ∧ SortedIn (ltD N dep) e b c1) := ⟨HMR.out.2.2.1.of_get fun k h1 h2 => HP1.out.1.2.1 k (.inr h1), HMR.out.2.2.2.1.of_get fun k h1 h2 => HP1.out.1.2.1 k (.inr (by omega))⟩
                clear hcs hwx HBt HMo HQ2 HC2 HW2
                generalize hwn : wc = w3 at HQ3 HC3 HW3 ⊢
                clear hwn
                have HMo : Hid (mid < e → e < b → MergeOk N dep cv blk off cap mid e b c1 w3) := fun y1 y2 => IH.out mid e b c1 w3 HCS1.out (by omega) (by rw [← HCS1.out]; exact HC3.out) HQ3.out y1 y2 hb HP3.out.1 HP3.out.2
                have fin : Hid (∀ c2, PermIn mid b c1 c2 → SortedIn (ltD N dep) mid b c2 → PermIn a b d c2 ∧ SortedIn (ltD N dep) a b c2) := fun c2 p2 s2 => by
                  have h1 := merge_done (swo_ltD N dep) c c1 c2 a mid b (by omega) (by omega) (by rw [HCS.out]; exact hb) HMR.out.2.2.2.2 HP1.out.1 HP1.out.2 p2 s2
                  exact ⟨permIn_trans _ _ _ _ _ (permIn_mono _ _ _ _ _ _ f4 f3 hb HRot.out.2.1) h1.1, h1.2⟩
                go_upto_region 43 with (fail)
                go_cut [213] (fun v wx => ∃ B : Bool, v = .bool B ∧ Hid (Gd B (mid < e) (e < b)) ∧ wx = w3)
                case first =>
                  by_cases hx1 : mid < e
                  · by_cases hx2 : e < b
                    · have hB : Hid (Gd true (mid < e) (e < b)) := gd_tt hx1 hx2
                      go_wp2
                      go_meet
                      exact ⟨true, rfl, hB, rfl⟩
                    · have hB : Hid (Gd false (mid < e) (e < b)) := gd_f2 hx2
                      go_wp2
                      go_meet
                      exact ⟨false, rfl, hB, rfl⟩
                  · have hB : Hid (Gd false (mid < e) (e < b)) := gd_f1 hx1
                    go_wp2
                    go_meet
                    exact ⟨false, rfl, hB, rfl⟩
                case rest =>
                  obtain ⟨B, rfl, HBt, hwc⟩ := hcut
                  obtain rfl := hwc.symm
                  cases B
                  · have hid : Hid (SortedIn (ltD N dep) mid b c1) := by
                      have := gd_no HBt.out
                      show SortedIn (ltD N dep) mid b c1
                      rcases Nat.lt_or_ge mid e with h | h
                      · have : e = b := by omega
                        rw [← this]; exact HP3.out.1
                      · have : e = mid := by omega
                        rw [← this]; exact HP3.out.2
                    go_wp2
                    go_end0
                    have := fin.out c1 (permIn_refl _ _ _) hid.out
                    first | exact ⟨rfl, c1, q2, this.1, this.2, HW3.out⟩ | exact ⟨rfl, c1, this.1, this.2, q2, HW3.out⟩
                  · obtain ⟨hx1, hx2⟩ := HBt.out.1 rfl
                    have hM := HMo.out hx1 hx2
                    unfold MergeOk at hM
                    rw [HCS1.out] at hM
                    have HMM := Lib.hid hM
                    clear hM
                    go_wp2_with fail
                    refine HMM.out.mono ?_
                    rintro e' w' ⟨rfl, c2, q', p1, p2, rfl⟩
                    have hid := Lib.hid (fin.out c2 p1 p2)
                    have hsz2 := Lib.hid p1.1
                    clear p1 p2
                    go_wp2
                    go_end0
                    exact ⟨rfl, c2, q2 + q', hid.out.1, hid.out.2, by rw [HW3.out]; exact put_again _ _ _ _ _ _ _ _ hsz2.out⟩
end Go.Proofs.Ytdciniefkodeaaa.PAll
