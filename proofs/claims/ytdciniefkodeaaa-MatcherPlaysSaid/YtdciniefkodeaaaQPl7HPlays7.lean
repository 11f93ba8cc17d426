/- MatcherPlays, walked. -/
import Derived.Deep.DeepCutAuto
import Derived.Deep.RegionHeld3
import Derived.Deep.AppendLies
import Derived.Deep.CutBlock
import Derived.Test.YtdciniefkodeaaaQPl7HAwake7W
import Derived.Test.YtdciniefkodeaaaQPl7HWords6
import Derived.Test.YtdciniefkodeaaaQPl7HBuildsK
import Derived.Test.YtdciniefkodeaaaQPl7HOpenB
set_option linter.unusedVariables false
set_option linter.unusedSimpArgs false
namespace Go.Proofs.Ytdciniefkodeaaa.PAll
open Go.Sort Go.RowKit Go.Proofs.YtdciniefkodeaaaW.PrintWords Go.Proofs.YtdciniefkodeaaaW.PrintLast Go.Proofs.YtdciniefkodeaaaW.PrintMore
theorem below_next {w0 w w' : World} (h : Below w0.heap.size w0 w) (hb : Below w.heap.size w w') : Below w0.heap.size w0 w' := h.trans (hb.mono h.size)
end Go.Proofs.Ytdciniefkodeaaa.PAll
set_option linter.unusedVariables false
set_option linter.unusedSimpArgs false
namespace Go.Proofs.Ytdciniefkodeaaa.PAll
open Go.Sort Go.RowKit Go.Proofs.YtdciniefkodeaaaW.PrintWords Go.Proofs.YtdciniefkodeaaaW.PrintLast Go.Proofs.YtdciniefkodeaaaW.PrintMore
theorem mach_grown {wr w1 : World} {pa bm : Nat} {ps : List Wd} {s t : Int} (h : MachAt wr pa ps) (hm : MatAt wr bm pa s t) (hg : wr.grownBy w1 (some bm)) : MachAt w1 pa ps :=
  h.moved fun k ty cells hk ht => hg.block k (Array.getElem?_eq_some_iff.1 hk).1 (fun e => ne_of_types hk hm (by rcases ht with rfl | rfl | rfl | rfl <;> decide) (Option.some.inj e))
end Go.Proofs.Ytdciniefkodeaaa.PAll
set_option linter.unusedVariables false
set_option linter.unusedSimpArgs false
namespace Go.Proofs.Ytdciniefkodeaaa.PAll
open Go.Sort Go.RowKit Go.Proofs.YtdciniefkodeaaaW.PrintWords Go.Proofs.YtdciniefkodeaaaW.PrintLast Go.Proofs.YtdciniefkodeaaaW.PrintMore
theorem ActsAt.below {w w1 : World} {A : Option Addr} {acts : List Act4} (h : ActsAt w A acts) (hb : Below w.heap.size w w1) : ActsAt w1 A acts := fun i hi => by
  obtain ⟨h0, ad, e, h1, h2, h3, h4⟩ := h i hi
  exact ⟨h0, ad, e, cell_below hb h1, cell_below hb h2, cell_below hb h3, cell_below hb h4⟩
/-- What Plays keeps: the reference's machine, the machine, the matcher. -/
structure CtxY (w wr : World) (g pa bm : Nat) (A : Option Addr) (c : Nat) (ps : List Wd) (s t : Int) : Prop where
  base : CtxV w wr g pa A c ps
  mat : MatAt wr bm pa s t
  bbm : w.heap.size ≤ bm
theorem CtxY.next {w wr w1 : World} {g pa bm : Nat} {A : Option Addr} {c : Nat} {ps : List Wd} {s t : Int} (h : CtxY w wr g pa bm A c ps s t) (hb : Below wr.heap.size wr w1) : CtxY w w1 g pa bm A c ps s t :=
  ⟨h.base.next hb, h.mat.below hb, h.bbm⟩
theorem CtxY.step {w wr w1 : World} {g pa bm : Nat} {A : Option Addr} {c : Nat} {ps : List Wd} {s t s2 t2 : Int} (h : CtxY w wr g pa bm A c ps s t) (hg : wr.grownBy w1 (some bm)) (hm : MatAt w1 bm pa s2 t2) : CtxY w w1 g pa bm A c ps s2 t2 := by
  have hB : Below w.heap.size w w1 := h.base.below.grown hg h.base.below.size (fun k e => by rw [← Option.some.inj e]; exact h.bbm)
  refine ⟨⟨hB, h.base.ref.moved hB fun k ty cells hk ht => hg.block k (Array.getElem?_eq_some_iff.1 hk).1 (fun e => ne_of_types hk h.mat (by rcases ht with rfl | rfl | rfl | rfl <;> decide) (Option.some.inj e)), mach_grown h.base.mach h.mat hg⟩, hm, h.bbm⟩
/-- The act's own block. -/
def ActB (w : World) (cb : Nat) (a : Act4) : Prop := w.heap[cb]? = some (.cells #[.int .u8 a.kd, .int .u8 a.b, .int .i64 a.st, .int .i64 a.t] 71 (0, 0))
theorem ActB.cells {w : World} {cb : Nat} {a : Act4} (h : ActB w cb a) : w.cell? ⟨cb, 0, none⟩ = some (.int .u8 a.kd) ∧ w.cell? ⟨cb, 1, none⟩ = some (.int .u8 a.b) ∧ w.cell? ⟨cb, 2, none⟩ = some (.int .i64 a.st) ∧ w.cell? ⟨cb, 3, none⟩ = some (.int .i64 a.t) := by
  refine ⟨?_, ?_, ?_, ?_⟩ <;> (rw [cell_of_row _ _ _ _ _ _ h]; rfl)
theorem ActB.below {w w1 : World} {cb : Nat} {a : Act4} (h : ActB w cb a) (hb : Below w.heap.size w w1) : ActB w1 cb a := (hb.block cb (Array.getElem?_eq_some_iff.1 h).1).trans h
theorem ActB.grown {w w1 : World} {cb bm pa : Nat} {a : Act4} {s t : Int} (h : ActB w cb a) (hm : MatAt w bm pa s t) (hg : w.grownBy w1 (some bm)) : ActB w1 cb a :=
  (hg.block cb (Array.getElem?_eq_some_iff.1 h).1 (fun e => ne_of_types h hm (by decide) (Option.some.inj e))).trans h
theorem grown_below {w w1 w2 : World} {r : Option Nat} (h : w.grownBy w1 r) (hb : Below w1.heap.size w1 w2) : w.grownBy w2 r := h.trans ⟨hb.os, hb.tape, hb.output, hb.size, fun k hk _ => hb.block k hk⟩
theorem grown_far {w w1 : World} {r : Option Nat} (h : w.grownBy w1 r) {gw : Nat} (hg : w.heap.size ≤ gw) (j : Nat) (u : Value) : w.grownBy (w1.setCell ⟨gw, j, none⟩ u) r :=
  ⟨h.os, h.tape, h.output, by have := h.size; simpa [World.setCell] using this, fun k hk hne => (Below.heap_setCell w1 ⟨gw, j, none⟩ u k (by show k ≠ gw; omega)).trans (h.block k hk hne)⟩
theorem MatAt.far {w : World} {bm pa : Nat} {s t : Int} (h : MatAt w bm pa s t) {gw ty : Nat} {cells : Array Value} (hb : w.heap[gw]? = some (.cells cells ty (0, 0))) (hne : ty ≠ 91) (j : Nat) (u : Value) : MatAt (w.setCell ⟨gw, j, none⟩ u) bm pa s t :=
  (Below.heap_setCell w ⟨gw, j, none⟩ u bm (ne_of_types h hb (fun e => hne e.symm))).trans h
theorem atT_range {t : Int} (h : 0 ≤ t ∧ t ≤ 4611686018427387904) : 0 ≤ atT t ∧ atT t ≤ 4611686018427387904 := by unfold atT; split <;> omega
set_option maxHeartbeats 8000000 in
set_option maxRecDepth 1000000 in
theorem plays_walk (A : Option Addr) (c : Nat) (ps : List Wd) (A1 : Option Addr) (c1 : Nat) (acts : List Act4) (w : World) (h : PsAt w A c ps) (hx : ActsAt w A1 acts) (hal : acts.length ≤ 9223372036854775807) : Calls Try.prog 14 #[.slice A ps.length c, .slice A1 acts.length c1] w fun e w' => e = .returned (.bool true) ∧ Below w.heap.size w w' := by
  have K0 := Lib.hid (refBuild_calls w A c ps h)
  have H := Lib.hid h
  have HX := Lib.hid hx
  have HAL := Lib.hid hal
  clear h hx hal
  go_enter Try.func14, Try.ntmps14
  go_wp2_with fail
  refine K0.out.mono ?_
  rintro e w1 ⟨hb1, hr⟩
  have B1 := Lib.hid hb1
  have K1 := Lib.hid (copy_ctr (H.out.below hb1))
  clear hb1 K0
  rcases hr with ⟨hz0, rfl⟩ | ⟨hz0, g, rfl, href⟩
  · have HZ0 := Lib.hid hz0
    clear hz0
    go_wp2_with fail
    refine K1.out.mono ?_
    rintro e w2 ⟨A2, c2, rfl, hp, hb⟩
    have B2 := Lib.hid (B1.out.trans (hb.mono B1.out.size))
    have K2 := Lib.hid (build_ctr hp)
    clear hp hb K1 B1
    go_wp2_with fail
    refine K2.out.mono ?_
    rintro e w3 ⟨hb, hr⟩
    have B3 := Lib.hid (B2.out.trans (hb.mono B2.out.size))
    clear hb K2 B2
    rcases hr with ⟨_, rfl⟩ | ⟨hz1, _⟩
    · go_wp2_with fail
      refine (new_none _).mono ?_
      rintro e w4 ⟨rfl, hd⟩
      have B4 := Lib.hid (below_next B3.out (below_of_drew hd))
      clear hd B3
      go_wp2_with fail
      refine (awake7_calls _).mono ?_
      rintro e w6 ⟨rfl, hb⟩
      have B6 := Lib.hid (below_next B4.out hb)
      clear hb
      go_wp2
      go_ret
      exact ⟨rfl, B6.out⟩
    · exact absurd hz1 HZ0.out
  · have HZ := Lib.hid hz0
    have HR1 := Lib.hid href
    clear hz0 href
    go_wp2_with fail
    refine K1.out.mono ?_
    rintro e w2 ⟨A2, c2, rfl, hp, hb⟩
    have B2 := Lib.hid (B1.out.trans (hb.mono B1.out.size))
    have HR2 := Lib.hid (HR1.out.next hb)
    have K2 := Lib.hid (build_ctr hp)
    clear hp hb K1 HR1 B1
    go_wp2_with fail
    refine K2.out.mono ?_
    rintro e w3 ⟨hb, hr⟩
    have B3 := Lib.hid (B2.out.trans (hb.mono B2.out.size))
    have HR3 := Lib.hid (HR2.out.next hb)
    clear hb K2 B2 HR2
    rcases hr with ⟨hz1, _⟩ | ⟨_, pa, rfl, hm⟩
    · exact absurd HZ.out hz1
    · have HM := Lib.hid hm
      clear hm
      go_wp2_with fail
      refine (new_calls _ _).mono ?_
      rintro e w4 ⟨bm, rfl, hbm, hmat, hb⟩
      have HC : Hid (CtxY w w4 g pa bm A c ps 0 0) := ⟨⟨below_next B3.out hb, HR3.out.next hb, HM.out.below hb⟩, hmat, by rw [hbm]; exact B3.out.size⟩
      have HCZ := Lib.hid (chkW_zero HZ.out)
      have h32 : ∀ x ∈ trie ps, x.length ≤ 32 := fun x hx => by
        rcases (mem_trie ps x).1 hx with rfl | ⟨p, hp, h⟩
        · exact Nat.zero_le _
        · exact Nat.le_trans h.length_le (HCZ.out.2.2 p hp).2
      have H32 := Lib.hid h32
      clear hbm hmat hb B3 HR3 HM h32
      go_wp2
      go_loopg [11, 12, 13] acts.length (fun g1 vs vt vi wr => ∃ (i : Nat) (s t : Int), vs = .int .i64 s ∧ vt = .int .i64 t ∧ vi = .int .i64 (i : Int) ∧ i ≤ acts.length ∧ acts.length - i ≤ g1 ∧ Hid (0 ≤ t ∧ t ≤ 4611686018427387904) ∧ Hid (CtxY w wr g pa bm A c ps s t))
      case atStart => exact ⟨0, 0, 0, rfl, rfl, rfl, Nat.zero_le _, Nat.le_refl _, ⟨by decide, by decide⟩, HC⟩
      case round =>
        clear HC
        obtain ⟨i, s, t, rfl, rfl, rfl, hi, hg1, HTR, HC⟩ := hrel
        have hal := HAL.out
        by_cases hlt : i < acts.length
        · have hiz : (i : Int) < (acts.length : Int) := by omega
          have hwi : IntKind.i64.wrap ((i : Int) + 1) = (i : Int) + 1 := by rw [IntKind.wrap_i64]; omega
          obtain ⟨hok, ad, rfl, q0, q1, q2, q3⟩ := HX.out.below HC.out.base.below i hlt
          obtain ⟨a, ha⟩ : ∃ a, acts[i] = a := ⟨_, rfl⟩
          rw [ha] at hok q0 q1 q2 q3
          have p1 : wr.cell? ⟨(ad.add (i * 4)).block, (ad.add (i * 4)).off + 1, none⟩ = some (.int .u8 a.b) := by rw [← add_field _ _ 1 (by omega)]; exact q1
          have p2 : wr.cell? ⟨(ad.add (i * 4)).block, (ad.add (i * 4)).off + 2, none⟩ = some (.int .i64 a.st) := by rw [← add_field _ _ 2 (by omega)]; exact q2
          have p3 : wr.cell? ⟨(ad.add (i * 4)).block, (ad.add (i * 4)).off + 3, none⟩ = some (.int .i64 a.t) := by rw [← add_field _ _ 3 (by omega)]; exact q3
          have HOK := Lib.hid hok
          clear ha hok q1 q2 q3
          go_upto_region 13 with (fail)
          have HBA : Hid (Below wr.heap.size wr (wr.alloc (.cells #[.int .u8 a.kd, .int .u8 a.b, .int .i64 a.st, .int .i64 a.t] 71))) := (Below.refl _ _).alloc (Nat.le_refl _) _
          have HC1 := Lib.hid (HC.out.next HBA.out)
          have HA1 : Hid (ActB (wr.alloc (.cells #[.int .u8 a.kd, .int .u8 a.b, .int .i64 a.st, .int .i64 a.t] 71)) wr.heap.size a) := heap_alloc_new wr _
          generalize wr.alloc (.cells #[.int .u8 a.kd, .int .u8 a.b, .int .i64 a.st, .int .i64 a.t] 71) = wa at HC1 HA1 ⊢
          obtain ⟨cb, hcb⟩ : ∃ cb, wr.heap.size = cb := ⟨_, rfl⟩
          rw [hcb] at HA1 ⊢
          obtain ⟨a0, a1, a2, a3⟩ := HA1.out.cells
          obtain ⟨k4, hk4⟩ : ∃ k4, a.kd % 4 = k4 := ⟨_, rfl⟩
          have hk5 : Int.tmod a.kd 4 = k4 := by rw [Int.tmod_eq_emod_of_nonneg HOK.out.1.1, hk4]
          clear hcb HBA HC q0 p1 p2 p3
          go_upto_block 2 with (fail)
          go_cut [11, 12] (fun vs vt wx => ∃ s t : Int, vs = .int .i64 s ∧ vt = .int .i64 t ∧ Hid (0 ≤ t ∧ t ≤ 4611686018427387904) ∧ Hid (CtxY w wx g pa bm A c ps s t))
          case first =>
            by_cases e2 : k4 = 2
            · have b2k : (k4 == 2) = true := by rw [beq_iff_eq]; exact e2
              have KI := refIs_calls wa HC1.out.base.ref a.st
              obtain ⟨bi, hbi⟩ : ∃ bi, isT (trie ps) a.st = bi := ⟨_, rfl⟩
              rw [hbi] at KI
              have HKI := Lib.hid KI
              have hisv := hbi
              have HIS := Lib.hid hisv
              clear KI hbi hisv e2
              go_wp2_with fail
              refine HKI.out.mono ?_
              rintro e wb ⟨rfl, hd⟩
              have HCb := Lib.hid (HC1.out.next (below_of_drew hd))
              have HAb := Lib.hid (HA1.out.below (below_of_drew hd))
              obtain ⟨b0, b1, b2, b3⟩ := HAb.out.cells
              clear hd HKI HC1 HA1 a0 a1 a2 a3
              have hisv := HIS.out
              cases bi
              · have hset : setT ps a.st a.t = false := by unfold setT; rw [hisv]; rfl
                have KU := set_calls wb bm pa ps s t a.st a.t HCb.out.mat HCb.out.base.mach
                rw [hset] at KU
                rw [if_neg (by decide), if_neg (by decide)] at KU
                have HKU := Lib.hid KU
                clear KU hset hisv
                go_wp2_with fail
                refine HKU.out.mono ?_
                rintro e wc ⟨rfl, hm, hg⟩
                have HCc := Lib.hid (HCb.out.step hg hm)
                clear hm hg HKU HCb
                go_wp2
                go_meet
                exact ⟨s, t, rfl, rfl, HTR, HCc⟩
              · by_cases h0 : 0 ≤ a.t
                · by_cases h1 : a.t ≤ 4611686018427387904
                  · have hset : setT ps a.st a.t = true := by unfold setT; rw [hisv, decide_eq_true ⟨h0, h1⟩]; rfl
                    have KU := set_calls wb bm pa ps s t a.st a.t HCb.out.mat HCb.out.base.mach
                    rw [hset] at KU
                    rw [if_pos rfl, if_pos rfl] at KU
                    have HKU := Lib.hid KU
                    clear KU hset hisv
                    have HRG : Hid (0 ≤ a.t ∧ a.t ≤ 4611686018427387904) := ⟨h0, h1⟩
                    go_wp2_with fail
                    refine HKU.out.mono ?_
                    rintro e wc ⟨rfl, hm, hg⟩
                    have HCc := Lib.hid (HCb.out.step hg hm)
                    have HAc := Lib.hid (HAb.out.grown HCb.out.mat hg)
                    obtain ⟨d0, d1, d2, d3⟩ := HAc.out.cells
                    clear hm hg HKU HCb HAb b0 b1 b2 b3
                    go_wp2_with fail
                    go_quiet (fail)
                    go_wp2
                    go_meet
                    exact ⟨a.st, a.t, rfl, rfl, HRG, HCc.out.next (below_drewN' (Below.refl _ _) nq)⟩
                  · have h1x := h1
                    have hset : setT ps a.st a.t = false := by unfold setT; rw [hisv, decide_eq_false (fun h => h1 h.2)]; rfl
                    have KU := set_calls wb bm pa ps s t a.st a.t HCb.out.mat HCb.out.base.mach
                    rw [hset] at KU
                    rw [if_neg (by decide), if_neg (by decide)] at KU
                    have HKU := Lib.hid KU
                    clear KU hset hisv
                    go_wp2_with fail
                    refine HKU.out.mono ?_
                    rintro e wc ⟨rfl, hm, hg⟩
                    have HCc := Lib.hid (HCb.out.step hg hm)
                    clear hm hg HKU HCb
                    go_wp2
                    go_meet
                    exact ⟨s, t, rfl, rfl, HTR, HCc⟩
                · have h0x := h0
                  have hset : setT ps a.st a.t = false := by unfold setT; rw [hisv, decide_eq_false (fun h => h0 h.1)]; rfl
                  have KU := set_calls wb bm pa ps s t a.st a.t HCb.out.mat HCb.out.base.mach
                  rw [hset] at KU
                  rw [if_neg (by decide), if_neg (by decide)] at KU
                  have HKU := Lib.hid KU
                  clear KU hset hisv
                  go_wp2_with fail
                  refine HKU.out.mono ?_
                  rintro e wc ⟨rfl, hm, hg⟩
                  have HCc := Lib.hid (HCb.out.step hg hm)
                  clear hm hg HKU HCb
                  go_wp2
                  go_meet
                  exact ⟨s, t, rfl, rfl, HTR, HCc⟩
            · have b2k : (k4 == 2) = false := by rw [beq_eq_false_iff_ne]; exact e2
              by_cases e3 : k4 = 3
              · have b3k : (k4 == 3) = true := by rw [beq_iff_eq]; exact e3
                have KR := Lib.hid (reset_calls wa bm pa s t HC1.out.mat)
                clear e2 e3
                go_wp2_with fail
                refine KR.out.mono ?_
                rintro e wb ⟨rfl, hm, hg⟩
                have HCb := Lib.hid (HC1.out.step hg hm)
                clear hm hg KR HC1 HA1 a0 a1 a2 a3
                go_wp2
                go_meet
                exact ⟨0, 0, rfl, rfl, ⟨by decide, by decide⟩, HCb⟩
              · have b3k : (k4 == 3) = false := by rw [beq_eq_false_iff_ne]; exact e3
                obtain ⟨s2, hs2⟩ : ∃ s2, nextT ps s a.b = s2 := ⟨_, rfl⟩
                have KN : Calls Try.prog 41 #[.pointer (some ⟨g, 0, none⟩), .int .i64 s, .int .u8 a.b] wa _ := refNext_calls wa HC1.out.base.ref H32.out s a.b
                rw [show nextR (trie ps) s a.b = s2 from hs2] at KN
                have HKN := Lib.hid KN
                have HS2 := Lib.hid hs2
                have hwt : IntKind.i64.wrap (t + 1) = t + 1 := by rw [IntKind.wrap_i64]; have := HTR.out; omega
                have hmin : ∀ ats ty, Builtin.min_ ats ty #[.int .i64 (t + 1), .int .i64 4611686018427387904] = pure (.int .i64 (atT t)) := fun ats ty => by
                  rw [min_two, min2_int]; rfl
                clear e2 e3 hs2 KN
                go_wp2_with fail
                refine HKN.out.mono ?_
                rintro e wb ⟨rfl, hb⟩
                have HCb := Lib.hid (HC1.out.next hb)
                have HAb := Lib.hid (HA1.out.below hb)
                obtain ⟨b0, b1, b2, b3⟩ := HAb.out.cells
                have KT := step_calls wb bm pa ps s t a.b HCb.out.mat HCb.out.base.mach HOK.out.2 HTR.out
                rw [HS2.out] at KT
                obtain ⟨y, hy⟩ : ∃ y, outT ps s2 = y := ⟨_, rfl⟩
                rw [hy] at KT
                have HYW := Lib.hid hy
                have HKT := Lib.hid KT
                obtain ⟨t2, ht2⟩ : ∃ t2, atT t = t2 := ⟨_, rfl⟩
                have hr2 := atT_range HTR.out
                rw [ht2] at HKT hmin hr2
                have HR2 := Lib.hid hr2
                clear hb HKN HC1 HA1 a0 a1 a2 a3 hy KT ht2 hr2
                go_wp2_with fail
                refine HKT.out.mono ?_
                rintro e wc ⟨v, rfl, ho, hm, hg⟩
                obtain ⟨Ao, co, hv, hco, hCo⟩ := own_ints_reads ho
                subst hv
                have HCc := Lib.hid (HCb.out.step hg hm)
                have HO := Lib.hid ho
                have HG := Lib.hid hg
                have HMt := Lib.hid hm
                have HCO := Lib.hid hCo
                have HCO1 := Lib.hid hco
                have hyl0 : y.length ≤ 9223372036854775807 := hCo.2.1
                have KR := refOut_calls wc HCc.out.base.ref (H.out.below HCc.out.base.below) HCZ.out.2.1 s2
                rw [show outR ps (trie ps) s2 = y from HYW.out] at KR
                have HKR := Lib.hid KR
                clear ho hm hg hCo hco HKT KR hmin b0 b1 b2 b3 HAb
                go_wp2_with fail
                refine HKR.out.mono ?_
                rintro e wd ⟨v3, rfl, ho3, hbd⟩
                obtain ⟨Ap, cp, hv3, hcp, hCp⟩ := own_ints_reads ho3
                subst hv3
                have HGd := Lib.hid (grown_below HG.out hbd)
                have HMd := Lib.hid (HMt.out.below hbd)
                have HOd := Lib.hid (own_move HO.out (w1 := wd) fun k e => hbd.block k (own_lt HO.out k e))
                have KI := ints_ctr rfl rfl (Kd.C_below HCO.out hbd) HCO1.out hCp hcp
                rw [decide_eq_true rfl] at KI
                have HKI := Lib.hid KI
                clear ho3 hbd hCp hcp HKR KI HCc HO HG HMt HCO
                go_wp2_with fail
                refine HKI.out.mono ?_
                rintro e we ⟨rfl, hd⟩
                have hbd := below_of_drew hd
                have HGe := Lib.hid (grown_below HGd.out hbd)
                have HMe := Lib.hid (HMd.out.below hbd)
                have HOe := Lib.hid (own_move HOd.out (w1 := we) fun k e => hbd.block k (own_lt HOd.out k e))
                clear hd hbd HKI HGd HMd HOd
                go_wp2
                go_loopg [17] y.length (fun g3 vk wp => ∃ (k : Nat) (xs : List Int), vk = .int .i64 (k : Int) ∧ k ≤ y.length ∧ y.length - k ≤ g3 ∧ Hid (xs.length = y.length) ∧ Hid (wp.ownsRow wb.heap.size 3 1 (.slice Ao y.length co) y.length (nums .i64 xs)) ∧ Hid (wb.grownBy wp (some bm)) ∧ Hid (MatAt wp bm pa s2 t2))
                case atStart => exact ⟨0, y, rfl, Nat.zero_le _, Nat.le_refl _, rfl, HOe, HGe, HMe⟩
                case round =>
                  clear HOe HGe HMe
                  obtain ⟨k, xs, rfl, hk, hg3, HXL, HO2, HG, HMt⟩ := hrel
                  by_cases hkl : k < y.length
                  · have hkz : (k : Int) < (y.length : Int) := by omega
                    obtain ⟨gw, rfl, ⟨zz, hcell⟩, hfz, hbs, ⟨cells, hcs⟩, hst⟩ := own_bump HO2.out HXL.out hkl
                    obtain ⟨ys, hyl, hys⟩ := hst (wrap64 (zz + 1))
                    have HYS := Lib.hid hys
                    have HYL := Lib.hid hyl
                    have HG2 := Lib.hid (grown_far HG.out hbs k (.int .i64 (wrap64 (zz + 1))))
                    have HM2 := Lib.hid (HMt.out.far hcs (by decide) k (.int .i64 (wrap64 (zz + 1))))
                    have hwk : IntKind.i64.wrap ((k : Int) + 1) = (k : Int) + 1 := by rw [IntKind.wrap_i64]; omega
                    clear hst hys hyl hbs hcs
                    go_wp2
                    go_roundg (y.length - (k + 1))
                    case measure => omega
                    case rel => exact ⟨k + 1, ys, by go_num, by omega, Nat.le_refl _, HYL, HYS, HG2, HM2⟩
                  · obtain rfl : k = y.length := by omega
                    have HCx := Lib.hid (HCb.out.step HG.out HMt.out)
                    clear HO2 HG HMt HXL
                    go_wp2
                    go_meet
                    exact ⟨s2, t2, rfl, rfl, HR2, HCx⟩
          case rest =>
            obtain ⟨s2, t2, rfl, rfl, HTR2, HC2⟩ := hcut
            clear HC1 HA1 a0 a1 a2 a3 HTR hk4 hk5
            have KS := Lib.hid (state_calls _ bm pa _ _ HC2.out.mat)
            go_wp2_with fail
            refine KS.out.mono ?_
            rintro e wy ⟨rfl, hd⟩
            have HC3 := Lib.hid (HC2.out.next (below_of_drew hd))
            have KT := Lib.hid (at_calls _ bm pa _ _ HC3.out.mat)
            clear hd KS HC2
            go_wp2_with fail
            refine KT.out.mono ?_
            rintro e wz ⟨rfl, hd⟩
            have HC4 := Lib.hid (HC3.out.next (below_of_drew hd))
            clear hd KT HC3
            go_wp2
            go_roundg (acts.length - (i + 1))
            case measure => omega
            case rel => exact ⟨i + 1, s2, t2, rfl, rfl, by go_num, by omega, Nat.le_refl _, HTR2, HC4⟩
        · have hiz : ¬ (i : Int) < (acts.length : Int) := by omega
          go_wp2_with fail
          refine (awake7_calls _).mono ?_
          rintro e w8 ⟨rfl, hb⟩
          have B8 := Lib.hid (below_next HC.out.base.below hb)
          clear hb
          go_wp2
          go_ret
          exact ⟨rfl, B8.out⟩
end Go.Proofs.Ytdciniefkodeaaa.PAll
