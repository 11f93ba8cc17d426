/- PatternsBuilds, walked. -/
import Derived.Deep.CutBlock
import Derived.Test.YtdciniefkodeaaaQBu6HBuildsK
import Derived.Test.YtdciniefkodeaaaQBu6HOpenA
set_option linter.unusedVariables false
set_option linter.unusedSimpArgs false
namespace Go.Proofs.Ytdciniefkodeaaa.PAll
open Go.Sort Go.RowKit Go.Proofs.YtdciniefkodeaaaW.PrintWords Go.Proofs.YtdciniefkodeaaaW.PrintLast Go.Proofs.YtdciniefkodeaaaW.PrintMore
theorem PairsAt.below {w w1 : World} {A : Option Addr} {ask : List (Int × Int)} (h : PairsAt w A ask) (hb : Below w.heap.size w w1) : PairsAt w1 A ask := fun i hi => by
  obtain ⟨ad, e, h1, h2⟩ := h i hi
  exact ⟨ad, e, cell_below hb h1, cell_below hb h2⟩
set_option maxHeartbeats 8000000 in
set_option maxRecDepth 1000000 in
theorem builds_walk (A : Option Addr) (c : Nat) (ps : List Wd) (A1 : Option Addr) (c1 : Nat) (ask : List (Int × Int)) (w : World) (h : PsAt w A c ps) (hx : PairsAt w A1 ask) (hal : ask.length ≤ 9223372036854775807) : Calls Try.prog 10 #[.slice A ps.length c, .slice A1 ask.length c1] w fun e w' => e = .returned (.bool true) ∧ Below w.heap.size w w' := by
  have K0 := Lib.hid (refBuild_calls w A c ps h)
  have H := Lib.hid h
  have HX := Lib.hid hx
  have HAL := Lib.hid hal
  clear h hx hal
  go_enter Try.func10, Try.ntmps10
  go_wp2_with fail
  refine K0.out.mono ?_
  rintro e w1 ⟨hb1, hr⟩
  have B1 := Lib.hid hb1
  have K1 := Lib.hid (copyS_ctr (H.out.below hb1) rfl)
  clear hb1 K0
  rcases hr with ⟨hz0, rfl⟩ | ⟨hz0, g, rfl, href⟩
  · obtain ⟨z, hz⟩ : ∃ z, chkW ps = z := ⟨_, rfl⟩
    rw [hz] at hz0 ⊢
    have HZ := Lib.hid hz
    have HZ0 := Lib.hid hz0
    clear hz hz0
    go_wp2_with fail
    refine K1.out.mono ?_
    rintro e w2 ⟨A2, c2, rfl, hS, hp, hb⟩
    have B2 := Lib.hid (B1.out.trans (hb.mono B1.out.size))
    have K2 := Lib.hid (build_ctr hp)
    clear hS hp hb K1 B1
    go_wp2_with fail
    refine K2.out.mono ?_
    rintro e w3 ⟨hb, hr⟩
    have B3 := Lib.hid (B2.out.trans (hb.mono B2.out.size))
    clear hb K2 B2
    rcases hr with ⟨_, rfl⟩ | ⟨hz1, _⟩
    · rw [HZ.out]
      go_wp2_with fail
      refine (awake6_calls _).mono ?_
      rintro e w6 ⟨rfl, hb⟩
      have B6 := Lib.hid (B3.out.trans (hb.mono B3.out.size))
      clear hb
      go_wp2
      go_ret
      exact ⟨rfl, B6.out⟩
    · exact absurd (HZ.out.symm.trans hz1) HZ0.out
  · have HZ := Lib.hid hz0
    have HR1 := Lib.hid href
    clear hz0 href
    go_wp2_with fail
    refine K1.out.mono ?_
    rintro e w2 ⟨A2, c2, rfl, hS, hp, hb⟩
    have B2 := Lib.hid (B1.out.trans (hb.mono B1.out.size))
    have HR2 := Lib.hid (HR1.out.next hb)
    have HS2 := Lib.hid hS
    have K2 := Lib.hid (build_ctr hp)
    clear hS hp hb K1 HR1
    go_wp2_with fail
    refine K2.out.mono ?_
    rintro e w3 ⟨hb, hr⟩
    have B3 := Lib.hid (B2.out.trans (hb.mono B2.out.size))
    have HR3 := Lib.hid (HR2.out.next hb)
    have hCZ := chkW_zero HZ.out
    obtain ⟨ad2, hA2, hin⟩ := in_of (Kd.R_lower (Kd.R_below (Kd.S_R HS2.out) hb) B1.out.size) hCZ.1 (fun p hp => (hCZ.2.2 p hp).1)
    subst hA2
    have HIN := Lib.hid hin
    have HCZ := Lib.hid hCZ
    clear hb K2 B2 HR2 hin hCZ B1 HS2
    rcases hr with ⟨hz1, _⟩ | ⟨_, pa, rfl, hm⟩
    · exact absurd HZ.out hz1
    · have HC : Hid (CtxV w w3 g pa A c ps) := ⟨B3.out, HR3.out, hm⟩
      clear hm HR3 B3
      go_wp2
      go_loopg [10, 11] ps.length (fun g1 vl vi wr => ∃ (i : Nat) (l : Int), vl = .int .i64 l ∧ vi = .int .i64 (i : Int) ∧ i ≤ ps.length ∧ ps.length - i ≤ g1 ∧ Hid (lonTo ps i = l) ∧ Hid (CtxV w wr g pa A c ps) ∧ Hid (InAt wr w.heap.size ad2 ps))
      case atStart => exact ⟨0, 0, rfl, rfl, Nat.zero_le _, Nat.le_refl _, rfl, HC, HIN⟩
      case round =>
        clear HC HIN
        obtain ⟨i, l, rfl, rfl, hi, hg1, HL, HC, HIN⟩ := hrel
        by_cases hlt : i < ps.length
        · have hiz : (i : Int) < (ps.length : Int) := by omega
          obtain ⟨b, cb, hrow, hbb, hbc, hcells⟩ := HIN.out.rows i hlt
          have hls := lonTo_succ hlt
          obtain ⟨n, hn⟩ : ∃ n, (ps.getD i []).length = n := ⟨_, rfl⟩
          rw [hn] at hrow hls
          rw [HL.out] at hls
          have hn32 : n ≤ 32 := by
            rw [← hn, List.getD_eq_getElem?_getD, List.getElem?_eq_getElem hlt]
            exact (HCZ.out.2.2 _ (List.getElem_mem hlt)).2
          obtain ⟨l2, hl2⟩ : ∃ l2, (if l < (n : Int) then (n : Int) else l) = l2 := ⟨_, rfl⟩
          rw [hl2] at hls
          have hmax : ∀ ats ty, Builtin.max_ ats ty #[.int .i64 l, .int .i64 (n : Int)] = pure (.int .i64 l2) := fun ats ty => by
            rw [max_two, max2_int, hl2]; rfl
          have HLS := Lib.hid hls
          have HNN := Lib.hid hn
          have hwi : IntKind.i64.wrap ((i : Int) + 1) = (i : Int) + 1 := by rw [IntKind.wrap_i64]; have := HCZ.out.2.1; omega
          clear hls hn hl2 hbb hbc hcells
          go_wp2
          clear hrow hmax
          go_loopg [12] n (fun g2 vk wr => ∃ k : Nat, vk = .int .i64 (k : Int) ∧ k ≤ n ∧ n - k ≤ g2 ∧ Hid (CtxV w wr g pa A c ps) ∧ Hid (InAt wr w.heap.size ad2 ps))
          case atStart => exact ⟨0, rfl, Nat.zero_le _, Nat.le_refl _, HC, HIN⟩
          case round =>
            clear HC HIN
            obtain ⟨k, rfl, hk, hg2, HC, HIN⟩ := hrel
            obtain ⟨b, cb, hrow, hbb, ⟨cells, hbc⟩, hcells⟩ := HIN.out.rows i hlt
            rw [HNN.out] at hrow hcells
            by_cases hkl : k < n
            · have hkz : (k : Int) < (n : Int) := by omega
              obtain ⟨zz, hcell⟩ := hcells k hkl
              have hfz : wr.frozen? ⟨b, k, none⟩ = false := frozen_of_row _ _ _ _ _ hbc
              have hwk : IntKind.i64.wrap ((k : Int) + 1) = (k : Int) + 1 := by rw [IntKind.wrap_i64]; omega
              have HBC := Lib.hid hbc
              have HBB := Lib.hid hbb
              clear hcells hbc hbb
              go_wp2
              have HC2 := Lib.hid (HC.out.set5 HBC.out HBB.out k (.int .u8 (IntKind.u8.wrap (zz + 1))))
              have HI2 := Lib.hid (HIN.out.set HBC.out (j := k) (IntKind.u8.wrap (zz + 1)))
              go_roundg (n - (k + 1))
              case measure => omega
              case rel => exact ⟨k + 1, by go_num, by omega, Nat.le_refl _, HC2, HI2⟩
            · obtain rfl : k = n := by omega
              clear hcells hbc hbb
              go_wp2
              go_roundg (ps.length - (i + 1))
              case measure => omega
              case rel => exact ⟨i + 1, l2, rfl, by go_num, by omega, Nat.le_refl _, HLS, HC, HIN⟩
        · have hiz : ¬ (i : Int) < (ps.length : Int) := by omega
          obtain rfl : i = ps.length := by omega
          have hlw := HL.out
          rw [lonTo_all] at hlw
          have HLW := Lib.hid hlw
          clear hlw HL HIN
          obtain ⟨gW, cW, _, _, _, hcw, _, _, _⟩ := HC.out.ref.word (s := 0) (trie_I ps).pos
          obtain ⟨N, hN⟩ : ∃ N, (trie ps).length = N := ⟨_, rfl⟩
          have hN21 : N ≤ 2100 := by rw [← hN]; exact HC.out.ref.trie.2
          have K24 := fun q => states_calls (wr.drewN q) pa ps (HC.out.mach.below (below_drewN' (Below.refl _ _) q))
          have K36 := fun q => patterns_calls (wr.drewN q) pa ps (HC.out.mach.below (below_drewN' (Below.refl _ _) q))
          have K29 := fun q => longest_calls (wr.drewN q) pa ps (HC.out.mach.below (below_drewN' (Below.refl _ _) q))
          simp only [hN] at K24
          simp only [HLW.out] at K29
          rw [hN] at hcw
          have HK24 := Lib.hid K24
          have HK36 := Lib.hid K36
          have HK29 := Lib.hid K29
          have HNE := Lib.hid hN
          clear K24 K36 K29 hN
          go_upto_region 17 with (fail)
          go_wp2_with fail
          go_quiet (with_reducible first | refine Calls.quiet_of (HK24.out _) | refine Calls.quiet_of (HK36.out _) | refine Calls.quiet_of (HK29.out _))
          have HC4 := Lib.hid (HC.out.next (below_drewN' (Below.refl _ _) nq))
          generalize wr.drewN nq = wq at HC4 ⊢
          clear HC HK24 HK36 HK29 hcw
          go_wp2
          go_loopg [13] (N + 2) (fun g1 vz wr => ∃ z : Int, vz = .int .i64 z ∧ -1 ≤ z ∧ z ≤ (N : Int) + 1 ∧ ((N : Int) + 1 - z).toNat ≤ g1 ∧ Hid (CtxV w wr g pa A c ps))
          case atStart => exact ⟨-1, rfl, by omega, by omega, by omega, HC4⟩
          case round =>
            clear HC4
            obtain ⟨z, rfl, hz1, hz2, hg1, HC⟩ := hrel
            obtain ⟨W0, hW0⟩ : ∃ W0, W0 = wr := ⟨_, rfl⟩
            subst hW0
            obtain ⟨gW, cW, _, _, _, hcw, _, _, _⟩ := HC.out.ref.word (s := 0) (trie_I ps).pos
            rw [HNE.out] at hcw
            by_cases hzN : z ≤ (N : Int)
            · have hwz : IntKind.i64.wrap (z + 1) = z + 1 := by rw [IntKind.wrap_i64]; omega
              obtain ⟨x, hx⟩ : ∃ x, wordT ps z = x := ⟨_, rfl⟩
              obtain ⟨y, hy⟩ : ∃ y, outT ps z = y := ⟨_, rfl⟩
              obtain ⟨fz, hfz0⟩ : ∃ fz, failT ps z = fz := ⟨_, rfl⟩
              have hdw := depth_word ps z
              rw [hx] at hdw
              have HXW := Lib.hid hx
              have HYW := Lib.hid hy
              have HFZ := Lib.hid hfz0
              have HDW := Lib.hid hdw
              have KW := word_calls W0 pa ps z HC.out.mach
              rw [hx] at KW
              have HKW := Lib.hid KW
              clear hx hy hfz0 hdw KW
              go_wp2_with fail
              refine HKW.out.mono ?_
              rintro e wa ⟨v1, rfl, ho1, hb⟩
              have HCa := Lib.hid (HC.out.next hb)
              obtain ⟨Aw, cw, hv1, hcw1, hCw⟩ := own_bytes_reads ho1
              subst hv1
              have HO1 := Lib.hid ho1
              have HCW := Lib.hid hCw
              have hxl : x.length ≤ 9223372036854775807 := hCw.2.1
              have HCW1 := Lib.hid hcw1
              have HB1 := Lib.hid hb
              have KO := out_calls wa pa ps z HCa.out.mach
              rw [HYW.out] at KO
              have HKO := Lib.hid KO
              clear ho1 hb hCw hcw1 HKW KO hcw
              go_wp2_with fail
              refine HKO.out.mono ?_
              rintro e wb ⟨v2, rfl, ho2, hb⟩
              have HCb := Lib.hid (HCa.out.next hb)
              obtain ⟨Ao, co, hv2, hco1, hCo⟩ := own_ints_reads ho2
              subst hv2
              have HO2 := Lib.hid ho2
              have HCO := Lib.hid hCo
              have hyl0 : y.length ≤ 9223372036854775807 := hCo.2.1
              have HCO1 := Lib.hid hco1
              have HB2 := Lib.hid (HB1.out.trans (hb.mono HB1.out.size))
              have HO1b := Lib.hid (own_move HO1.out (w1 := wb) fun k e => hb.block k (own_lt HO1.out k e))
              have HCWb := Lib.hid (Kd.C_below HCW.out hb)
              have HSA := Lib.hid HB1.out.size
              have KR : Calls Try.prog 37 #[.pointer (some ⟨g, 0, none⟩), .int .i64 z] wb _ := refWord_calls wb HCb.out.ref z
              rw [show wordR (trie ps) z = x from HXW.out] at KR
              have HKR := Lib.hid KR
              clear ho2 hb hCo hco1 HKO KR HCa HO1 HCW HB1
              go_wp2_with fail
              refine HKR.out.mono ?_
              rintro e wc ⟨Ar, cr, rfl, hcr, hCr, hd⟩
              have hbd := below_of_drew hd
              have HCc := Lib.hid (HCb.out.next hbd)
              have HB3 := Lib.hid (HB2.out.trans (hbd.mono HB2.out.size))
              have HO1c := Lib.hid (own_move HO1b.out (w1 := wc) fun k e => hbd.block k (own_lt HO1b.out k e))
              have HO2c := Lib.hid (own_move HO2.out (w1 := wc) fun k e => hbd.block k (own_lt HO2.out k e))
              have HCOc := Lib.hid (Kd.C_below HCO.out hbd)
              have KS := same_ctr (Kd.C_below HCWb.out hbd) HCW1.out hCr hcr
              rw [decide_eq_true rfl] at KS
              have HKS := Lib.hid KS
              clear hd hbd hCr hcr HKR KS HCb HB2 HO1b HO2 HCO HCWb
              go_wp2_with fail
              refine HKS.out.mono ?_
              rintro e wd ⟨rfl, hd⟩
              have hbd := below_of_drew hd
              have HCd := Lib.hid (HCc.out.next hbd)
              have HB4 := Lib.hid (HB3.out.trans (hbd.mono HB3.out.size))
              have HO1d := Lib.hid (own_move HO1c.out (w1 := wd) fun k e => hbd.block k (own_lt HO1c.out k e))
              have HO2d := Lib.hid (own_move HO2c.out (w1 := wd) fun k e => hbd.block k (own_lt HO2c.out k e))
              have HCOd := Lib.hid (Kd.C_below HCOc.out hbd)
              have KR := refOut_calls wd HCd.out.ref (H.out.below HCd.out.below) HCZ.out.2.1 z
              rw [show outR ps (trie ps) z = y from HYW.out] at KR
              have HKR := Lib.hid KR
              clear hd hbd HKS KR HCc HB3 HO1c HO2c HCOc
              go_wp2_with fail
              refine HKR.out.mono ?_
              rintro e we ⟨v3, rfl, ho3, hbd⟩
              obtain ⟨Ap, cp, hv3, hcp, hCp⟩ := own_ints_reads ho3
              subst hv3
              have HCe := Lib.hid (HCd.out.next hbd)
              have HB5 := Lib.hid (HB4.out.trans (hbd.mono HB4.out.size))
              have HO1e := Lib.hid (own_move HO1d.out (w1 := we) fun k e => hbd.block k (own_lt HO1d.out k e))
              have HO2e := Lib.hid (own_move HO2d.out (w1 := we) fun k e => hbd.block k (own_lt HO2d.out k e))
              have KI := ints_ctr rfl rfl (Kd.C_below HCOd.out hbd) HCO1.out hCp hcp
              rw [decide_eq_true rfl] at KI
              have HKI := Lib.hid KI
              clear ho3 hbd hCp hcp HKR KI HCd HB4 HO1d HO2d HCOd
              go_wp2_with fail
              refine HKI.out.mono ?_
              rintro e wf ⟨rfl, hd⟩
              have hbd := below_of_drew hd
              have HCf := Lib.hid (HCe.out.next hbd)
              have HB6 := Lib.hid (HB5.out.trans (hbd.mono HB5.out.size))
              have HO1f := Lib.hid (own_move HO1e.out (w1 := wf) fun k e => hbd.block k (own_lt HO1e.out k e))
              have HO2f := Lib.hid (own_move HO2e.out (w1 := wf) fun k e => hbd.block k (own_lt HO2e.out k e))
              have KD := depth_calls wf pa ps z HCf.out.mach
              rw [HDW.out] at KD
              have HKD := Lib.hid KD
              clear hd hbd HKI KD HCe HB5 HO1e HO2e
              go_wp2_with fail
              refine HKD.out.mono ?_
              rintro e wg ⟨rfl, hd⟩
              have hbd := below_of_drew hd
              have HCg := Lib.hid (HCf.out.next hbd)
              have HB7 := Lib.hid (HB6.out.trans (hbd.mono HB6.out.size))
              have HO1g := Lib.hid (own_move HO1f.out (w1 := wg) fun k e => hbd.block k (own_lt HO1f.out k e))
              have HO2g := Lib.hid (own_move HO2f.out (w1 := wg) fun k e => hbd.block k (own_lt HO2f.out k e))
              have KR := refWord_calls wg HCg.out.ref z
              rw [show wordR (trie ps) z = x from HXW.out] at KR
              have HKR := Lib.hid KR
              clear hd hbd HKD KR HCf HB6 HO1f HO2f
              go_wp2_with fail
              refine HKR.out.mono ?_
              rintro e wh ⟨Ar2, cr2, rfl, _, _, hd⟩
              have hbd := below_of_drew hd
              have HCh := Lib.hid (HCg.out.next hbd)
              have HB8 := Lib.hid (HB7.out.trans (hbd.mono HB7.out.size))
              have HO1h := Lib.hid (own_move HO1g.out (w1 := wh) fun k e => hbd.block k (own_lt HO1g.out k e))
              have HO2h := Lib.hid (own_move HO2g.out (w1 := wh) fun k e => hbd.block k (own_lt HO2g.out k e))
              have KF := fail_calls wh pa ps z HCh.out.mach
              rw [HFZ.out] at KF
              have HKF := Lib.hid KF
              clear hd hbd HKR KF HCg HB7 HO1g HO2g
              go_wp2_with fail
              refine HKF.out.mono ?_
              rintro e wi ⟨rfl, hd⟩
              have hbd := below_of_drew hd
              have HCi := Lib.hid (HCh.out.next hbd)
              have HB9 := Lib.hid (HB8.out.trans (hbd.mono HB8.out.size))
              have HO1i := Lib.hid (own_move HO1h.out (w1 := wi) fun k e => hbd.block k (own_lt HO1h.out k e))
              have HO2i := Lib.hid (own_move HO2h.out (w1 := wi) fun k e => hbd.block k (own_lt HO2h.out k e))
              have KR := refFail_calls wi HCi.out.ref z
              rw [show failR (trie ps) z = fz from HFZ.out] at KR
              have HKR := Lib.hid KR
              clear hd hbd HKF KR HCh HB8 HO1h HO2h
              go_wp2_with fail
              refine HKR.out.mono ?_
              rintro e wj ⟨rfl, hd⟩
              have hbd := below_of_drew hd
              have HBj := Lib.hid (HB9.out.trans (hbd.mono HB9.out.size))
              have HO1j := Lib.hid (own_move HO1i.out (w1 := wj) fun k e => hbd.block k (own_lt HO1i.out k e))
              have HO2j := Lib.hid (own_weaken (own_move HO2i.out (w1 := wj) fun k e => hbd.block k (own_lt HO2i.out k e)) HSA.out)
              clear hd hbd HKR HCi HB9 HO1i HO2i
              go_wp2
              go_loopg [16] x.length (fun g2 vk wq => ∃ (k : Nat) (xs : List Int), vk = .int .i64 (k : Int) ∧ k ≤ x.length ∧ x.length - k ≤ g2 ∧ Hid (xs.length = x.length) ∧ Hid (wq.ownsRow W0.heap.size 5 1 (.slice Aw x.length cw) x.length (nums .u8 xs)) ∧ Hid (wq.ownsRow W0.heap.size 3 1 (.slice Ao y.length co) y.length (nums .i64 y)) ∧ Hid (Below W0.heap.size W0 wq))
              case atStart => exact ⟨0, x, rfl, Nat.zero_le _, Nat.le_refl _, rfl, HO1j, HO2j, HBj⟩
              case round =>
                clear HO1j HO2j HBj
                obtain ⟨k, xs, rfl, hk, hg2, HXL, HO1, HO2, HB⟩ := hrel
                by_cases hkl : k < x.length
                · have hkz : (k : Int) < (x.length : Int) := by omega
                  obtain ⟨gw, rfl, ⟨zz, hcell⟩, hfz, hbs, ⟨cells, hcs⟩, hst⟩ := own_bump HO1.out HXL.out hkl
                  obtain ⟨ys, hyl, hys⟩ := hst (IntKind.u8.wrap (zz + 1))
                  have HYS := Lib.hid hys
                  have HYL := Lib.hid hyl
                  have HCS := Lib.hid hcs
                  have HBS := Lib.hid hbs
                  have hwk : IntKind.i64.wrap ((k : Int) + 1) = (k : Int) + 1 := by rw [IntKind.wrap_i64]; omega
                  clear hst hys hyl hcs hbs
                  go_wp2
                  have HO2n := Lib.hid (own_set (w0 := W0) (j := k) (u := .int .u8 (IntKind.u8.wrap (zz + 1))) HO2.out HCS.out (by decide))
                  have HBn := Lib.hid (HB.out.grown (grown_set0 gw k (.int .u8 (IntKind.u8.wrap (zz + 1)))) HB.out.size (fun k' e => by rw [← Option.some.inj e]; exact HBS.out))
                  go_roundg (x.length - (k + 1))
                  case measure => omega
                  case rel => exact ⟨k + 1, ys, by go_num, by omega, Nat.le_refl _, HYL, HYS, HO2n, HBn⟩
                · obtain rfl : k = x.length := by omega
                  go_wp2
                  clear HO1 HXL
                  go_loopg [17] y.length (fun g3 vk wp => ∃ (k : Nat) (xs : List Int), vk = .int .i64 (k : Int) ∧ k ≤ y.length ∧ y.length - k ≤ g3 ∧ Hid (xs.length = y.length) ∧ Hid (wp.ownsRow W0.heap.size 3 1 (.slice Ao y.length co) y.length (nums .i64 xs)) ∧ Hid (Below W0.heap.size W0 wp))
                  case atStart => exact ⟨0, y, rfl, Nat.zero_le _, Nat.le_refl _, rfl, HO2, HB⟩
                  case round =>
                    clear HO2 HB
                    obtain ⟨k, xs, rfl, hk, hg3, HXL, HO2, HB⟩ := hrel
                    by_cases hkl : k < y.length
                    · have hkz : (k : Int) < (y.length : Int) := by omega
                      obtain ⟨gw, rfl, ⟨zz, hcell⟩, hfz, hbs, _, hst⟩ := own_bump HO2.out HXL.out hkl
                      obtain ⟨ys, hyl, hys⟩ := hst (wrap64 (zz + 1))
                      have HYS := Lib.hid hys
                      have HYL := Lib.hid hyl
                      have HBS := Lib.hid hbs
                      have hwk : IntKind.i64.wrap ((k : Int) + 1) = (k : Int) + 1 := by rw [IntKind.wrap_i64]; omega
                      clear hst hys hyl hbs
                      go_wp2
                      have HBn := Lib.hid (HB.out.grown (grown_set0 gw k (.int .i64 (wrap64 (zz + 1)))) HB.out.size (fun k' e => by rw [← Option.some.inj e]; exact HBS.out))
                      go_roundg (y.length - (k + 1))
                      case measure => omega
                      case rel => exact ⟨k + 1, ys, by go_num, by omega, Nat.le_refl _, HYL, HYS, HBn⟩
                    · obtain rfl : k = y.length := by omega
                      have HCz := Lib.hid (HC.out.next HB.out)
                      have KW := word_calls wr pa ps z HCz.out.mach
                      rw [HXW.out] at KW
                      have HKW2 := Lib.hid KW
                      clear KW HO2 HB HXL HC
                      go_wp2_with fail
                      refine HKW2.out.mono ?_
                      rintro e za ⟨v5, rfl, ho5, hb⟩
                      obtain ⟨Az, cz, hv5, hcz, hCz⟩ := own_bytes_reads ho5
                      subst hv5
                      have HCa := Lib.hid (HCz.out.next hb)
                      have HCZ5 := Lib.hid hCz
                      have HCZ6 := Lib.hid hcz
                      have KR := refWord_calls za HCa.out.ref z
                      rw [show wordR (trie ps) z = x from HXW.out] at KR
                      have HKR := Lib.hid KR
                      clear ho5 hb hCz hcz HKW2 KR HCz
                      go_wp2_with fail
                      refine HKR.out.mono ?_
                      rintro e zb ⟨Ar3, cr3, rfl, hcr, hCr, hd⟩
                      have hbd := below_of_drew hd
                      have HCb := Lib.hid (HCa.out.next hbd)
                      have KS := same_ctr (Kd.C_below HCZ5.out hbd) HCZ6.out hCr hcr
                      rw [decide_eq_true rfl] at KS
                      have HKS := Lib.hid KS
                      clear hd hbd hCr hcr HKR KS HCa HCZ5 HCZ6
                      go_wp2_with fail
                      refine HKS.out.mono ?_
                      rintro e zc ⟨rfl, hd⟩
                      have HCc := Lib.hid (HCb.out.next (below_of_drew hd))
                      have KO := out_calls zc pa ps z HCc.out.mach
                      rw [HYW.out] at KO
                      have HKO := Lib.hid KO
                      clear hd HKS KO HCb
                      go_wp2_with fail
                      refine HKO.out.mono ?_
                      rintro e zd ⟨v6, rfl, ho6, hb⟩
                      obtain ⟨Ay, cy, hv6, hcy, hCy⟩ := own_ints_reads ho6
                      subst hv6
                      have HCd := Lib.hid (HCc.out.next hb)
                      have HCY := Lib.hid hCy
                      have HCY1 := Lib.hid hcy
                      have KR := refOut_calls zd HCd.out.ref (H.out.below HCd.out.below) HCZ.out.2.1 z
                      rw [show outR ps (trie ps) z = y from HYW.out] at KR
                      have HKR := Lib.hid KR
                      clear ho6 hb hCy hcy HKO KR HCc
                      go_wp2_with fail
                      refine HKR.out.mono ?_
                      rintro e ze ⟨v7, rfl, ho7, hbd⟩
                      obtain ⟨Ap2, cp2, hv7, hcp, hCp⟩ := own_ints_reads ho7
                      subst hv7
                      have HCe := Lib.hid (HCd.out.next hbd)
                      have KI := ints_ctr rfl rfl (Kd.C_below HCY.out hbd) HCY1.out hCp hcp
                      rw [decide_eq_true rfl] at KI
                      have HKI := Lib.hid KI
                      clear ho7 hbd hCp hcp HKR KI HCd HCY HCY1
                      go_wp2_with fail
                      refine HKI.out.mono ?_
                      rintro e zf ⟨rfl, hd⟩
                      have HCf := Lib.hid (HCe.out.next (below_of_drew hd))
                      clear hd HKI HCe
                      go_wp2
                      go_roundg (((N : Int) + 1 - (z + 1)).toNat)
                      case measure => omega
                      case rel => exact ⟨z + 1, rfl, by omega, by omega, Nat.le_refl _, HCf⟩
            · have HAL2 := HAL.out
              have h32 : ∀ x ∈ trie ps, x.length ≤ 32 := fun x hx => by
                rcases (mem_trie ps x).1 hx with rfl | ⟨p, hp, h⟩
                · exact Nat.zero_le _
                · exact Nat.le_trans h.length_le (HCZ.out.2.2 p hp).2
              have H32 := Lib.hid h32
              clear h32
              go_wp2
              clear hcw
              go_loopg [18] ask.length (fun g2 vi wr => ∃ i : Nat, vi = .int .i64 (i : Int) ∧ i ≤ ask.length ∧ ask.length - i ≤ g2 ∧ Hid (CtxV w wr g pa A c ps))
              case atStart => exact ⟨0, rfl, Nat.zero_le _, Nat.le_refl _, HC⟩
              case round =>
                clear HC
                obtain ⟨i, rfl, hi, hg2, HC⟩ := hrel
                by_cases hlt : i < ask.length
                · have hiz : (i : Int) < (ask.length : Int) := by omega
                  obtain ⟨ad, rfl, h1, h2⟩ := HX.out.below HC.out.below i hlt
                  obtain ⟨s, hs⟩ : ∃ s, ask[i].1 = s := ⟨_, rfl⟩
                  obtain ⟨bq, hbq⟩ : ∃ b, ask[i].2 = b := ⟨_, rfl⟩
                  rw [hs] at h1
                  rw [hbq] at h2
                  have hbr : 0 ≤ IntKind.u8.wrap bq ∧ IntKind.u8.wrap bq ≤ 255 := by
                    rw [IntKind.wrap_u8]; omega
                  obtain ⟨nz, hnz⟩ : ∃ nz, nextT ps s (IntKind.u8.wrap bq) = nz := ⟨_, rfl⟩
                  have KN := next_calls wr.drew pa ps s (IntKind.u8.wrap bq) (HC.out.mach.below (below_drewN' (Below.refl _ _) 1)) hbr
                  rw [hnz] at KN
                  have HKN := Lib.hid KN
                  have HKR : Hid (∀ q, Calls Try.prog 41 #[.pointer (some ⟨g, 0, none⟩), .int .i64 s, .int .u8 (IntKind.u8.wrap bq)] (wr.drew.drewN q) fun e w' => e = .returned (.int .i64 nz) ∧ Below (wr.drew.drewN q).heap.size (wr.drew.drewN q) w') := fun q => by
                    have hbd : Below wr.heap.size wr (wr.drew.drewN q) := below_drewN' (below_drewN' (Below.refl _ _) 1) q
                    have := refNext_calls (wr.drew.drewN q) (HC.out.next hbd).ref H32.out s (IntKind.u8.wrap bq)
                    rwa [show nextR (trie ps) s (IntKind.u8.wrap bq) = nz from hnz] at this
                  have hwi : IntKind.i64.wrap ((i : Int) + 1) = (i : Int) + 1 := by rw [IntKind.wrap_i64]; omega
                  have h2' : wr.cell? ⟨(ad.add (i * 2)).block, (ad.add (i * 2)).off + 1, none⟩ = some (.int .i64 bq) := by rw [← add_field _ _ 1 (by omega)]; exact h2
                  clear h2
                  have h2 := h2'
                  clear h2'
                  clear hs hbq hbr hnz KN
                  go_upto_region 39 with (fail)
                  go_wp2_with fail
                  refine start_ (n := 27) (S := (fun w' => w'.cell? (ad.add (i * 2)) = some (.int .i64 s) ∧ w'.cell? ⟨(ad.add (i * 2)).block, (ad.add (i * 2)).off + 1, none⟩ = some (.int .i64 bq))) (ds := []) #[false, false, false, false, false, false, false, false, false, false, false, false, false, false, false, false, false, false, false, false, false, false, false, false, false, false, false] (by kernel_rfl) rfl rfl ?_ (fun hHeld => ?_)
                  · exact ⟨h1, h2⟩
                  refine pure_ (i := 0) (N := some 192) (v := ?_) (a' := ?_) #[true, false, false, false, false, false, false, false, false, false, false, false, false, false, false, false, false, false, false, false, false, false, false, false, false, false, false] rfl rfl (by kernel_rfl) (fun _ _ _ h => h) (Or.inl ⟨by rfl, ?_⟩) ?_ ?_
                  rotate_left
                  · intro w'
                    go_simp
                    with_reducible rfl
                  rotate_left
                  · simp only [Act.put, List.setIfInBounds_toArray, List.set_cons_zero, List.set_cons_succ, i64_w, i32_w]
                    rfl
                  refine pure_ (i := 1) (N := some 193) (v := ?_) (a' := ?_) #[true, true, false, false, false, false, false, false, false, false, false, false, false, false, false, false, false, false, false, false, false, false, false, false, false, false, false] rfl rfl (by kernel_rfl) (fun _ _ _ h => h) (Or.inl ⟨by rfl, ?_⟩) ?_ ?_
                  rotate_left
                  · intro w'
                    go_simp
                    with_reducible rfl
                  rotate_left
                  · simp only [Act.put, List.setIfInBounds_toArray, List.set_cons_zero, List.set_cons_succ, i64_w, i32_w]
                    rfl
                  refine pure_ (i := 2) (N := some 194) (v := ?_) (a' := ?_) #[true, true, true, false, false, false, false, false, false, false, false, false, false, false, false, false, false, false, false, false, false, false, false, false, false, false, false] rfl rfl (by kernel_rfl) (fun _ _ _ h => h) (Or.inl ⟨by rfl, ?_⟩) ?_ ?_
                  rotate_left
                  · intro w'
                    go_simp
                    with_reducible rfl
                  rotate_left
                  · simp only [Act.put, List.setIfInBounds_toArray, List.set_cons_zero, List.set_cons_succ, i64_w, i32_w]
                    rfl
                  refine pure_ (i := 3) (N := some 195) (v := ?_) (a' := ?_) #[true, true, true, true, false, false, false, false, false, false, false, false, false, false, false, false, false, false, false, false, false, false, false, false, false, false, false] rfl rfl (by kernel_rfl) (fun _ _ _ h => h) (Or.inl ⟨by rfl, ?_⟩) ?_ ?_
                  rotate_left
                  · intro w'
                    go_simp
                    with_reducible rfl
                  rotate_left
                  · simp only [Act.put, List.setIfInBounds_toArray, List.set_cons_zero, List.set_cons_succ, i64_w, i32_w]
                    rfl
                  refine pure_ (i := 4) (N := some 196) (v := ?_) (a' := ?_) #[true, true, true, true, true, false, false, false, false, false, false, false, false, false, false, false, false, false, false, false, false, false, false, false, false, false, false] rfl rfl (by kernel_rfl) (fun _ _ _ h => h) (Or.inl ⟨by rfl, ?_⟩) ?_ ?_
                  rotate_left
                  · intro w'
                    go_simp
                    with_reducible rfl
                  rotate_left
                  · simp only [Act.put, List.setIfInBounds_toArray, List.set_cons_zero, List.set_cons_succ, i64_w, i32_w]
                    rfl
                  refine take_ (i := 5) (N := some 197) (v := ?_) (a' := ?_) #[true, true, true, true, true, true, false, false, false, false, false, false, false, false, false, false, false, false, false, false, false, false, false, false, false, false, false] rfl rfl (by kernel_rfl) (fun _ _ _ h => h) (Or.inl ⟨by rfl, ?_⟩) hHeld ?_ ?_
                  rotate_left
                  · rintro w' ⟨s0, s1⟩
                    go_simp
                    with_reducible rfl
                  rotate_left
                  · simp only [Act.put, List.setIfInBounds_toArray, List.set_cons_zero, List.set_cons_succ, i64_w, i32_w]
                    rfl
                  refine pure_ (i := 6) (N := some 198) (v := ?_) (a' := ?_) #[true, true, true, true, true, true, true, false, false, false, false, false, false, false, false, false, false, false, false, false, false, false, false, false, false, false, false] rfl rfl (by kernel_rfl) (fun _ _ _ h => h) (Or.inl ⟨by rfl, ?_⟩) ?_ ?_
                  rotate_left
                  · intro w'
                    go_simp
                    with_reducible rfl
                  rotate_left
                  · simp only [Act.put, List.setIfInBounds_toArray, List.set_cons_zero, List.set_cons_succ, i64_w, i32_w]
                    rfl
                  refine pure_ (i := 7) (N := some 199) (v := ?_) (a' := ?_) #[true, true, true, true, true, true, true, true, false, false, false, false, false, false, false, false, false, false, false, false, false, false, false, false, false, false, false] rfl rfl (by kernel_rfl) (fun _ _ _ h => h) (Or.inl ⟨by rfl, ?_⟩) ?_ ?_
                  rotate_left
                  · intro w'
                    go_simp
                    with_reducible rfl
                  rotate_left
                  · simp only [Act.put, List.setIfInBounds_toArray, List.set_cons_zero, List.set_cons_succ, i64_w, i32_w]
                    rfl
                  refine pure_ (i := 8) (N := some 200) (v := ?_) (a' := ?_) #[true, true, true, true, true, true, true, true, true, false, false, false, false, false, false, false, false, false, false, false, false, false, false, false, false, false, false] rfl rfl (by kernel_rfl) (fun _ _ _ h => h) (Or.inl ⟨by rfl, ?_⟩) ?_ ?_
                  rotate_left
                  · intro w'
                    go_simp
                    with_reducible rfl
                  rotate_left
                  · simp only [Act.put, List.setIfInBounds_toArray, List.set_cons_zero, List.set_cons_succ, i64_w, i32_w]
                    rfl
                  refine pure_ (i := 9) (N := some 201) (v := ?_) (a' := ?_) #[true, true, true, true, true, true, true, true, true, true, false, false, false, false, false, false, false, false, false, false, false, false, false, false, false, false, false] rfl rfl (by kernel_rfl) (fun _ _ _ h => h) (Or.inl ⟨by rfl, ?_⟩) ?_ ?_
                  rotate_left
                  · intro w'
                    go_simp
                    with_reducible rfl
                  rotate_left
                  · simp only [Act.put, List.setIfInBounds_toArray, List.set_cons_zero, List.set_cons_succ, i64_w, i32_w]
                    rfl
                  refine take_ (i := 10) (N := some 202) (v := ?_) (a' := ?_) #[true, true, true, true, true, true, true, true, true, true, true, false, false, false, false, false, false, false, false, false, false, false, false, false, false, false, false] rfl rfl (by kernel_rfl) (fun _ _ _ h => h) (Or.inl ⟨by rfl, ?_⟩) hHeld ?_ ?_
                  rotate_left
                  · rintro w' ⟨s0, s1⟩
                    go_simp
                    with_reducible rfl
                  rotate_left
                  · simp only [Act.put, List.setIfInBounds_toArray, List.set_cons_zero, List.set_cons_succ, i64_w, i32_w]
                    rfl
                  refine pure_ (i := 11) (N := some 203) (v := ?_) (a' := ?_) #[true, true, true, true, true, true, true, true, true, true, true, true, false, false, false, false, false, false, false, false, false, false, false, false, false, false, false] rfl rfl (by kernel_rfl) (fun _ _ _ h => h) (Or.inl ⟨by rfl, ?_⟩) ?_ ?_
                  rotate_left
                  · intro w'
                    go_simp
                    with_reducible rfl
                  rotate_left
                  · simp only [Act.put, List.setIfInBounds_toArray, List.set_cons_zero, List.set_cons_succ, i64_w, i32_w]
                    rfl
                  refine pure_ (i := 13) (N := some 205) (v := ?_) (a' := ?_) #[true, true, true, true, true, true, true, true, true, true, true, true, false, true, false, false, false, false, false, false, false, false, false, false, false, false, false] rfl rfl (by kernel_rfl) (fun _ _ _ h => h) (Or.inl ⟨by rfl, ?_⟩) ?_ ?_
                  rotate_left
                  · intro w'
                    go_simp
                    with_reducible rfl
                  rotate_left
                  · simp only [Act.put, List.setIfInBounds_toArray, List.set_cons_zero, List.set_cons_succ, i64_w, i32_w]
                    rfl
                  refine pure_ (i := 14) (N := some 206) (v := ?_) (a' := ?_) #[true, true, true, true, true, true, true, true, true, true, true, true, false, true, true, false, false, false, false, false, false, false, false, false, false, false, false] rfl rfl (by kernel_rfl) (fun _ _ _ h => h) (Or.inl ⟨by rfl, ?_⟩) ?_ ?_
                  rotate_left
                  · intro w'
                    go_simp
                    with_reducible rfl
                  rotate_left
                  · simp only [Act.put, List.setIfInBounds_toArray, List.set_cons_zero, List.set_cons_succ, i64_w, i32_w]
                    rfl
                  refine pure_ (i := 15) (N := some 207) (v := ?_) (a' := ?_) #[true, true, true, true, true, true, true, true, true, true, true, true, false, true, true, true, false, false, false, false, false, false, false, false, false, false, false] rfl rfl (by kernel_rfl) (fun _ _ _ h => h) (Or.inl ⟨by rfl, ?_⟩) ?_ ?_
                  rotate_left
                  · intro w'
                    go_simp
                    with_reducible rfl
                  rotate_left
                  · simp only [Act.put, List.setIfInBounds_toArray, List.set_cons_zero, List.set_cons_succ, i64_w, i32_w]
                    rfl
                  refine pure_ (i := 16) (N := some 208) (v := ?_) (a' := ?_) #[true, true, true, true, true, true, true, true, true, true, true, true, false, true, true, true, true, false, false, false, false, false, false, false, false, false, false] rfl rfl (by kernel_rfl) (fun _ _ _ h => h) (Or.inl ⟨by rfl, ?_⟩) ?_ ?_
                  rotate_left
                  · intro w'
                    go_simp
                    with_reducible rfl
                  rotate_left
                  · simp only [Act.put, List.setIfInBounds_toArray, List.set_cons_zero, List.set_cons_succ, i64_w, i32_w]
                    rfl
                  refine pure_ (i := 17) (N := some 209) (v := ?_) (a' := ?_) #[true, true, true, true, true, true, true, true, true, true, true, true, false, true, true, true, true, true, false, false, false, false, false, false, false, false, false] rfl rfl (by kernel_rfl) (fun _ _ _ h => h) (Or.inl ⟨by rfl, ?_⟩) ?_ ?_
                  rotate_left
                  · intro w'
                    go_simp
                    with_reducible rfl
                  rotate_left
                  · simp only [Act.put, List.setIfInBounds_toArray, List.set_cons_zero, List.set_cons_succ, i64_w, i32_w]
                    rfl
                  refine take_ (i := 18) (N := some 210) (v := ?_) (a' := ?_) #[true, true, true, true, true, true, true, true, true, true, true, true, false, true, true, true, true, true, true, false, false, false, false, false, false, false, false] rfl rfl (by kernel_rfl) (fun _ _ _ h => h) (Or.inl ⟨by rfl, ?_⟩) hHeld ?_ ?_
                  rotate_left
                  · rintro w' ⟨s0, s1⟩
                    go_simp
                    with_reducible rfl
                  rotate_left
                  · simp only [Act.put, List.setIfInBounds_toArray, List.set_cons_zero, List.set_cons_succ, i64_w, i32_w]
                    rfl
                  refine pure_ (i := 19) (N := some 211) (v := ?_) (a' := ?_) #[true, true, true, true, true, true, true, true, true, true, true, true, false, true, true, true, true, true, true, true, false, false, false, false, false, false, false] rfl rfl (by kernel_rfl) (fun _ _ _ h => h) (Or.inl ⟨by rfl, ?_⟩) ?_ ?_
                  rotate_left
                  · intro w'
                    go_simp
                    with_reducible rfl
                  rotate_left
                  · simp only [Act.put, List.setIfInBounds_toArray, List.set_cons_zero, List.set_cons_succ, i64_w, i32_w]
                    rfl
                  refine pure_ (i := 20) (N := some 212) (v := ?_) (a' := ?_) #[true, true, true, true, true, true, true, true, true, true, true, true, false, true, true, true, true, true, true, true, true, false, false, false, false, false, false] rfl rfl (by kernel_rfl) (fun _ _ _ h => h) (Or.inl ⟨by rfl, ?_⟩) ?_ ?_
                  rotate_left
                  · intro w'
                    go_simp
                    with_reducible rfl
                  rotate_left
                  · simp only [Act.put, List.setIfInBounds_toArray, List.set_cons_zero, List.set_cons_succ, i64_w, i32_w]
                    rfl
                  refine pure_ (i := 21) (N := some 213) (v := ?_) (a' := ?_) #[true, true, true, true, true, true, true, true, true, true, true, true, false, true, true, true, true, true, true, true, true, true, false, false, false, false, false] rfl rfl (by kernel_rfl) (fun _ _ _ h => h) (Or.inl ⟨by rfl, ?_⟩) ?_ ?_
                  rotate_left
                  · intro w'
                    go_simp
                    with_reducible rfl
                  rotate_left
                  · simp only [Act.put, List.setIfInBounds_toArray, List.set_cons_zero, List.set_cons_succ, i64_w, i32_w]
                    rfl
                  refine pure_ (i := 22) (N := some 214) (v := ?_) (a' := ?_) #[true, true, true, true, true, true, true, true, true, true, true, true, false, true, true, true, true, true, true, true, true, true, true, false, false, false, false] rfl rfl (by kernel_rfl) (fun _ _ _ h => h) (Or.inl ⟨by rfl, ?_⟩) ?_ ?_
                  rotate_left
                  · intro w'
                    go_simp
                    with_reducible rfl
                  rotate_left
                  · simp only [Act.put, List.setIfInBounds_toArray, List.set_cons_zero, List.set_cons_succ, i64_w, i32_w]
                    rfl
                  refine take_ (i := 23) (N := some 215) (v := ?_) (a' := ?_) #[true, true, true, true, true, true, true, true, true, true, true, true, false, true, true, true, true, true, true, true, true, true, true, true, false, false, false] rfl rfl (by kernel_rfl) (fun _ _ _ h => h) (Or.inl ⟨by rfl, ?_⟩) hHeld ?_ ?_
                  rotate_left
                  · rintro w' ⟨s0, s1⟩
                    go_simp
                    with_reducible rfl
                  rotate_left
                  · simp only [Act.put, List.setIfInBounds_toArray, List.set_cons_zero, List.set_cons_succ, i64_w, i32_w]
                    rfl
                  refine pure_ (i := 24) (N := some 216) (v := ?_) (a' := ?_) #[true, true, true, true, true, true, true, true, true, true, true, true, false, true, true, true, true, true, true, true, true, true, true, true, true, false, false] rfl rfl (by kernel_rfl) (fun _ _ _ h => h) (Or.inl ⟨by rfl, ?_⟩) ?_ ?_
                  rotate_left
                  · intro w'
                    go_simp
                    with_reducible rfl
                  rotate_left
                  · simp only [Act.put, List.setIfInBounds_toArray, List.set_cons_zero, List.set_cons_succ, i64_w, i32_w]
                    rfl
                  refine one_ (i := 12) (N := some 204) #[true, true, true, true, true, true, true, true, true, true, true, true, true, true, true, true, true, true, true, true, true, true, true, true, true, false, false] rfl rfl (by kernel_rfl) (by decide) (fun K hK => ?_)
                  refine call_ 21 #[.pointer (some ⟨pa, 0, none⟩), .int .i64 s, .int .u8 (IntKind.u8.wrap bq)] (by rfl) rfl (by go_simp) ?_
                  refine HKN.out.mono ?_
                  rintro e y1 ⟨rfl, q, rfl⟩
                  refine ⟨_, rfl, ?_⟩
                  refine hK.out _ _ ⟨h1, h2⟩ (fun hHeld => ?_)
                  clear hK K
                  refine norm_ (a' := ?_) ?_ ?_
                  rotate_left
                  · show Act.put _ (some 204) _ = _
                    simp only [Act.put, List.setIfInBounds_toArray, List.set_cons_zero, List.set_cons_succ, i64_w, i32_w]
                    rfl
                  refine one_ (i := 25) (N := some 217) #[true, true, true, true, true, true, true, true, true, true, true, true, true, true, true, true, true, true, true, true, true, true, true, true, true, true, false] rfl rfl (by kernel_rfl) (by decide) (fun K hK => ?_)
                  refine call_ 41 #[.pointer (some ⟨g, 0, none⟩), .int .i64 s, .int .u8 (IntKind.u8.wrap bq)] (by rfl) rfl (by go_simp) ?_
                  refine (HKR.out q).mono ?_
                  rintro e y2 ⟨rfl, hby⟩
                  refine ⟨_, rfl, ?_⟩
                  refine hK.out _ _ ⟨cell_below hby h1, cell_below hby h2⟩ (fun hHeld => ?_)
                  clear hK K
                  refine norm_ (a' := ?_) ?_ ?_
                  rotate_left
                  · show Act.put _ (some 217) _ = _
                    simp only [Act.put, List.setIfInBounds_toArray, List.set_cons_zero, List.set_cons_succ, i64_w, i32_w]
                    rfl
                  refine pure_ (i := 26) (N := some 218) (v := ?_) (a' := ?_) #[true, true, true, true, true, true, true, true, true, true, true, true, true, true, true, true, true, true, true, true, true, true, true, true, true, true, true] rfl rfl (by kernel_rfl) (fun _ _ _ h => h) (Or.inl ⟨by rfl, ?_⟩) ?_ ?_
                  rotate_left
                  · intro w'
                    go_simp
                    with_reducible rfl
                  rotate_left
                  · simp only [Act.put, List.setIfInBounds_toArray, List.set_cons_zero, List.set_cons_succ, i64_w, i32_w]
                    rfl
                  refine done_ (by kernel_rfl) ?_
                  have hbd : Below wr.heap.size wr (wr.drew.drewN q) := below_drewN' (below_drewN' (Below.refl _ _) 1) q
                  have HC2 := Lib.hid ((HC.out.next hbd).next hby)
                  clear hbd hby hHeld h1 h2 HKN HKR
                  go_wp2
                  go_roundg (ask.length - (i + 1))
                  case measure => omega
                  case rel => exact ⟨i + 1, by go_num, by omega, Nat.le_refl _, HC2⟩
                · have hiz : ¬ (i : Int) < (ask.length : Int) := by omega
                  go_wp2_with fail
                  refine (awake6_calls _).mono ?_
                  rintro e w8 ⟨rfl, hb⟩
                  have B8 := Lib.hid (HC.out.below.trans (hb.mono HC.out.below.size))
                  clear hb
                  go_wp2
                  go_ret
                  exact ⟨rfl, B8.out⟩
end Go.Proofs.Ytdciniefkodeaaa.PAll
