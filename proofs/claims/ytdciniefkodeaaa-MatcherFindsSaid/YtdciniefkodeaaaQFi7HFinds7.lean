/- MatcherFinds, walked. -/
import Derived.Test.YtdciniefkodeaaaQFi7HNobody7
set_option linter.unusedVariables false
set_option linter.unusedSimpArgs false
namespace Go.Proofs.Ytdciniefkodeaaa.PAll
open Go.Sort Go.RowKit Go.Proofs.YtdciniefkodeaaaW.PrintWords Go.Proofs.YtdciniefkodeaaaW.PrintLast Go.Proofs.YtdciniefkodeaaaW.PrintMore
/-- A machine and a matcher over it, above the first world. -/
structure CtxM (w wr : World) (pa bm : Nat) (ps : List Wd) (s t : Int) : Prop where
  below : Below w.heap.size w wr
  mach : MachAt wr pa ps
  mat : MatAt wr bm pa s t
  bbm : w.heap.size ≤ bm
theorem CtxM.step {w wr w1 : World} {pa bm : Nat} {ps : List Wd} {s t s2 t2 : Int} (h : CtxM w wr pa bm ps s t) (hg : wr.grownBy w1 (some bm)) (hm : MatAt w1 bm pa s2 t2) : CtxM w w1 pa bm ps s2 t2 := by
  refine ⟨h.below.grown hg h.below.size (fun k e => by rw [← Option.some.inj e]; exact h.bbm), h.mach.moved fun k ty cells hk ht => hg.block k (Array.getElem?_eq_some_iff.1 hk).1 (fun e => ne_of_types hk h.mat (by rcases ht with rfl | rfl | rfl | rfl <;> decide) (Option.some.inj e)), hm, h.bbm⟩
theorem CtxM.next {w wr w1 : World} {pa bm : Nat} {ps : List Wd} {s t : Int} (h : CtxM w wr pa bm ps s t) (hb : Below wr.heap.size wr w1) : CtxM w w1 pa bm ps s t :=
  ⟨below_next h.below hb, h.mach.below hb, h.mat.below hb, h.bbm⟩
set_option maxHeartbeats 4000000 in
set_option maxRecDepth 1000000 in
theorem finds_walk (A : Option Addr) (c : Nat) (ps : List Wd) (A1 : Option Addr) (c1 : Nat) (x : Wd) (w : World) (h : PsAt w A c ps) (hx : TxAt w A1 c1 x) : Calls Try.prog 12 #[.slice A ps.length c, .slice A1 x.length c1] w fun e w' => e = .returned (.bool true) ∧ Below w.heap.size w w' := by
  have K0 := Lib.hid (copy_ctr h)
  have H := Lib.hid h
  have HX := Lib.hid hx
  clear h hx
  go_enter Try.func12, Try.ntmps12
  go_wp2_with fail
  refine K0.out.mono ?_
  rintro e w2 ⟨A2, c2, rfl, hp, hb⟩
  have B2 := Lib.hid hb
  have K2 := Lib.hid (build_ctr hp)
  clear hp hb K0
  go_wp2_with fail
  refine K2.out.mono ?_
  rintro e w3 ⟨hb, hr⟩
  have B3 := Lib.hid (B2.out.trans (hb.mono B2.out.size))
  clear hb K2 B2
  rcases hr with ⟨hz0, rfl⟩ | ⟨hz0, pa, rfl, hm⟩
  · have e0 : (chkW ps != 0) = true := by simp [hz0]
    clear hz0
    go_wp2_with fail
    refine (new_none _).mono ?_
    rintro e w4 ⟨rfl, hd⟩
    have B4 := Lib.hid (below_next B3.out (below_of_drew hd))
    clear hd B3
    go_wp2_with fail
    refine (awake7_calls _).mono ?_
    rintro e w6 ⟨rfl, hb⟩
    have B6 := Lib.hid (below_next B4.out hb)
    clear hb B4
    go_wp2
    go_ret
    exact ⟨rfl, B6.out⟩
  · have HZ := Lib.hid (show chkW ps = 0 from hz0)
    have HM := Lib.hid hm
    clear hz0 hm
    go_wp2_with fail
    refine (new_calls _ _).mono ?_
    rintro e w4 ⟨bm, rfl, hbm, hmat, hb⟩
    have HC : Hid (CtxM w w4 pa bm ps 0 0) := ⟨below_next B3.out hb, HM.out.below hb, hmat, by rw [hbm]; exact B3.out.size⟩
    clear hbm hmat hb B3 HM
    have hpn := (chkW_zero HZ.out).2.1
    have hxn : x.length < 140737488355328 := HX.out.size
    have hcap1 : x.length ≤ c1 := HX.out.cap
    go_wp2
    go_loopg [9] x.length (fun g1 vi wr => ∃ i s : Nat, vi = .int .i64 (i : Int) ∧ i ≤ x.length ∧ i ≤ 400 ∧ x.length - i ≤ g1 ∧ Hid (StAt ps s (x.take i)) ∧ Hid (CtxM w wr pa bm ps (s : Int) (i : Int)))
    case atStart => exact ⟨0, 0, rfl, Nat.zero_le _, Nat.zero_le _, Nat.le_refl _, st_zero ps, HC⟩
    case round =>
      clear HC
      obtain ⟨i, s, rfl, hi, hi3, hg1, HS, HC⟩ := hrel
      by_cases hlt : i < x.length
      · by_cases hl3 : i < 400
        · have hiz : (i : Int) < (x.length : Int) := by omega
          have hi3z : (i : Int) < 400 := by omega
          obtain ⟨ad, rfl, hcell⟩ := tx_byte (HX.out.below HC.out.below) hlt
          obtain ⟨b, hb⟩ : ∃ b, x.getD i 0 = b := ⟨_, rfl⟩
          have hbb := text_byte HX.out.bytes hlt
          have hnx := st_next HS.out b
          have hts := text_step hlt
          rw [hb] at hcell hbb hts
          rw [← hts] at hnx
          have KN := Lib.hid (step_calls wr bm pa ps (s : Int) (i : Int) b HC.out.mat HC.out.mach hbb ⟨by omega, by omega⟩)
          rw [hnx.1] at KN
          obtain ⟨s2, hs2⟩ : ∃ s2, nxT (trie ps) s b = s2 := ⟨_, rfl⟩
          rw [hs2] at KN hnx
          have HS2 := Lib.hid hnx.2
          have hat : atT (i : Int) = ((i + 1 : Nat) : Int) := by unfold atT; rw [if_neg (by omega)]; omega
          rw [st_out HS2.out, hat] at KN
          clear hb hbb hnx hts hs2 HS hat
          go_wp2_with fail
          refine KN.out.mono ?_
          rintro e w5 ⟨v, rfl, ho, hm5, hg5⟩
          obtain ⟨Ao, co, rfl, hco, hCo⟩ := own_ints_reads ho
          have HC5 := Lib.hid (HC.out.step hg5 hm5)
          have HCo := Lib.hid hCo
          have hol := (outs_len hpn (x.take (i + 1))).1
          clear ho hCo hm5 hg5 KN HC hcell
          obtain ⟨L, hL⟩ : ∃ L, (outsW ps (x.take (i + 1))).length = L := ⟨_, rfl⟩
          rw [hL] at hol hco HCo ⊢
          have HL := Lib.hid hL
          clear hL
          have hw1 : IntKind.i64.wrap ((i : Int) + 1) = (i : Int) + 1 := by rw [IntKind.wrap_i64]; omega
          go_wp2
          go_loopg [11, 12] ps.length (fun g2 vn vk wr => ∃ n k : Nat, vn = .int .i64 n ∧ vk = .int .i64 k ∧ k ≤ ps.length ∧ ps.length - k ≤ g2 ∧ n = cntW ps (x.take (i + 1)) k ∧ ∃ q, wr = w5.drewN q)
          case atStart => exact ⟨0, 0, rfl, rfl, Nat.zero_le _, Nat.le_refl _, rfl, 0, rfl⟩
          case round =>
            obtain ⟨n, k, rfl, rfl, hk, hg2, hn, hq⟩ := hrel
            have HQ := Lib.hid hq
            have HC6 := Lib.hid (HC5.out.next (below_of_drew hq))
            have HCo6 := Lib.hid (Kd.C_below HCo.out (below_of_drew hq))
            clear hq
            by_cases hkl : k < ps.length
            · have hkz : (k : Int) < (ps.length : Int) := by omega
              obtain ⟨ad2, Ak, ck, rfl, hrow, hck, hCk⟩ := ps_row (H.out.below HC6.out.below) hkl
              have hcs := cnt_succ ps (x.take (i + 1)) k
              have hat0 := cnt_at (ps := ps) (x := x.take (i + 1)) hkl
              obtain ⟨pk, hpk⟩ : ∃ pk, ps.getD k [] = pk := ⟨_, rfl⟩
              rw [hpk] at hrow hck hCk hcs hat0
              clear hpk
              have hT := Kd.C_take (HX.out.below HC6.out.below).reads (m := i + 1) (by omega)
              have htl : (x.take (i + 1)).length = i + 1 := by rw [List.length_take]; omega
              rw [htl] at hT
              have KE := fun q' => ends_ctr (w := wr.drewN q') (n := i + 1) (m := pk.length) (x := x.take (i + 1)) (y := pk) (c := c1) (d := ck) htl.symm rfl (Kd.C_below hT (below_drewN' (Below.refl _ _) q')) (by omega) (Kd.C_below hCk (below_drewN' (Below.refl _ _) q')) hck
              have HKE := Lib.hid KE
              have hcut := cut_tx (A := some ad) (n := x.length) (c := c1) (k := i + 1) (by omega) hcap1
              have hcut2 : ∀ W : World, (Instr.slice 32 (.slice (some ad) x.length c1) none (some (.int .i64 ((i : Int) + 1))) none).run Try.prog W = .ok (.slice (some ad) (i + 1) c1) W := fun W => by have := hcut W; rwa [Int.natCast_add] at this
              have hw2 : IntKind.i64.wrap ((k : Int) + 1) = (k : Int) + 1 := by rw [IntKind.wrap_i64]; omega
              clear KE hCk hT hcut
              by_cases hE : pk <:+ x.take (i + 1)
              · rw [if_pos hE, ← hn] at hcs
                have hat := hat0 hE
                rw [← hn] at hat
                have hnl : n < L := by rw [← HL.out]; exact (List.getElem?_eq_some_iff.1 hat).1
                have hnz : (n : Int) < (L : Int) := by omega
                have hnz2 : ¬ ((L : Int) ≤ (n : Int)) := by omega
                obtain ⟨ado, cso, eo, _, hKo, hco2⟩ := Kd.C_get HCo6.out (0 : Int) (n : Int) (by omega) (by omega)
                have hcell : wr.cell? (ado.add n) = some (.int .i64 (k : Int)) := by
                  have := hco2 0 _ (by rw [hKo]; rfl)
                  rw [Int.toNat_natCast, show n * (Kd.int IntKind.i64).sz + 0 = n from Nat.mul_one n, List.getD_eq_getElem?_getD, hat] at this
                  exact this
                subst eo
                have hw3 : IntKind.i64.wrap ((n : Int) + 1) = (n : Int) + 1 := by rw [IntKind.wrap_i64]; omega
                have KE := HKE.out
                simp only [decide_eq_true hE] at KE
                have HKE2 := Lib.hid KE
                have HCS := Lib.hid hcs
                clear KE HKE hat hKo hco2 hcs hE hn hat0
                go_wp2_with fail
                go_quiet (refine Calls.quiet_of (HKE2.out _))
                go_wp2
                go_roundg (ps.length - (k + 1))
                case measure => omega
                case rel =>
                  obtain ⟨q0, rfl⟩ := HQ.out
                  exact ⟨n + 1, k + 1, by go_num, by go_num, by omega, Nat.le_refl _, HCS.out.symm, q0 + nq, World.drewN_drewN _ _ _⟩
              · rw [if_neg hE, ← hn] at hcs
                have KE := HKE.out
                simp only [decide_eq_false hE] at KE
                have HKE2 := Lib.hid KE
                have HCS := Lib.hid hcs
                clear KE HKE hcs hE hn hat0
                go_wp2_with fail
                go_quiet (refine Calls.quiet_of (HKE2.out _))
                go_wp2
                go_roundg (ps.length - (k + 1))
                case measure => omega
                case rel =>
                  obtain ⟨q0, rfl⟩ := HQ.out
                  exact ⟨n, k + 1, rfl, by go_num, by omega, Nat.le_refl _, HCS.out.symm, q0 + nq, World.drewN_drewN _ _ _⟩
            · obtain rfl : k = ps.length := by omega
              rw [cnt_all, HL.out] at hn
              subst hn
              have KA := Lib.hid (at_calls wr bm pa _ _ HC6.out.mat)
              have hnc : ((i + 1 : Nat) : Int) = (i : Int) + 1 := by omega
              rw [hnc] at KA
              go_wp2_with fail
              refine KA.out.mono ?_
              rintro e w7 ⟨rfl, hd⟩
              have HC7 := Lib.hid (HC6.out.next (below_of_drew hd))
              clear hd KA hnc
              go_wp2
              go_roundg (x.length - (i + 1))
              case measure => omega
              case rel => exact ⟨i + 1, s2, by go_num, by omega, by omega, Nat.le_refl _, HS2, HC7⟩
        · have h3 : ¬ ((i : Int) < 400) := by omega
          have hiz : (i : Int) < (x.length : Int) := by omega
          go_wp2_with fail
          refine (awake7_calls _).mono ?_
          rintro e w6 ⟨rfl, hb⟩
          have B6 := Lib.hid (below_next HC.out.below hb)
          clear hb
          go_wp2
          go_ret
          exact ⟨rfl, B6.out⟩
      · have hiz : ¬ ((i : Int) < (x.length : Int)) := by omega
        go_wp2_with fail
        refine (awake7_calls _).mono ?_
        rintro e w6 ⟨rfl, hb⟩
        have B6 := Lib.hid (below_next HC.out.below hb)
        clear hb
        go_wp2
        go_ret
        exact ⟨rfl, B6.out⟩
end Go.Proofs.Ytdciniefkodeaaa.PAll
