/- MatcherSplits, walked. -/
import Derived.Deep.DeepCutAuto
import Derived.Deep.RegionHeld3
import Derived.Test.YtdciniefkodeaaaQSp7HHit1
set_option linter.unusedVariables false
set_option linter.unusedSimpArgs false
namespace Go.Proofs.Ytdciniefkodeaaa.PAll
open Go.Sort Go.RowKit Go.Proofs.YtdciniefkodeaaaW.PrintWords Go.Proofs.YtdciniefkodeaaaW.PrintLast Go.Proofs.YtdciniefkodeaaaW.PrintMore
/-- What Splits keeps: the machine, two matchers, the hits so far. -/
structure CtxS (w wr : World) (pa b1 b2 : Nat) (ps : List Wd) (v : Value) (hs : List (Int × Int)) (s1 t1 s2 t2 : Int) : Prop where
  below : Below w.heap.size w wr
  mach : MachAt wr pa ps
  m1 : MatAt wr b1 pa s1 t1
  m2 : MatAt wr b2 pa s2 t2
  ne : b1 ≠ b2
  bb1 : w.heap.size ≤ b1
  bb2 : w.heap.size ≤ b2
  own : wr.ownsRow w.heap.size 49 3 v hs.length (flatH hs)
theorem CtxS.next {w wr w1 : World} {pa b1 b2 : Nat} {ps : List Wd} {v : Value} {hs : List (Int × Int)} {s1 t1 s2 t2 : Int} (h : CtxS w wr pa b1 b2 ps v hs s1 t1 s2 t2) (hb : Below wr.heap.size wr w1) : CtxS w w1 pa b1 b2 ps v hs s1 t1 s2 t2 :=
  ⟨below_next h.below hb, h.mach.below hb, h.m1.below hb, h.m2.below hb, h.ne, h.bb1, h.bb2, own_move h.own fun k e => hb.block k (own_lt h.own k e)⟩
theorem mach_grown {wr w1 : World} {pa bm : Nat} {ps : List Wd} {s t : Int} (h : MachAt wr pa ps) (hm : MatAt wr bm pa s t) (hg : wr.grownBy w1 (some bm)) : MachAt w1 pa ps :=
  h.moved fun k ty cells hk ht => hg.block k (Array.getElem?_eq_some_iff.1 hk).1 (fun e => ne_of_types hk hm (by rcases ht with rfl | rfl | rfl | rfl <;> decide) (Option.some.inj e))
theorem own_grown {w0 wr w1 : World} {pa bm : Nat} {v : Value} {hs : List (Int × Int)} {s t : Int} (h : wr.ownsRow w0.heap.size 49 3 v hs.length (flatH hs)) (hm : MatAt wr bm pa s t) (hg : wr.grownBy w1 (some bm)) : w1.ownsRow w0.heap.size 49 3 v hs.length (flatH hs) :=
  own_move h fun k e => hg.block k (own_lt h k e) (fun e2 => by
    obtain ⟨c, hc⟩ := own_typed h k e
    exact absurd (Option.some.inj e2) (ne_of_types hc hm (by decide)))
theorem CtxS.step1 {w wr w1 : World} {pa b1 b2 : Nat} {ps : List Wd} {v : Value} {hs : List (Int × Int)} {s1 t1 s2 t2 s t : Int} (h : CtxS w wr pa b1 b2 ps v hs s1 t1 s2 t2) (hg : wr.grownBy w1 (some b1)) (hm : MatAt w1 b1 pa s t) : CtxS w w1 pa b1 b2 ps v hs s t s2 t2 :=
  ⟨h.below.grown hg h.below.size (fun k e => by rw [← Option.some.inj e]; exact h.bb1), mach_grown h.mach h.m1 hg, hm, (hg.block b2 (Array.getElem?_eq_some_iff.1 h.m2).1 (fun e => h.ne (Option.some.inj e).symm)).trans h.m2, h.ne, h.bb1, h.bb2, own_grown h.own h.m1 hg⟩
theorem CtxS.step2 {w wr w1 : World} {pa b1 b2 : Nat} {ps : List Wd} {v : Value} {hs : List (Int × Int)} {s1 t1 s2 t2 s t : Int} (h : CtxS w wr pa b1 b2 ps v hs s1 t1 s2 t2) (hg : wr.grownBy w1 (some b2)) (hm : MatAt w1 b2 pa s t) : CtxS w w1 pa b1 b2 ps v hs s1 t1 s t :=
  ⟨h.below.grown hg h.below.size (fun k e => by rw [← Option.some.inj e]; exact h.bb2), mach_grown h.mach h.m2 hg, (hg.block b1 (Array.getElem?_eq_some_iff.1 h.m1).1 (fun e => h.ne (Option.some.inj e))).trans h.m1, hm, h.ne, h.bb1, h.bb2, own_grown h.own h.m2 hg⟩
/-- Behind an append to the hits. -/
theorem CtxS.took {w wr w1 : World} {pa b1 b2 : Nat} {ps : List Wd} {v v2 : Value} {hs hs2 : List (Int × Int)} {s1 t1 s2 t2 : Int} (h : CtxS w wr pa b1 b2 ps v hs s1 t1 s2 t2) (hg : wr.grownBy w1 v.ownBlock) (ho : w1.ownsRow w.heap.size 49 3 v2 hs2.length (flatH hs2)) : CtxS w w1 pa b1 b2 ps v2 hs2 s1 t1 s2 t2 := by
  have hk : ∀ (k ty : Nat) (cells : Array Value), wr.heap[k]? = some (.cells cells ty (0, 0)) → ty ≠ 49 → w1.heap[k]? = wr.heap[k]? := fun k ty cells hk hne =>
    hg.block k (Array.getElem?_eq_some_iff.1 hk).1 (fun e => by
      obtain ⟨c, hc⟩ := own_typed h.own k e.symm
      exact absurd rfl (ne_of_types hk hc hne))
  exact ⟨hit_below h.own h.below hg, h.mach.moved fun k ty cells hkk ht => hk k ty cells hkk (by rcases ht with rfl | rfl | rfl | rfl <;> decide), (hk b1 _ _ h.m1 (by decide)).trans h.m1, (hk b2 _ _ h.m2 (by decide)).trans h.m2, h.ne, h.bb1, h.bb2, ho⟩
/-- A list of numbers of one's own stays too. -/
theorem CtxS.ints {w wr w1 : World} {pa b1 b2 : Nat} {ps : List Wd} {v : Value} {hs : List (Int × Int)} {s1 t1 s2 t2 : Int} (h : CtxS w wr pa b1 b2 ps v hs s1 t1 s2 t2) (hg : wr.grownBy w1 v.ownBlock) {base : Nat} {u : Value} {xs : List Int} (ho : OwnI wr base u xs) : OwnI w1 base u xs :=
  own_move ho fun k e => by
    obtain ⟨c, hc⟩ := own_typed ho k e
    exact hg.block k (own_lt ho k e) (fun e2 => by
      obtain ⟨c2, hc2⟩ := own_typed h.own k e2.symm
      exact absurd rfl (ne_of_types hc hc2 (by decide)))
theorem CtxS.swap {w wr : World} {pa b1 b2 : Nat} {ps : List Wd} {v : Value} {hs : List (Int × Int)} {s1 t1 s2 t2 : Int} (h : CtxS w wr pa b1 b2 ps v hs s1 t1 s2 t2) : CtxS w wr pa b2 b1 ps v hs s2 t2 s1 t1 :=
  ⟨h.below, h.mach, h.m2, h.m1, Ne.symm h.ne, h.bb2, h.bb1, h.own⟩
set_option maxHeartbeats 4000000 in
set_option maxRecDepth 1000000 in
theorem splits_walk (A : Option Addr) (c : Nat) (ps : List Wd) (A1 : Option Addr) (c1 : Nat) (x : Wd) (at_ : Int) (w : World) (h : PsAt w A c ps) (hx : TxAt w A1 c1 x) (hl : x.length ≤ 1048576) (hat : 0 ≤ at_ ∧ at_ ≤ 65535) : Calls Try.prog 13 #[.slice A ps.length c, .slice A1 x.length c1, .int .u16 at_] w fun e w' => e = .returned (.bool true) ∧ Below w.heap.size w w' := by
  have K0 := Lib.hid (copy_ctr h)
  have HX := Lib.hid hx
  have HL := Lib.hid hl
  clear h hx hl
  go_enter Try.func13, Try.ntmps13
  go_wp2_with fail
  refine K0.out.mono ?_
  rintro e w2 ⟨A3, c3, rfl, hp, hb⟩
  have B2 := Lib.hid hb
  have K2 := Lib.hid (build_ctr hp)
  clear hp hb K0
  go_wp2_with fail
  refine K2.out.mono ?_
  rintro e w3 ⟨hb, hr⟩
  have B3 := Lib.hid (B2.out.trans (hb.mono B2.out.size))
  clear hb K2 B2
  rcases hr with ⟨hz0, rfl⟩ | ⟨hz0, pa, rfl, hm⟩
  · clear hz0
    go_wp2_with fail
    refine (awake7_calls _).mono ?_
    rintro e w6 ⟨rfl, hb⟩
    have B6 := Lib.hid (below_next B3.out hb)
    clear hb
    go_wp2
    go_ret
    exact ⟨rfl, B6.out⟩
  · have HPN := Lib.hid (chkW_zero hz0).2.1
    have HM := Lib.hid hm
    clear hm hz0
    go_wp2_with fail
    refine (new_calls _ _).mono ?_
    rintro e w4 ⟨b1, rfl, hb1, hm1, hb⟩
    have B4 := Lib.hid (below_next B3.out hb)
    have HM4 := Lib.hid (HM.out.below hb)
    have HA1 := Lib.hid hm1
    have HB1 := Lib.hid hb1
    have hbl1 : b1 < w4.heap.size := (Array.getElem?_eq_some_iff.1 hm1).1
    clear hb hm1 hb1 HM
    go_wp2_with fail
    refine (new_calls _ _).mono ?_
    rintro e w5 ⟨b2, rfl, hb2, hm2, hb⟩
    have HC : Hid (CtxS w w5 pa b1 b2 ps (.slice none 0 0) [] 0 0 0 0) := ⟨below_next B4.out hb, HM4.out.below hb, HA1.out.below hb, hm2, by omega, by rw [HB1.out]; exact B3.out.size, by have := B4.out.size; omega, ⟨rfl, .inl ⟨rfl, rfl⟩⟩⟩
    clear hb hm2 hb2 HM4 HA1 HB1 hbl1 B3 B4
    obtain ⟨hat0, hat1⟩ := hat
    have hwa : IntKind.i64.wrap at_ = at_ := by rw [IntKind.wrap_i64]; omega
    have hxl : x.length ≤ 1048576 := HL.out
    have hwl : IntKind.i64.wrap ((x.length : Int) + 1) = (x.length : Int) + 1 := by rw [IntKind.wrap_i64]; omega
    obtain ⟨kk, hkk⟩ : ∃ kk : Nat, at_ % ((x.length : Int) + 1) = (kk : Int) := ⟨(at_ % ((x.length : Int) + 1)).toNat, by have h0 := Int.emod_nonneg at_ (show ((x.length : Int) + 1) ≠ 0 by omega); omega⟩
    have hcap1 : x.length ≤ c1 := HX.out.cap
    have HKK := Lib.hid hkk
    clear hkk
    go_wp2
    rw [HKK.out]
    clear HKK
    go_loopg [14, 15] x.length (fun g1 vl vi wr => ∃ (i s : Nat) (s1 t1 s2 t2 : Int), vi = .int .i64 (i : Int) ∧ i ≤ x.length ∧ x.length - i ≤ g1 ∧ Hid (StAt ps s (x.take i)) ∧ Hid (i ≤ kk → s1 = (s : Int) ∧ t1 = (i : Int)) ∧ Hid (kk < i → s2 = (s : Int) ∧ t2 = (i : Int)) ∧ Hid (CtxS w wr pa b1 b2 ps vl (hitsTo ps x i) s1 t1 s2 t2))
    case atStart => exact ⟨0, 0, 0, 0, 0, 0, rfl, Nat.zero_le _, Nat.le_refl _, st_zero ps, fun _ => ⟨rfl, rfl⟩, fun h => absurd h (Nat.not_lt_zero _), HC⟩
    case round =>
      clear HC
      obtain ⟨i, s, s1, t1, s2, t2, rfl, hi, hg1, HS, HT1, HT2, HC⟩ := hrel
      by_cases hlt : i < x.length
      · have hiz : (i : Int) < (x.length : Int) := by omega
        obtain ⟨Av, cv, hv⟩ := own_slice HC.out.own
        subst hv
        obtain ⟨hs0, hhs0⟩ : ∃ hs, hitsTo ps x i = hs := ⟨_, rfl⟩
        rw [hhs0] at HC ⊢
        have HH0 := Lib.hid hhs0
        clear hhs0
        go_upto_region 14 with (fail)
        go_cut [70] (fun vb wx => ∃ (s1 t1 s2 t2 : Int), vb = .bool false ∧ Hid (i < kk → s1 = (s : Int) ∧ t1 = (i : Int)) ∧ Hid (kk ≤ i → s2 = (s : Int) ∧ t2 = (i : Int)) ∧ Hid (CtxS w wx pa b1 b2 ps (.slice Av hs0.length cv) hs0 s1 t1 s2 t2))
        case first =>
          by_cases he : i = kk
          · have hez : ((i : Int) == (kk : Int)) = true := by rw [beq_iff_eq]; omega
            obtain ⟨e1, e2⟩ := HT1.out (by omega)
            subst e1
            subst e2
            have KS := Lib.hid (state_calls _ b1 pa _ _ HC.out.m1)
            clear he
            go_wp2_with fail
            refine KS.out.mono ?_
            rintro e wa ⟨rfl, hd⟩
            have HCa := Lib.hid (HC.out.next (below_of_drew hd))
            have KT := Lib.hid (at_calls _ b1 pa _ _ HCa.out.m1)
            clear hd KS HC
            go_wp2_with fail
            refine KT.out.mono ?_
            rintro e wb ⟨rfl, hd⟩
            have HCb := Lib.hid (HCa.out.next (below_of_drew hd))
            have KU := set_calls _ b2 pa ps _ _ (s : Int) (i : Int) HCb.out.m2 HCb.out.mach
            have hset : setT ps (s : Int) (i : Int) = true := by
              unfold setT
              rw [st_isT HS.out.1, decide_eq_true ⟨by omega, by omega⟩]
              rfl
            rw [hset, if_pos rfl, if_pos rfl] at KU
            have HKU := Lib.hid KU
            clear hd KT HCa KU hset
            go_wp2_with fail
            refine HKU.out.mono ?_
            rintro e wd ⟨rfl, hm, hg⟩
            have HCd := Lib.hid (HCb.out.step2 hg hm)
            clear hm hg HKU HCb
            go_wp2
            go_meet
            exact ⟨s, i, s, i, rfl, fun _ => ⟨rfl, rfl⟩, fun _ => ⟨rfl, rfl⟩, HCd⟩
          · have hez : ((i : Int) == (kk : Int)) = false := by rw [beq_eq_false_iff_ne]; omega
            go_wp2
            go_meet
            exact ⟨s1, t1, s2, t2, rfl, fun h => HT1.out (by omega), fun h => HT2.out (by omega), HC⟩
        case rest =>
          obtain ⟨q1, p1, q2, p2, rfl, HU1, HU2, HCc⟩ := hcut
          clear HC HT1 HT2
          by_cases hki : kk ≤ i
          · have hkz : (kk : Int) ≤ (i : Int) := by omega
            obtain ⟨eq2, ep2⟩ := HU2.out hki
            subst eq2
            subst ep2
            have HC := Lib.hid HCc.out.swap
            clear HU1 HU2 HCc
            obtain ⟨ad, rfl, hcell⟩ := tx_byte (HX.out.below HC.out.below) hlt
            obtain ⟨b, hb⟩ : ∃ b, x.getD i 0 = b := ⟨_, rfl⟩
            have hbb := text_byte HX.out.bytes hlt
            have hnx := st_next HS.out b
            have hts := text_step hlt
            rw [hb] at hcell hbb hts
            rw [← hts] at hnx
            have KN := step_calls wc b2 pa ps (s : Int) (i : Int) b HC.out.m1 HC.out.mach hbb ⟨by omega, by omega⟩
            rw [hnx.1] at KN
            obtain ⟨s2, hs2⟩ : ∃ s2, nxT (trie ps) s b = s2 := ⟨_, rfl⟩
            rw [hs2] at KN hnx
            have HS2 := Lib.hid hnx.2
            obtain ⟨T, hT⟩ : ∃ T : Int, ((i + 1 : Nat) : Int) = T := ⟨_, rfl⟩
            have hat : atT (i : Int) = T := by unfold atT; rw [if_neg (by omega)]; omega
            obtain ⟨Lo, hLo⟩ : ∃ L, outsW ps (x.take (i + 1)) = L := ⟨_, rfl⟩
            rw [st_out HS2.out, hat, hLo] at KN
            have HKN := Lib.hid KN
            have HT := Lib.hid hT
            have hLl : Lo.length ≤ 64 := by rw [← hLo]; exact (outs_len HPN.out _).1
            have HLo := Lib.hid hLo
            clear hb hbb hnx hts hs2 HS hat KN hT hLo
            go_wp2_with fail
            refine HKN.out.mono ?_
            rintro e w4 ⟨vo, rfl, ho, hm4, hg4⟩
            have HC4 := Lib.hid (HC.out.step1 hg4 hm4)
            obtain ⟨Ao, co, hvo, hco, hCo⟩ := own_ints_reads ho
            have HO4 := Lib.hid ho
            subst hvo
            obtain ⟨B0, hB0⟩ : ∃ B0, wc.heap.size = B0 := ⟨_, rfl⟩
            rw [hB0] at HO4
            have H64 := Lib.hid (hits_le HPN.out x i)
            rw [HH0.out] at H64
            clear hm4 hg4 HKN hcell HC hCo ho hB0
            go_wp2
            go_loopg [14, 18] Lo.length (fun g2 vl vn wr => ∃ j : Nat, vn = .int .i64 (j : Int) ∧ j ≤ Lo.length ∧ Lo.length - j ≤ g2 ∧ Hid (CtxS w wr pa b2 b1 ps vl (hs0 ++ (Lo.take j).map fun k => (k, T)) (s2 : Int) T q1 p1) ∧ Hid (OwnI wr B0 (.slice Ao Lo.length co) Lo))
            case atStart => exact ⟨0, rfl, Nat.zero_le _, Nat.le_refl _, by rw [List.take_zero, List.map_nil, List.append_nil]; exact HC4, HO4⟩
            case round =>
              clear HC4 HO4
              obtain ⟨j, rfl, hj, hg2, HC5, HO5⟩ := hrel
              obtain ⟨hsj, hhs⟩ : ∃ l, (hs0 ++ (Lo.take j).map fun k => (k, T)) = l := ⟨_, rfl⟩
              rw [hhs] at HC5
              obtain ⟨Aw, cw, hv⟩ := own_slice HC5.out.own
              subst hv
              have HHS := Lib.hid hhs
              have hsl : hsj.length ≤ 67108864 := by
                rw [← hhs, List.length_append, List.length_map, List.length_take]
                have := H64.out
                omega
              have HSL := Lib.hid hsl
              clear hhs hsl
              by_cases hjl : j < Lo.length
              · have hjz : (j : Int) < (Lo.length : Int) := by omega
                obtain ⟨Ao', co', e', _, hCo⟩ := own_ints_reads HO5.out
                injection e' with ea en ec
                subst ea
                obtain rfl : co = co' := ec
                obtain ⟨ado, cso, eo, _, hKo, hco2⟩ := Kd.C_get hCo (0 : Int) (j : Int) (by omega) (by omega)
                obtain ⟨id, hid⟩ : ∃ id, Lo.getD j 0 = id := ⟨_, rfl⟩
                have hcell : wr.cell? (ado.add j) = some (.int .i64 id) := by
                  have := hco2 0 _ (by rw [hKo]; rfl)
                  rw [Int.toNat_natCast, show j * (Kd.int IntKind.i64).sz + 0 = j from Nat.mul_one j, hid] at this
                  exact this
                subst eo
                have hnext : (hs0 ++ (Lo.take (j + 1)).map fun k => (k, T)) = hsj ++ [(id, T)] := by
                  rw [text_step hjl, hid, List.map_append, ← List.append_assoc, HHS.out]; rfl
                have HN := Lib.hid hnext
                have HBQ : Hid (∀ q, Below wr.heap.size wr ((wr.drewN (1 + q)).alloc (.cells (hitC id T).toArray 49))) := fun q => by
                  have hq := below_drewN' (Below.refl wr.heap.size wr) (1 + q)
                  exact hq.alloc hq.size _
                have HCQ : Hid (∀ q, CtxS w ((wr.drewN (1 + q)).alloc (.cells (hitC id T).toArray 49)) pa b2 b1 ps (.slice Aw hsj.length cw) hsj (s2 : Int) T q1 p1) := fun q => HC5.out.next (HBQ.out q)
                have HOQ : Hid (∀ q, OwnI ((wr.drewN (1 + q)).alloc (.cells (hitC id T).toArray 49)) B0 (.slice (some ado) Lo.length co) Lo) := fun q => own_move HO5.out fun k e => (HBQ.out q).block k (own_lt HO5.out k e)
                have KAT := Lib.hid (at_calls wr.drew b2 pa _ _ (HC5.out.next (below_drewN' (Below.refl _ _) 1)).m1)
                have HCELL := Lib.hid hcell
                clear hCo hKo hco2 hnext hid HHS
                go_upto_region 22 with (fail)
                go_wp2_with fail
                refine start_ (n := 11) (S := (fun w' => w'.cell? (ado.add j) = some (.int .i64 id))) (ds := [9]) #[false, false, false, false, false, false, false, false, false, false, false] (by kernel_rfl) rfl rfl ?_ (fun hHeld => ?_)
                · exact hcell
                refine pure_ (i := 0) (N := some 87) (v := ?_) (a' := ?_) #[true, false, false, false, false, false, false, false, false, false, false] rfl rfl (by kernel_rfl) (fun _ _ _ h => h) (Or.inl ⟨by rfl, ?_⟩) ?_ ?_
                rotate_left
                · intro w'
                  go_simp
                  with_reducible rfl
                rotate_left
                · simp only [Act.put, List.setIfInBounds_toArray, List.set_cons_zero, List.set_cons_succ, i64_w, i32_w]
                  rfl
                refine pure_ (i := 1) (N := some 88) (v := ?_) (a' := ?_) #[true, true, false, false, false, false, false, false, false, false, false] rfl rfl (by kernel_rfl) (fun _ _ _ h => h) (Or.inl ⟨by rfl, ?_⟩) ?_ ?_
                rotate_left
                · intro w'
                  go_simp
                  with_reducible rfl
                rotate_left
                · simp only [Act.put, List.setIfInBounds_toArray, List.set_cons_zero, List.set_cons_succ, i64_w, i32_w]
                  rfl
                refine pure_ (i := 2) (N := some 89) (v := ?_) (a' := ?_) #[true, true, true, false, false, false, false, false, false, false, false] rfl rfl (by kernel_rfl) (fun _ _ _ h => h) (Or.inl ⟨by rfl, ?_⟩) ?_ ?_
                rotate_left
                · intro w'
                  go_simp
                  with_reducible rfl
                rotate_left
                · simp only [Act.put, List.setIfInBounds_toArray, List.set_cons_zero, List.set_cons_succ, i64_w, i32_w]
                  rfl
                refine pure_ (i := 3) (N := some 90) (v := ?_) (a' := ?_) #[true, true, true, true, false, false, false, false, false, false, false] rfl rfl (by kernel_rfl) (fun _ _ _ h => h) (Or.inl ⟨by rfl, ?_⟩) ?_ ?_
                rotate_left
                · intro w'
                  go_simp
                  with_reducible rfl
                rotate_left
                · simp only [Act.put, List.setIfInBounds_toArray, List.set_cons_zero, List.set_cons_succ, i64_w, i32_w]
                  rfl
                refine take_ (i := 4) (N := some 91) (v := ?_) (a' := ?_) #[true, true, true, true, true, false, false, false, false, false, false] rfl rfl (by kernel_rfl) (fun _ _ _ h => h) (Or.inl ⟨by rfl, ?_⟩) hHeld ?_ ?_
                rotate_left
                · rintro w' s0
                  go_simp
                  with_reducible rfl
                rotate_left
                · simp only [Act.put, List.setIfInBounds_toArray, List.set_cons_zero, List.set_cons_succ, i64_w, i32_w]
                  rfl
                refine pure_ (i := 5) (N := some 92) (v := ?_) (a' := ?_) #[true, true, true, true, true, true, false, false, false, false, false] rfl rfl (by kernel_rfl) (fun _ _ _ h => h) (Or.inl ⟨by rfl, ?_⟩) ?_ ?_
                rotate_left
                · intro w'
                  go_simp
                  with_reducible rfl
                rotate_left
                · simp only [Act.put, List.setIfInBounds_toArray, List.set_cons_zero, List.set_cons_succ, i64_w, i32_w]
                  rfl
                refine one_ (i := 6) (N := some 93) #[true, true, true, true, true, true, true, false, false, false, false] rfl rfl (by kernel_rfl) (by decide) (fun K hK => ?_)
                refine call_ 44 #[.pointer (some ⟨b2, 0, none⟩)] (by rfl) rfl (by go_simp) ?_
                refine KAT.out.mono ?_
                rintro e w5 ⟨rfl, q, rfl⟩
                refine ⟨_, rfl, ?_⟩
                refine hK.out _ _ hcell (fun hHeld => ?_)
                clear hK K
                refine norm_ (a' := ?_) ?_ ?_
                rotate_left
                · show Act.put _ (some 93) _ = _
                  simp only [Act.put, List.setIfInBounds_toArray, List.set_cons_zero, List.set_cons_succ, i64_w, i32_w]
                  rfl
                refine pure_ (i := 7) (N := some 94) (v := ?_) (a' := ?_) #[true, true, true, true, true, true, true, true, false, false, false] rfl rfl (by kernel_rfl) (fun _ _ _ h => h) (Or.inl ⟨by rfl, ?_⟩) ?_ ?_
                rotate_left
                · intro w'
                  go_simp
                  with_reducible rfl
                rotate_left
                · simp only [Act.put, List.setIfInBounds_toArray, List.set_cons_zero, List.set_cons_succ, i64_w, i32_w]
                  rfl
                refine one_ (i := 8) (N := some 95) #[true, true, true, true, true, true, true, true, true, false, false] rfl rfl (by kernel_rfl) (by decide) (fun K hK => ?_)
                refine value_ (v := ?_) (w1 := ?_) (by rfl) rfl ?_ ?_
                rotate_left 2
                · go_simp
                  refine ⟨?_, ?_⟩ <;> rfl
                refine hK.out _ _ (cell_kept hcell (HBQ.out q)) (fun hHeld => ?_)
                clear hK K
                refine norm_ (a' := ?_) ?_ ?_
                rotate_left
                · show Act.put _ (some 95) _ = _
                  simp only [Act.put, List.setIfInBounds_toArray, List.set_cons_zero, List.set_cons_succ, i64_w, i32_w]
                  rfl
                refine last_ (i := 9) (N := some 96) #[true, true, true, true, true, true, true, true, true, true, false] rfl rfl (by kernel_rfl) (by decide) (fun K hK => ?_)
                refine step_hit (by rfl) (.tmp 87) (.tmp 95) (by rfl) w.heap.size (.slice Aw hsj.length cw) hsj id T wr.heap.size (by rfl) (by rfl) (HCQ.out q).own (heap_alloc_new (wr.drewN (1 + q)) _) HSL.out (HCQ.out q).below.size ?_
                intro Av2 cv2 w1 hown1 hgrow
                refine hK.out _ _ ?_
                clear hK K
                refine norm_ (a' := ?_) ?_ ?_
                rotate_left
                · show Act.put _ (some 96) _ = _
                  simp only [Act.put, List.setIfInBounds_toArray, List.set_cons_zero, List.set_cons_succ, i64_w, i32_w]
                  rfl
                refine pure_ (i := 10) (N := some 14) (v := ?_) (a' := ?_) #[true, true, true, true, true, true, true, true, true, true, true] rfl rfl (by kernel_rfl) (fun _ _ _ h => h) (Or.inl ⟨by rfl, ?_⟩) ?_ ?_
                rotate_left
                · intro w'
                  go_simp
                  with_reducible rfl
                rotate_left
                · simp only [Act.put, List.setIfInBounds_toArray, List.set_cons_zero, List.set_cons_succ, i64_w, i32_w]
                  rfl
                refine done_ (by kernel_rfl) ?_
                have HC6 := Lib.hid ((HCQ.out q).took hgrow hown1)
                have HO6 := Lib.hid ((HCQ.out q).ints hgrow (HOQ.out q))
                clear hown1 hgrow hHeld HCQ HOQ HBQ KAT hcell HCELL
                go_wp2
                go_roundg (Lo.length - (j + 1))
                case measure => omega
                case rel => exact ⟨j + 1, by go_num, by omega, Nat.le_refl _, by rw [HN.out]; exact HC6, HO6⟩
              · obtain rfl : j = Lo.length := by omega
                have e1 : hitsTo ps x (i + 1) = hsj := by rw [hitsTo, HLo.out, HH0.out, ← HHS.out, List.take_length, HT.out]
                rw [← e1] at HC5
                have HE1 := Lib.hid e1
                clear e1
                go_wp2
                rw [← HE1.out]
                go_roundg (x.length - (i + 1))
                case measure => omega
                case rel => exact ⟨i + 1, s2, q1, p1, (s2 : Int), T, by go_num, by omega, Nat.le_refl _, HS2, fun h => absurd h (by omega), fun _ => ⟨rfl, HT.out.symm⟩, HC5.out.swap⟩
          · have hkz : ¬ (kk : Int) ≤ (i : Int) := by omega
            obtain ⟨eq1, ep1⟩ := HU1.out (by omega)
            subst eq1
            subst ep1
            have HC := HCc
            clear HU1 HU2 HCc
            obtain ⟨ad, rfl, hcell⟩ := tx_byte (HX.out.below HC.out.below) hlt
            obtain ⟨b, hb⟩ : ∃ b, x.getD i 0 = b := ⟨_, rfl⟩
            have hbb := text_byte HX.out.bytes hlt
            have hnx := st_next HS.out b
            have hts := text_step hlt
            rw [hb] at hcell hbb hts
            rw [← hts] at hnx
            have KN := step_calls wc b1 pa ps (s : Int) (i : Int) b HC.out.m1 HC.out.mach hbb ⟨by omega, by omega⟩
            rw [hnx.1] at KN
            obtain ⟨s2, hs2⟩ : ∃ s2, nxT (trie ps) s b = s2 := ⟨_, rfl⟩
            rw [hs2] at KN hnx
            have HS2 := Lib.hid hnx.2
            obtain ⟨T, hT⟩ : ∃ T : Int, ((i + 1 : Nat) : Int) = T := ⟨_, rfl⟩
            have hat : atT (i : Int) = T := by unfold atT; rw [if_neg (by omega)]; omega
            obtain ⟨Lo, hLo⟩ : ∃ L, outsW ps (x.take (i + 1)) = L := ⟨_, rfl⟩
            rw [st_out HS2.out, hat, hLo] at KN
            have HKN := Lib.hid KN
            have HT := Lib.hid hT
            have hLl : Lo.length ≤ 64 := by rw [← hLo]; exact (outs_len HPN.out _).1
            have HLo := Lib.hid hLo
            clear hb hbb hnx hts hs2 HS hat KN hT hLo
            go_wp2_with fail
            refine HKN.out.mono ?_
            rintro e w4 ⟨vo, rfl, ho, hm4, hg4⟩
            have HC4 := Lib.hid (HC.out.step1 hg4 hm4)
            obtain ⟨Ao, co, hvo, hco, hCo⟩ := own_ints_reads ho
            have HO4 := Lib.hid ho
            subst hvo
            obtain ⟨B0, hB0⟩ : ∃ B0, wc.heap.size = B0 := ⟨_, rfl⟩
            rw [hB0] at HO4
            have H64 := Lib.hid (hits_le HPN.out x i)
            rw [HH0.out] at H64
            clear hm4 hg4 HKN hcell HC hCo ho hB0
            go_wp2
            go_loopg [14, 18] Lo.length (fun g2 vl vn wr => ∃ j : Nat, vn = .int .i64 (j : Int) ∧ j ≤ Lo.length ∧ Lo.length - j ≤ g2 ∧ Hid (CtxS w wr pa b1 b2 ps vl (hs0 ++ (Lo.take j).map fun k => (k, T)) (s2 : Int) T q2 p2) ∧ Hid (OwnI wr B0 (.slice Ao Lo.length co) Lo))
            case atStart => exact ⟨0, rfl, Nat.zero_le _, Nat.le_refl _, by rw [List.take_zero, List.map_nil, List.append_nil]; exact HC4, HO4⟩
            case round =>
              clear HC4 HO4
              obtain ⟨j, rfl, hj, hg2, HC5, HO5⟩ := hrel
              obtain ⟨hsj, hhs⟩ : ∃ l, (hs0 ++ (Lo.take j).map fun k => (k, T)) = l := ⟨_, rfl⟩
              rw [hhs] at HC5
              obtain ⟨Aw, cw, hv⟩ := own_slice HC5.out.own
              subst hv
              have HHS := Lib.hid hhs
              have hsl : hsj.length ≤ 67108864 := by
                rw [← hhs, List.length_append, List.length_map, List.length_take]
                have := H64.out
                omega
              have HSL := Lib.hid hsl
              clear hhs hsl
              by_cases hjl : j < Lo.length
              · have hjz : (j : Int) < (Lo.length : Int) := by omega
                obtain ⟨Ao', co', e', _, hCo⟩ := own_ints_reads HO5.out
                injection e' with ea en ec
                subst ea
                obtain rfl : co = co' := ec
                obtain ⟨ado, cso, eo, _, hKo, hco2⟩ := Kd.C_get hCo (0 : Int) (j : Int) (by omega) (by omega)
                obtain ⟨id, hid⟩ : ∃ id, Lo.getD j 0 = id := ⟨_, rfl⟩
                have hcell : wr.cell? (ado.add j) = some (.int .i64 id) := by
                  have := hco2 0 _ (by rw [hKo]; rfl)
                  rw [Int.toNat_natCast, show j * (Kd.int IntKind.i64).sz + 0 = j from Nat.mul_one j, hid] at this
                  exact this
                subst eo
                have hnext : (hs0 ++ (Lo.take (j + 1)).map fun k => (k, T)) = hsj ++ [(id, T)] := by
                  rw [text_step hjl, hid, List.map_append, ← List.append_assoc, HHS.out]; rfl
                have HN := Lib.hid hnext
                have HBQ : Hid (∀ q, Below wr.heap.size wr ((wr.drewN (1 + q)).alloc (.cells (hitC id T).toArray 49))) := fun q => by
                  have hq := below_drewN' (Below.refl wr.heap.size wr) (1 + q)
                  exact hq.alloc hq.size _
                have HCQ : Hid (∀ q, CtxS w ((wr.drewN (1 + q)).alloc (.cells (hitC id T).toArray 49)) pa b1 b2 ps (.slice Aw hsj.length cw) hsj (s2 : Int) T q2 p2) := fun q => HC5.out.next (HBQ.out q)
                have HOQ : Hid (∀ q, OwnI ((wr.drewN (1 + q)).alloc (.cells (hitC id T).toArray 49)) B0 (.slice (some ado) Lo.length co) Lo) := fun q => own_move HO5.out fun k e => (HBQ.out q).block k (own_lt HO5.out k e)
                have KAT := Lib.hid (at_calls wr.drew b1 pa _ _ (HC5.out.next (below_drewN' (Below.refl _ _) 1)).m1)
                have HCELL := Lib.hid hcell
                clear hCo hKo hco2 hnext hid HHS
                go_upto_region 22 with (fail)
                go_wp2_with fail
                refine start_ (n := 11) (S := (fun w' => w'.cell? (ado.add j) = some (.int .i64 id))) (ds := [9]) #[false, false, false, false, false, false, false, false, false, false, false] (by kernel_rfl) rfl rfl ?_ (fun hHeld => ?_)
                · exact hcell
                refine pure_ (i := 0) (N := some 87) (v := ?_) (a' := ?_) #[true, false, false, false, false, false, false, false, false, false, false] rfl rfl (by kernel_rfl) (fun _ _ _ h => h) (Or.inl ⟨by rfl, ?_⟩) ?_ ?_
                rotate_left
                · intro w'
                  go_simp
                  with_reducible rfl
                rotate_left
                · simp only [Act.put, List.setIfInBounds_toArray, List.set_cons_zero, List.set_cons_succ, i64_w, i32_w]
                  rfl
                refine pure_ (i := 1) (N := some 88) (v := ?_) (a' := ?_) #[true, true, false, false, false, false, false, false, false, false, false] rfl rfl (by kernel_rfl) (fun _ _ _ h => h) (Or.inl ⟨by rfl, ?_⟩) ?_ ?_
                rotate_left
                · intro w'
                  go_simp
                  with_reducible rfl
                rotate_left
                · simp only [Act.put, List.setIfInBounds_toArray, List.set_cons_zero, List.set_cons_succ, i64_w, i32_w]
                  rfl
                refine pure_ (i := 2) (N := some 89) (v := ?_) (a' := ?_) #[true, true, true, false, false, false, false, false, false, false, false] rfl rfl (by kernel_rfl) (fun _ _ _ h => h) (Or.inl ⟨by rfl, ?_⟩) ?_ ?_
                rotate_left
                · intro w'
                  go_simp
                  with_reducible rfl
                rotate_left
                · simp only [Act.put, List.setIfInBounds_toArray, List.set_cons_zero, List.set_cons_succ, i64_w, i32_w]
                  rfl
                refine pure_ (i := 3) (N := some 90) (v := ?_) (a' := ?_) #[true, true, true, true, false, false, false, false, false, false, false] rfl rfl (by kernel_rfl) (fun _ _ _ h => h) (Or.inl ⟨by rfl, ?_⟩) ?_ ?_
                rotate_left
                · intro w'
                  go_simp
                  with_reducible rfl
                rotate_left
                · simp only [Act.put, List.setIfInBounds_toArray, List.set_cons_zero, List.set_cons_succ, i64_w, i32_w]
                  rfl
                refine take_ (i := 4) (N := some 91) (v := ?_) (a' := ?_) #[true, true, true, true, true, false, false, false, false, false, false] rfl rfl (by kernel_rfl) (fun _ _ _ h => h) (Or.inl ⟨by rfl, ?_⟩) hHeld ?_ ?_
                rotate_left
                · rintro w' s0
                  go_simp
                  with_reducible rfl
                rotate_left
                · simp only [Act.put, List.setIfInBounds_toArray, List.set_cons_zero, List.set_cons_succ, i64_w, i32_w]
                  rfl
                refine pure_ (i := 5) (N := some 92) (v := ?_) (a' := ?_) #[true, true, true, true, true, true, false, false, false, false, false] rfl rfl (by kernel_rfl) (fun _ _ _ h => h) (Or.inl ⟨by rfl, ?_⟩) ?_ ?_
                rotate_left
                · intro w'
                  go_simp
                  with_reducible rfl
                rotate_left
                · simp only [Act.put, List.setIfInBounds_toArray, List.set_cons_zero, List.set_cons_succ, i64_w, i32_w]
                  rfl
                refine one_ (i := 6) (N := some 93) #[true, true, true, true, true, true, true, false, false, false, false] rfl rfl (by kernel_rfl) (by decide) (fun K hK => ?_)
                refine call_ 44 #[.pointer (some ⟨b1, 0, none⟩)] (by rfl) rfl (by go_simp) ?_
                refine KAT.out.mono ?_
                rintro e w5 ⟨rfl, q, rfl⟩
                refine ⟨_, rfl, ?_⟩
                refine hK.out _ _ hcell (fun hHeld => ?_)
                clear hK K
                refine norm_ (a' := ?_) ?_ ?_
                rotate_left
                · show Act.put _ (some 93) _ = _
                  simp only [Act.put, List.setIfInBounds_toArray, List.set_cons_zero, List.set_cons_succ, i64_w, i32_w]
                  rfl
                refine pure_ (i := 7) (N := some 94) (v := ?_) (a' := ?_) #[true, true, true, true, true, true, true, true, false, false, false] rfl rfl (by kernel_rfl) (fun _ _ _ h => h) (Or.inl ⟨by rfl, ?_⟩) ?_ ?_
                rotate_left
                · intro w'
                  go_simp
                  with_reducible rfl
                rotate_left
                · simp only [Act.put, List.setIfInBounds_toArray, List.set_cons_zero, List.set_cons_succ, i64_w, i32_w]
                  rfl
                refine one_ (i := 8) (N := some 95) #[true, true, true, true, true, true, true, true, true, false, false] rfl rfl (by kernel_rfl) (by decide) (fun K hK => ?_)
                refine value_ (v := ?_) (w1 := ?_) (by rfl) rfl ?_ ?_
                rotate_left 2
                · go_simp
                  refine ⟨?_, ?_⟩ <;> rfl
                refine hK.out _ _ (cell_kept hcell (HBQ.out q)) (fun hHeld => ?_)
                clear hK K
                refine norm_ (a' := ?_) ?_ ?_
                rotate_left
                · show Act.put _ (some 95) _ = _
                  simp only [Act.put, List.setIfInBounds_toArray, List.set_cons_zero, List.set_cons_succ, i64_w, i32_w]
                  rfl
                refine last_ (i := 9) (N := some 96) #[true, true, true, true, true, true, true, true, true, true, false] rfl rfl (by kernel_rfl) (by decide) (fun K hK => ?_)
                refine step_hit (by rfl) (.tmp 87) (.tmp 95) (by rfl) w.heap.size (.slice Aw hsj.length cw) hsj id T wr.heap.size (by rfl) (by rfl) (HCQ.out q).own (heap_alloc_new (wr.drewN (1 + q)) _) HSL.out (HCQ.out q).below.size ?_
                intro Av2 cv2 w1 hown1 hgrow
                refine hK.out _ _ ?_
                clear hK K
                refine norm_ (a' := ?_) ?_ ?_
                rotate_left
                · show Act.put _ (some 96) _ = _
                  simp only [Act.put, List.setIfInBounds_toArray, List.set_cons_zero, List.set_cons_succ, i64_w, i32_w]
                  rfl
                refine pure_ (i := 10) (N := some 14) (v := ?_) (a' := ?_) #[true, true, true, true, true, true, true, true, true, true, true] rfl rfl (by kernel_rfl) (fun _ _ _ h => h) (Or.inl ⟨by rfl, ?_⟩) ?_ ?_
                rotate_left
                · intro w'
                  go_simp
                  with_reducible rfl
                rotate_left
                · simp only [Act.put, List.setIfInBounds_toArray, List.set_cons_zero, List.set_cons_succ, i64_w, i32_w]
                  rfl
                refine done_ (by kernel_rfl) ?_
                have HC6 := Lib.hid ((HCQ.out q).took hgrow hown1)
                have HO6 := Lib.hid ((HCQ.out q).ints hgrow (HOQ.out q))
                clear hown1 hgrow hHeld HCQ HOQ HBQ KAT hcell HCELL
                go_wp2
                go_roundg (Lo.length - (j + 1))
                case measure => omega
                case rel => exact ⟨j + 1, by go_num, by omega, Nat.le_refl _, by rw [HN.out]; exact HC6, HO6⟩
              · obtain rfl : j = Lo.length := by omega
                have e1 : hitsTo ps x (i + 1) = hsj := by rw [hitsTo, HLo.out, HH0.out, ← HHS.out, List.take_length, HT.out]
                rw [← e1] at HC5
                have HE1 := Lib.hid e1
                clear e1
                go_wp2
                rw [← HE1.out]
                go_roundg (x.length - (i + 1))
                case measure => omega
                case rel => exact ⟨i + 1, s2, (s2 : Int), T, q2, p2, by go_num, by omega, Nat.le_refl _, HS2, fun _ => ⟨rfl, HT.out.symm⟩, fun h => absurd h (by omega), HC5⟩
      · obtain rfl : i = x.length := by omega
        have hiz : ¬ (x.length : Int) < (x.length : Int) := by omega
        obtain ⟨Av, cv, hv⟩ := own_slice HC.out.own
        subst hv
        obtain ⟨hs, hhs⟩ : ∃ hs, hitsTo ps x x.length = hs := ⟨_, rfl⟩
        have hsz : hs.length ≤ 67108864 := by
          have h1 := hits_le HPN.out x x.length
          have h2 := HL.out
          rw [hhs] at h1
          omega
        have KA := all_ctr ((hs.length : Int) + 1) HC.out.mach (HX.out.below HC.out.below) HL.out
        rw [all_enough (by rw [hhs]; omega), hhs] at KA
        rw [hhs] at HC ⊢
        have HKA := Lib.hid KA
        have HHS := Lib.hid hhs
        have hws : IntKind.i64.wrap ((hs.length : Int) + 1) = (hs.length : Int) + 1 := by rw [IntKind.wrap_i64]; omega
        have HSZ := Lib.hid hsz
        clear KA hhs hsz HS HT1 HT2
        go_wp2_with fail
        refine HKA.out.mono ?_
        rintro e w6 ⟨hb, Ay, cy, rfl, hy6⟩
        have HC6 := Lib.hid (HC.out.next hb)
        obtain ⟨Aq, cq, hv, hq6⟩ := ht_of HC6.out.own HSZ.out
        injection hv with ea en ec
        subst ea
        subst ec
        have KS := same7_ctr hq6 hy6
        rw [decide_eq_true rfl] at KS
        have HKS := Lib.hid KS
        clear hb hy6 hq6 KS HKA HC en
        go_wp2_with fail
        refine HKS.out.mono ?_
        rintro e w7 ⟨rfl, hb⟩
        have B7 := Lib.hid (below_next HC6.out.below hb)
        clear hb HKS HC6
        go_wp2_with fail
        refine (awake7_calls _).mono ?_
        rintro e w8 ⟨rfl, hb⟩
        have B8 := Lib.hid (below_next B7.out hb)
        clear hb
        go_wp2
        go_ret
        exact ⟨rfl, B8.out⟩
end Go.Proofs.Ytdciniefkodeaaa.PAll
