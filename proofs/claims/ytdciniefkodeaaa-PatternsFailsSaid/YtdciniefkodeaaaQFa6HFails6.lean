/- PatternsFails, walked. -/
import Derived.Test.YtdciniefkodeaaaQFa6HWords6
set_option linter.unusedVariables false
set_option linter.unusedSimpArgs false
namespace Go.Proofs.Ytdciniefkodeaaa.PAll
open Go.Sort Go.RowKit Go.Proofs.YtdciniefkodeaaaW.PrintWords Go.Proofs.YtdciniefkodeaaaW.PrintLast Go.Proofs.YtdciniefkodeaaaW.PrintMore
/-- The machine and the patterns lie above the first world. -/
structure CtxP (w wr : World) (pa : Nat) (A : Option Addr) (c : Nat) (ps : List Wd) : Prop where
  below : Below w.heap.size w wr
  mach : MachAt wr pa ps
  pats : PsAt wr A c ps
theorem CtxP.step {w wr wr' : World} {pa : Nat} {A : Option Addr} {c : Nat} {ps : List Wd} (h : CtxP w wr pa A c ps) (hb : Below wr.heap.size wr wr') : CtxP w wr' pa A c ps :=
  ⟨h.below.trans (hb.mono h.below.size), h.mach.below hb, h.pats.below hb⟩
theorem CtxT.toP {w wr : World} {pa : Nat} {A : Option Addr} {c : Nat} {ps : List Wd} {A1 : Option Addr} {c1 : Nat} {x : Wd} (h : CtxT w wr pa A c ps A1 c1 x) : CtxP w wr pa A c ps := ⟨h.below, h.mach, h.pats⟩
theorem drop_tx {A : Option Addr} {x : Wd} {c lo : Nat} (h1 : lo ≤ x.length) (h3 : x.length ≤ c) : ∃ A' : Option Addr, (∀ W : World, (Instr.slice 32 (.slice A x.length c) (some (.int .i64 (lo : Int))) none none).run Try.prog W = .ok (.slice A' (x.drop lo).length (c - lo)) W) ∧
    (∀ W : World, (Kd.int .u8).C W A x.length x → (Kd.int .u8).C W A' (x.drop lo).length (x.drop lo)) ∧ (x.drop lo).length ≤ c - lo := by
  obtain ⟨i0, hi0, _, hsz, _⟩ := info_parts info5
  obtain ⟨A', q1, q2, q3⟩ := print_drop_of (P := Try.prog) (Value.int .u8) (0 : Int) 32 5 .i64 Try.underlying32 hi0 hsz A c x (lo : Int) (by omega) (by omega) h3
  rw [Int.toNat_natCast] at q1 q2 q3
  exact ⟨A', q1, fun W h => Kd.C_of_reads (h1 := fun _ => rfl) (q2 W (Kd.reads_of_C h)), q3⟩
/-- What is to be told of state s: its word x, its fail f. -/
theorem fails_plain {ps : List Wd} (hz : chkW ps = 0) {s : Nat} (h1 : 1 ≤ s) (h2 : s < (trie ps).length) : ∃ (x : Wd) (f : Nat), wordT ps (s : Int) = x ∧ failT ps (s : Int) = (f : Int) ∧ f < (trie ps).length ∧ x ≠ [] ∧ x.length ≤ 32 ∧ x ∈ trie ps ∧ (trie ps).getD s [] = x ∧ ∃ u : Wd, (trie ps).getD f [] = u ∧ wordT ps (f : Int) = u ∧ depthT ps (f : Int) = (u.length : Int) ∧ u.length < x.length ∧ u <:+ x ∧ (∀ k, 1 ≤ k → k + u.length < x.length → x.drop k ∉ trie ps) ∧
    ∀ a : Nat, StAt ps a x.dropLast → nextT ps (a : Int) (x.getD (x.length - 1) 0) = (s : Int) ∧ (a ≠ 0 → ∃ fa : Nat, failT ps (a : Int) = (fa : Int) ∧ nextT ps (fa : Int) (x.getD (x.length - 1) 0) = (f : Int)) := by
  have hT := trie_I ps
  obtain ⟨c1, c2, c3⟩ := chkW_zero hz
  obtain ⟨x, hx⟩ : ∃ x, (trie ps).getD s [] = x := ⟨_, rfl⟩
  have hxm : x ∈ trie ps := by rw [← hx]; exact get_mem h2
  have hxn : x ≠ [] := by rw [← hx]; exact word_ne hT h2 (by omega)
  have hx32 : x.length ≤ 32 := by
    rcases (mem_trie ps x).1 hxm with rfl | ⟨p, hp, hpre⟩
    · exact Nat.zero_le _
    · exact Nat.le_trans hpre.length_le (c3 p hp).2
  have hfl := fl_lt hT h2
  have hfw : (trie ps).getD (flT (trie ps) s) [] = failW (trie ps) x := by rw [fl_word hT h2, hx]
  have hul := fail_len (trie ps) x
  have hx0 : 0 < x.length := List.length_pos_iff.2 hxn
  refine ⟨x, flT (trie ps) s, ?_, ?_, hfl, hxn, hx32, hxm, hx, failW (trie ps) x, hfw, ?_, ?_, by omega, ?_, ?_, ?_⟩
  · unfold wordT; rw [if_pos (st_isT h2), Int.toNat_natCast, hx]
  · unfold failT; rw [if_pos (st_isT h2), Int.toNat_natCast]
  · unfold wordT; rw [if_pos (st_isT hfl), Int.toNat_natCast, hfw]
  · unfold depthT depT; rw [if_pos (st_isT hfl), Int.toNat_natCast, hfw]
  · exact (lsuf_suf (trie ps) x.tail).trans (List.tail_suffix x)
  · intro k hk hkl hm
    have h3 : x.drop k <:+ x.tail := by
      rw [← List.drop_one]
      obtain ⟨j, rfl⟩ : ∃ j, k = 1 + j := ⟨k - 1, by omega⟩
      rw [← List.drop_drop]
      exact List.drop_suffix _ _
    have h4 := (lsuf_max (trie ps) _ _ h3 hm).length_le
    rw [List.length_drop] at h4
    have h5 : (failW (trie ps) x).length = (lsuf (trie ps) x.tail).length := rfl
    omega
  · intro a ha
    have hb : x.dropLast ++ [x.getD (x.length - 1) 0] = x := by
      have := split_word hxn
      rw [show x.getD (x.length - 1) 0 = x.getLastD 0 from by
        rw [List.getD_eq_getElem?_getD, ← List.getLast?_eq_getElem?, List.getLastD_eq_getLast?]]
      exact this
    obtain ⟨q1, q2, q3⟩ := st_next ha (x.getD (x.length - 1) 0)
    rw [hb] at q3
    rw [lsuf_of_mem hxm] at q3
    have e1 := get_inj hT.nodup q2 h2 (q3.trans hx.symm)
    refine ⟨by rw [q1, e1], fun ha0 => ?_⟩
    have hpd : x.dropLast ∈ trie ps := drop_mem hT hxm
    have ha2 : (trie ps).getD a [] = x.dropLast := by rw [ha.2, lsuf_of_mem hpd]
    have hpw : (trie ps).getD (parT (trie ps) s) [] = x.dropLast := by rw [par_word hT h2, hx]
    have hpa : parT (trie ps) s = a := get_inj hT.nodup (par_lt hT h2) ha.1 (hpw.trans ha2.symm)
    have hst := fl_step hT h2 (by omega) (by rw [hpa]; exact ha0)
    rw [hpa] at hst
    have hby : byT (trie ps) s = x.getD (x.length - 1) 0 := by
      unfold byT
      rw [hx, List.getD_eq_getElem?_getD, ← List.getLast?_eq_getElem?, List.getLastD_eq_getLast?]
    refine ⟨flT (trie ps) a, by unfold failT; rw [if_pos (st_isT ha.1), Int.toNat_natCast], ?_⟩
    unfold nextT
    rw [if_pos (st_isT (fl_lt hT ha.1)), Int.toNat_natCast, ← hby, ← hst]
theorem fail_zero {ps : List Wd} : failT ps 0 = 0 ∧ depthT ps 0 = 0 := by
  have hT := trie_I ps
  have h0 : isT (trie ps) 0 = true := st_isT (s := 0) hT.pos
  unfold failT depthT flT depT
  rw [if_pos h0, if_pos h0]
  have e : (0 : Int).toNat = 0 := rfl
  rw [e, hT.zero]
  refine ⟨?_, rfl⟩
  have : failW (trie ps) [] = [] := rfl
  rw [this, hT.idx_nil]
  rfl
set_option maxHeartbeats 3000000 in
set_option maxRecDepth 1000000 in
theorem fails_walk (A : Option Addr) (c : Nat) (ps : List Wd) (w : World) (h : PsAt w A c ps) : Calls Try.prog 5 #[.slice A ps.length c] w fun e w' => e = .returned (.bool true) ∧ Below w.heap.size w w' := by
  have K0 := Lib.hid (copy_ctr h)
  have H := Lib.hid h
  clear h
  go_enter Try.func5, Try.ntmps5
  go_wp2_with fail
  refine K0.out.mono ?_
  rintro e w2 ⟨A2, c2, rfl, hp, hb⟩
  have B2 := Lib.hid hb
  have K2 := Lib.hid (build_ctr hp)
  clear hp hb K0
  go_wp2_with fail
  refine K2.out.mono ?_
  rintro e w3 ⟨hb, hr⟩
  have B3 := Lib.hid (B2.out.trans (hb.mono B2.out.size))
  clear hb K2 B2
  rcases hr with ⟨hz0, rfl⟩ | ⟨hz0, pa, rfl, hm⟩
  · have K5 := Lib.hid (awake6_calls w3)
    have e0 : (chkW ps != 0) = true := by simp [hz0]
    clear hz0
    go_wp2_with fail
    refine K5.out.mono ?_
    rintro e w6 ⟨rfl, hb⟩
    have B6 := Lib.hid (B3.out.trans (hb.mono B3.out.size))
    clear hb
    go_wp2
    go_ret
    exact ⟨rfl, B6.out⟩
  · have HC : Hid (CtxP w w3 pa A c ps) := ⟨B3.out, hm, H.out.below B3.out⟩
    have HZ := Lib.hid (show chkW ps = 0 from hz0)
    clear hz0 hm B3
    obtain ⟨htp, htl⟩ := trie_bound HZ.out
    obtain ⟨N, hN⟩ : ∃ N, (trie ps).length = N := ⟨_, rfl⟩
    rw [hN] at htp htl
    have HN := Lib.hid hN
    clear hN
    go_wp2
    go_loopg [5] N (fun g1 vs wr => ∃ s : Nat, vs = .int .i64 (s : Int) ∧ 1 ≤ s ∧ s ≤ N ∧ N - s ≤ g1 ∧ Hid (CtxP w wr pa A c ps))
    case atStart => exact ⟨1, rfl, Nat.le_refl _, htp, by omega, HC⟩
    case round =>
      clear HC
      obtain ⟨s, rfl, hs1, hsN, hg1, HC⟩ := hrel
      have KS := Lib.hid (states_calls wr pa ps HC.out.mach)
      rw [HN.out] at KS
      go_wp2_with fail
      refine KS.out.mono ?_
      rintro e w4 ⟨rfl, hd⟩
      have HC4 := Lib.hid (HC.out.step (below_of_drew hd))
      clear hd KS HC
      by_cases hlt : s < N
      · have hlz : (s : Int) < (N : Int) := by omega
        obtain ⟨x, f, p1, p2, p3, p4, p5, p6, p7, u, p8, p9, p10, p11, p12, p13, p14⟩ := fails_plain HZ.out hs1 (by rw [HN.out]; exact hlt)
        rw [HN.out] at p3
        have P12 := Lib.hid p12
        have P13 := Lib.hid p13
        have P14 := Lib.hid p14
        have P4 := Lib.hid p4
        have P6 := Lib.hid p6
        have P9 := Lib.hid p9
        have P10 := Lib.hid p10
        have KW := Lib.hid (word_calls w4 pa ps (s : Int) HC4.out.mach)
        rw [p1] at KW
        have P2 := Lib.hid p2
        have hx0 : 0 < x.length := List.length_pos_iff.2 p4
        clear p1 p2 p4 p6 p7 p8 p9 p10 p12 p13 p14
        go_wp2_with fail
        refine KW.out.mono ?_
        rintro e w5 ⟨v, rfl, hO, hB⟩
        obtain ⟨A1, c1, rfl, hc1, hC1⟩ := own_bytes_reads hO
        have hxb : ∀ b ∈ x, 0 ≤ b ∧ b ≤ 255 := (word_bound HZ.out HC4.out.mach.bytes P6.out).2
        have HX : Hid (TxAt w5 A1 c1 x) := ⟨hC1, hc1, hxb, by omega⟩
        have HC5' := HC4.out.step hB
        have HC5 : Hid (CtxT w w5 pa A c ps A1 c1 x) := ⟨HC5'.below, HC5'.mach, HC5'.pats, HX.out⟩
        have HXB := Lib.hid hxb
        have KF := Lib.hid (fail_calls w5 pa ps (s : Int) HC5'.mach)
        rw [P2.out] at KF
        clear hO hB hC1 KW HC4 HX HC5' hxb
        go_wp2_with fail
        refine KF.out.mono ?_
        rintro e w6 ⟨rfl, hd⟩
        have HC6 := Lib.hid (HC5.out.step (below_of_drew hd))
        have KS := Lib.hid (states_calls w6 pa ps HC6.out.mach)
        rw [HN.out] at KS
        have e1 : ((x.length : Int) == 0) = false := by rw [beq_eq_false_iff_ne]; omega
        clear hd KF HC5
        go_wp2_with fail
        refine KS.out.mono ?_
        rintro e w7 ⟨rfl, hd⟩
        have HC7 := Lib.hid (HC6.out.step (below_of_drew hd))
        have KD := Lib.hid (depth_calls w7 pa ps (f : Int) HC7.out.mach)
        rw [P10.out] at KD
        have e2 : ¬ ((N : Int) ≤ (f : Int)) := by omega
        have e2n : ¬ (N ≤ f) := by omega
        have e2d : decide (N ≤ f) = false := decide_eq_false e2n
        have e3 : ¬ ((f : Int) < 0) := by omega
        clear hd KS HC6
        go_wp2_with fail
        refine KD.out.mono ?_
        rintro e w8 ⟨rfl, hd⟩
        have HC8 := Lib.hid (HC7.out.step (below_of_drew hd))
        have KW := Lib.hid (word_calls w8 pa ps (f : Int) HC8.out.mach)
        rw [P9.out] at KW
        have e4 : ¬ ((x.length : Int) ≤ (u.length : Int)) := by omega
        have e4n : ¬ (x.length ≤ u.length) := by omega
        have e4d : decide (x.length ≤ u.length) = false := decide_eq_false e4n
        clear hd KD HC7
        go_wp2_with fail
        refine KW.out.mono ?_
        rintro e w9 ⟨v, rfl, hO, hB⟩
        obtain ⟨Au, cu, rfl, hcu, hCu⟩ := own_bytes_reads hO
        have HC9 := Lib.hid (HC8.out.step hB)
        have KE := ends_ctr (w := w9) rfl rfl HC9.out.text.reads HC9.out.text.cap hCu hcu
        rw [decide_eq_true P12.out] at KE
        have HKE := Lib.hid KE
        clear KE hO hB hCu KW HC8
        go_wp2_with fail
        refine HKE.out.mono ?_
        rintro e w10 ⟨rfl, hd⟩
        have HC10 := Lib.hid (HC9.out.step (below_of_drew hd))
        clear hd HKE HC9
        have hw1 : IntKind.i64.wrap ((x.length : Int) - (u.length : Int)) = (x.length : Int) - (u.length : Int) := by rw [IntKind.wrap_i64]; omega
        have hw2 : IntKind.i64.wrap ((x.length : Int) - 1) = ((x.length - 1 : Nat) : Int) := by rw [IntKind.wrap_i64]; omega
        clear e1 e2 e3 e4 e2n e2d e4n e4d
        go_wp2
        go_loopg [8] x.length (fun g2 vk wr => ∃ k : Nat, vk = .int .i64 (k : Int) ∧ 1 ≤ k ∧ k ≤ x.length ∧ x.length - k ≤ g2 ∧ Hid (CtxT w wr pa A c ps A1 c1 x))
        case atStart => exact ⟨1, rfl, Nat.le_refl _, hx0, by omega, HC10⟩
        case round =>
          clear HC10
          obtain ⟨k, rfl, hk1, hkx, hg2, HC⟩ := hrel
          have KD := Lib.hid (depth_calls wr pa ps (f : Int) HC.out.mach)
          rw [P10.out] at KD
          go_wp2_with fail
          refine KD.out.mono ?_
          rintro e w11 ⟨rfl, hd⟩
          have HC11 := Lib.hid (HC.out.step (below_of_drew hd))
          clear hd KD HC
          by_cases hkl : k + u.length < x.length
          · have hkz : (k : Int) < (x.length : Int) - (u.length : Int) := by omega
            obtain ⟨At, hcut, hCt, hyc⟩ := drop_tx (A := A1) (x := x) (c := c1) (lo := k) (by omega) HC11.out.text.cap
            obtain ⟨y, hy⟩ : ∃ y, x.drop k = y := ⟨_, rfl⟩
            have hyn := P13.out k hk1 hkl
            rw [hy] at hcut hCt hyc hyn
            have KB := begins_ctr (w := w11) (A := A) (c := c) (ps := ps) HC11.out.pats (hCt w11 HC11.out.text.reads) hyc
            rw [begins_mem HZ.out, decide_eq_false hyn] at KB
            have HKB := Lib.hid KB
            have hw3 : IntKind.i64.wrap ((k : Int) + 1) = (k : Int) + 1 := by rw [IntKind.wrap_i64]; omega
            clear KB hyn hCt hy
            go_wp2_with fail
            refine HKB.out.mono ?_
            rintro e w12 ⟨rfl, hd⟩
            have HC12 := Lib.hid (HC11.out.step (below_of_drew hd))
            clear hd HKB HC11
            go_wp2
            go_roundg (x.length - (k + 1))
            case measure => omega
            case rel => exact ⟨k + 1, by go_num, by omega, by omega, Nat.le_refl _, HC12⟩
          · have hkz : ¬ ((k : Int) < (x.length : Int) - (u.length : Int)) := by omega
            go_wp2
            go_loopg [9, 10] x.length (fun g3 va vk wr => ∃ a k : Nat, va = .int .i64 (a : Int) ∧ vk = .int .i64 (k : Int) ∧ k + 1 ≤ x.length ∧ x.length - k ≤ g3 ∧ Hid (StAt ps a (x.take k)) ∧ Hid (CtxT w wr pa A c ps A1 c1 x))
            case atStart => exact ⟨0, 0, rfl, rfl, hx0, by omega, st_zero ps, HC11⟩
            case round =>
              clear HC11 hkz hkl
              obtain ⟨a, k, rfl, rfl, hkx, hg3, HS, HC⟩ := hrel
              have hw3 : IntKind.i64.wrap ((k : Int) + 1) = (k : Int) + 1 := by rw [IntKind.wrap_i64]; omega
              by_cases hkl : k + 1 < x.length
              · have hkz : (k : Int) + 1 < (x.length : Int) := by omega
                have hkz2 : (k : Int) < (x.length : Int) := by omega
                obtain ⟨ad, rfl, hcell⟩ := tx_byte HC.out.text (k := k) (by omega)
                obtain ⟨b, hb⟩ : ∃ b, x.getD k 0 = b := ⟨_, rfl⟩
                have hbb := text_byte HXB.out (i := k) (by omega)
                have hnx := st_next HS.out b
                have hts := text_step (x := x) (i := k) (by omega)
                rw [hb] at hcell hbb hts
                rw [← hts] at hnx
                have KN := Lib.hid (next_calls wr pa ps (a : Int) b HC.out.mach hbb)
                rw [hnx.1] at KN
                obtain ⟨s2, hs2⟩ : ∃ s2, nxT (trie ps) a b = s2 := ⟨_, rfl⟩
                rw [hs2] at KN hnx
                have HS2 := Lib.hid hnx.2
                clear hb hbb hnx hts hs2 HS
                go_wp2_with fail
                refine KN.out.mono ?_
                rintro e w12 ⟨rfl, hd⟩
                have HC12 := Lib.hid (HC.out.step (below_of_drew hd))
                clear hd KN hcell HC
                go_wp2
                go_roundg (x.length - (k + 1))
                case measure => omega
                case rel => exact ⟨s2, k + 1, rfl, by go_num, by omega, Nat.le_refl _, HS2, HC12⟩
              · have hkz : ¬ ((k : Int) + 1 < (x.length : Int)) := by omega
                have hke : k = x.length - 1 := by omega
                have HS' : StAt ps a x.dropLast := by have := HS.out; rw [hke] at this; rwa [List.dropLast_eq_take]
                obtain ⟨r1, r2⟩ := P14.out a HS'
                obtain ⟨ad, rfl, hcell⟩ := tx_byte HC.out.text (k := x.length - 1) (by omega)
                have hbb := text_byte HXB.out (i := x.length - 1) (by omega)
                obtain ⟨b, hb⟩ : ∃ b, x.getD (x.length - 1) 0 = b := ⟨_, rfl⟩
                rw [hb] at hcell hbb r1 r2
                have KN1 := fun q => next_calls (wr.drewN q) pa ps (a : Int) b (HC.out.mach.below (below_drewN' (Below.refl _ _) q)) hbb
                rw [r1] at KN1
                have HN1 := Lib.hid KN1
                have hl1 : ((x.length - 1 : Nat) : Int) < (x.length : Int) := by omega
                have hxl1 : x.length - 1 < x.length := by omega
                by_cases ha0 : a = 0
                · have ea : ((a : Int) != 0) = false := by rw [ha0]; rfl
                  clear KN1 r1 r2 hb HS' ha0 hke
                  go_wp2_with fail
                  go_quiet (refine Calls.quiet_of (HN1.out _))
                  have HCe := Lib.hid (HC.out.toP.step (below_drewN' (Below.refl _ _) nq))
                  go_wp2
                  go_roundg (N - (s + 1))
                  case measure => omega
                  case rel => exact ⟨s + 1, by go_num, by omega, by omega, Nat.le_refl _, HCe⟩
                · have ea : ((a : Int) != 0) = true := by simp; omega
                  obtain ⟨fa, r3, r4⟩ := r2 ha0
                  have KF1 := fun q => fail_calls (wr.drewN q) pa ps (a : Int) (HC.out.mach.below (below_drewN' (Below.refl _ _) q))
                  rw [r3] at KF1
                  have HF1 := Lib.hid KF1
                  have KN2 := fun q => next_calls (wr.drewN q) pa ps (fa : Int) b (HC.out.mach.below (below_drewN' (Below.refl _ _) q)) hbb
                  rw [r4] at KN2
                  have HN2 := Lib.hid KN2
                  clear KN1 KN2 KF1 r1 r2 r3 r4 hb HS' ha0 hke
                  go_wp2_with fail
                  go_quiet (first | with_reducible refine Calls.quiet_of (HN1.out _) | with_reducible refine Calls.quiet_of (HF1.out _) | with_reducible refine Calls.quiet_of (HN2.out _))
                  have HCe := Lib.hid (HC.out.toP.step (below_drewN' (Below.refl _ _) nq))
                  go_wp2
                  go_roundg (N - (s + 1))
                  case measure => omega
                  case rel => exact ⟨s + 1, by go_num, by omega, by omega, Nat.le_refl _, HCe⟩
      · obtain rfl : s = N := by omega
        have KF := Lib.hid (fail_calls w4 pa ps 0 HC4.out.mach)
        rw [fail_zero.1] at KF
        go_wp2_with fail
        refine KF.out.mono ?_
        rintro e w5 ⟨rfl, hd⟩
        have HC5 := Lib.hid (HC4.out.step (below_of_drew hd))
        have KD := Lib.hid (depth_calls w5 pa ps 0 HC5.out.mach)
        rw [fail_zero.2] at KD
        clear hd KF HC4
        go_wp2_with fail
        refine KD.out.mono ?_
        rintro e w6 ⟨rfl, hd⟩
        have HC6 := Lib.hid (HC5.out.step (below_of_drew hd))
        have KA := Lib.hid (awake6_calls w6)
        clear hd KD HC5
        go_wp2_with fail
        refine KA.out.mono ?_
        rintro e w7 ⟨rfl, hb⟩
        have B7 := Lib.hid (HC6.out.below.trans (hb.mono HC6.out.below.size))
        clear hb
        go_wp2
        go_ret
        exact ⟨rfl, B7.out⟩
end Go.Proofs.Ytdciniefkodeaaa.PAll
