/- PatternsWords, walked. -/
import Derived.Deep.RegionHeld3
import Derived.Test.YtdciniefkodeaaaQWo6HRun6
set_option linter.unusedVariables false
set_option linter.unusedSimpArgs false
namespace Go.Proofs.Ytdciniefkodeaaa.PAll
open Go.Sort Go.RowKit Go.Proofs.YtdciniefkodeaaaW.PrintWords Go.Proofs.YtdciniefkodeaaaW.PrintLast Go.Proofs.YtdciniefkodeaaaW.PrintMore
theorem long_ge : ∀ (ps : List Wd) (m : Int), m ≤ ps.foldl (fun m p => if m < (p.length : Int) then (p.length : Int) else m) m ∧ ∀ p ∈ ps, (p.length : Int) ≤ ps.foldl (fun m p => if m < (p.length : Int) then (p.length : Int) else m) m
  | [], m => ⟨Int.le_refl _, fun p hp => by cases hp⟩
  | q :: r, m => by
    rw [List.foldl_cons]
    obtain ⟨h1, h2⟩ := long_ge r (if m < (q.length : Int) then (q.length : Int) else m)
    refine ⟨Int.le_trans ?_ h1, fun p hp => ?_⟩
    · split <;> omega
    · rcases List.mem_cons.1 hp with rfl | hp
      · refine Int.le_trans ?_ h1
        split <;> omega
      · exact h2 p hp
theorem long_is {ps : List Wd} (h : chkW ps = 0) : ∃ m : Nat, longW ps = (m : Int) ∧ m ≤ 32 ∧ ∀ x ∈ trie ps, x.length ≤ m := by
  obtain ⟨_, _, h3⟩ := chkW_zero h
  have hb := longW_bound ps 0 (fun p hp => (h3 p hp).2) (by omega) (by omega)
  have hg := long_ge ps 0
  refine ⟨(longW ps).toNat, by unfold longW; omega, by unfold longW; omega, fun x hx => ?_⟩
  rcases (mem_trie ps x).1 hx with rfl | ⟨p, hp, hpre⟩
  · exact Nat.zero_le _
  · have h1 := hpre.length_le
    have h2 := hg.2 p hp
    unfold longW
    omega
theorem lsuf_cut {T : List Wd} (hT : [] ∈ T) {m : Nat} (hm : ∀ x ∈ T, x.length ≤ m) (x : Wd) {d : Nat} (hd : d + m ≤ x.length ∨ d = 0) : lsuf T x = lsuf T (x.drop d) := by
  have hs : x.drop d <:+ x := List.drop_suffix d x
  refine suf_antisymm (lsuf_max T _ _ ?_ (lsuf_mem hT x)) (lsuf_max T _ _ ((lsuf_suf T _).trans hs) (lsuf_mem hT _))
  refine List.suffix_of_suffix_length_le (lsuf_suf T x) hs ?_
  have := hm _ (lsuf_mem hT x)
  rw [List.length_drop]
  rcases hd with hd | hd
  · omega
  · subst hd
    have := (lsuf_suf T x).length_le
    omega
theorem lsuf_step1 {T : List Wd} {x : Wd} {a : Nat} (ha : a < x.length) (hn : x.drop a ∉ T) : lsuf T (x.drop a) = lsuf T (x.drop (a + 1)) := by
  rw [List.drop_eq_getElem_cons ha] at hn ⊢
  rw [lsuf, if_neg hn]
theorem begins_mem {ps : List Wd} (h : chkW ps = 0) (x : Wd) : beginsW ps x = decide (x ∈ trie ps) := by
  obtain ⟨h1, _, _⟩ := chkW_zero h
  unfold beginsW
  rw [decide_eq_decide, mem_trie]
  constructor
  · intro h; exact .inr h
  · rintro (rfl | h)
    · exact ⟨ps[0], List.getElem_mem h1, List.nil_prefix⟩
    · exact h
theorem begins_ctr {w : World} {A B : Option Addr} {c d : Nat} {ps : List Wd} {x : Wd} (h : PsAt w A c ps) (h1 : (Kd.int .u8).C w B x.length x) (h2 : x.length ≤ d) : Calls Try.prog 28 #[.slice A ps.length c, .slice B x.length d] w fun e w' => e = .returned (.bool (beginsW ps x)) ∧ ∃ q, w' = w.drewN q := by
  refine (winklelaw06_begins.calls (ps.length + x.length + 2) A c ps B d x _ w h.reads h.cap h1 h2 (begins_is ps x h.reads.2.1 h1.2.1 _ (by omega))).mono ?_
  rintro e w' ⟨rfl, h⟩
  exact ⟨rfl, h.out⟩
theorem same_ctr {w : World} {A B : Option Addr} {c d : Nat} {x y : Wd} (h1 : (Kd.int .u8).C w A x.length x) (h2 : x.length ≤ c) (h3 : (Kd.int .u8).C w B y.length y) (h4 : y.length ≤ d) : Calls Try.prog 30 #[.slice A x.length c, .slice B y.length d] w fun e w' => e = .returned (.bool (decide (x = y))) ∧ ∃ q, w' = w.drewN q := by
  refine (winkleref03_Same.calls (x.length + 1) A c x B d y _ w h1 h2 h3 h4 (same_is x y h1.2.1 _ (Nat.lt_succ_self _))).mono ?_
  rintro e w' ⟨rfl, h⟩
  exact ⟨rfl, h.out⟩
theorem mid_tx {A : Option Addr} {x : Wd} {c lo hi : Nat} (h1 : lo ≤ hi) (h2 : hi ≤ x.length) (h3 : x.length ≤ c) : ∃ A' : Option Addr, (∀ W : World, (Instr.slice 32 (.slice A x.length c) (some (.int .i64 (lo : Int))) (some (.int .i64 (hi : Int))) none).run Try.prog W = .ok (.slice A' ((x.take hi).drop lo).length (c - lo)) W) ∧
    (∀ W : World, (Kd.int .u8).C W A x.length x → (Kd.int .u8).C W A' ((x.take hi).drop lo).length ((x.take hi).drop lo)) ∧ ((x.take hi).drop lo).length ≤ c - lo ∧ ((x.take hi).drop lo).length = hi - lo := by
  obtain ⟨i0, hi0, _, hsz, _⟩ := info_parts info5
  obtain ⟨A', q1, q2, q3⟩ := print_mid_of (P := Try.prog) (Value.int .u8) (0 : Int) 32 5 .i64 .i64 Try.underlying32 hi0 hsz A c x (lo : Int) (hi : Int) (by omega) (by omega) (by omega) h3
  rw [Int.toNat_natCast, Int.toNat_natCast] at q1 q2 q3
  refine ⟨A', q1, fun W h => Kd.C_of_reads (h1 := fun _ => rfl) (q2 W (Kd.reads_of_C h)), q3, ?_⟩
  rw [List.length_drop, List.length_take]; omega
theorem own_bytes_reads {w : World} {base : Nat} {v : Value} {xs : Wd} (h : OwnB w base v xs) : ∃ A c, v = .slice A xs.length c ∧ xs.length ≤ c ∧ (Kd.int .u8).C w A xs.length xs :=
  Kd.R_reads (Kd.R_of_own (h1 := fun _ => rfl) (ok := fun _ => True) h (fun _ _ => trivial))
/-- The calls of a state's word beside the text's end y. -/
theorem word_steps {w : World} {pa : Nat} {A : Option Addr} {c : Nat} {ps : List Wd} {A1 : Option Addr} {c1 : Nat} {x y : Wd} {At : Option Addr} {ct s : Nat} (hw : wordT ps (s : Int) = y ∧ depthT ps (s : Int) = (y.length : Int)) (hCt : ∀ W : World, (Kd.int .u8).C W A1 x.length x → (Kd.int .u8).C W At y.length y) (hct : y.length ≤ ct) :
    (∀ wr, CtxT w wr pa A c ps A1 c1 x → Calls Try.prog 25 #[.pointer (some ⟨pa, 0, none⟩), .int .i64 (s : Int)] wr fun e w' => ∃ A' c', e = .returned (.slice A' y.length c') ∧ CtxT w w' pa A c ps A1 c1 x ∧ ((Kd.int .u8).C w' A' y.length y ∧ y.length ≤ c')) ∧
    (∀ A' c' wr, CtxT w wr pa A c ps A1 c1 x → ((Kd.int .u8).C wr A' y.length y ∧ y.length ≤ c') → Calls Try.prog 30 #[.slice A' y.length c', .slice At y.length ct] wr fun e w' => e = .returned (.bool true) ∧ CtxT w w' pa A c ps A1 c1 x) ∧
    (∀ wr, CtxT w wr pa A c ps A1 c1 x → Calls Try.prog 27 #[.pointer (some ⟨pa, 0, none⟩), .int .i64 (s : Int)] wr fun e w' => e = .returned (.int .i64 (y.length : Int)) ∧ CtxT w w' pa A c ps A1 c1 x) := by
  refine ⟨fun wr h => ?_, fun A' c' wr h hC => ?_, fun wr h => ?_⟩
  · refine (word_calls wr pa ps (s : Int) h.mach).mono ?_
    rintro e w' ⟨v, rfl, hO, hB⟩
    rw [hw.1] at hO
    obtain ⟨A', c', rfl, h1, h2⟩ := own_bytes_reads hO
    exact ⟨A', c', rfl, h.step hB, h2, h1⟩
  · refine (same_ctr hC.1 hC.2 (hCt wr h.text.reads) hct).mono ?_
    rintro e w' ⟨rfl, hd⟩
    exact ⟨by rw [decide_eq_true rfl], h.step (below_of_drew hd)⟩
  · refine (depth_calls wr pa ps (s : Int) h.mach).mono ?_
    rintro e w' ⟨rfl, hd⟩
    exact ⟨by rw [hw.2], h.step (below_of_drew hd)⟩
set_option maxHeartbeats 3000000 in
set_option maxRecDepth 1000000 in
theorem words_walk (A : Option Addr) (c : Nat) (ps : List Wd) (A1 : Option Addr) (c1 : Nat) (x : Wd) (w : World) (h : PsAt w A c ps) (hx : TxAt w A1 c1 x) : Calls Try.prog 7 #[.slice A ps.length c, .slice A1 x.length c1] w fun e w' => e = .returned (.bool true) ∧ Below w.heap.size w w' := by
  have K0 := Lib.hid (copy_ctr h)
  have H := Lib.hid h
  have HX := Lib.hid hx
  clear h hx
  go_enter Try.func7, Try.ntmps7
  go_wp2_with fail
  refine K0.out.mono ?_
  rintro e w2 ⟨A2, c2, rfl, hp, hb⟩
  have B2 := Lib.hid hb
  have K2 := Lib.hid (build_ctr hp)
  clear hp hb K0
  go_wp2_with fail
  refine K2.out.mono ?_
  rintro e w3 ⟨hb, hr⟩
  have B3 := Lib.hid (B2.out.trans (hb.mono B2.out.size))
  clear hb K2 B2
  rcases hr with ⟨hz0, rfl⟩ | ⟨hz0, pa, rfl, hm⟩
  · have K5 := Lib.hid (awake6_calls w3)
    have e0 : (chkW ps != 0) = true := by simp [hz0]
    clear hz0
    go_wp2_with fail
    refine K5.out.mono ?_
    rintro e w4 ⟨rfl, hb⟩
    have B4 := Lib.hid (B3.out.trans (hb.mono B3.out.size))
    have K6 := Lib.hid (copy_ctr (H.out.below B4.out))
    clear hb B3 K5
    go_wp2_with fail
    refine K6.out.mono ?_
    rintro e w5 ⟨A5, c5, rfl, hp, hb⟩
    have B5 := Lib.hid (B4.out.trans (hb.mono B4.out.size))
    have K7 := Lib.hid (check_ctr hp)
    clear hb hp B4 K6
    go_wp2_with fail
    refine K7.out.mono ?_
    rintro e w6 ⟨rfl, hb⟩
    have B6 := Lib.hid (B5.out.trans (hb.mono B5.out.size))
    clear hb
    go_wp2
    go_ret
    exact ⟨rfl, B6.out⟩
  · have HC : Hid (CtxT w w3 pa A c ps A1 c1 x) := ⟨B3.out, hm, H.out.below B3.out, HX.out.below B3.out⟩
    have HZ := Lib.hid (show chkW ps = 0 from hz0)
    clear hz0 hm B3
    have hxn : x.length < 140737488355328 := HX.out.size
    have HXB := Lib.hid HX.out.bytes
    obtain ⟨m, hlm, hm32, hmT⟩ := long_is HZ.out
    have HLM := Lib.hid hlm
    have HMT := Lib.hid hmT
    clear hlm hmT
    go_wp2
    go_loopg [7, 8] x.length (fun g1 vs vi wr => ∃ i s : Nat, vs = .int .i64 s ∧ vi = .int .i64 i ∧ i ≤ x.length ∧ i ≤ 300 ∧ x.length - i ≤ g1 ∧ Hid (StAt ps s (x.take i)) ∧ Hid (CtxT w wr pa A c ps A1 c1 x))
    case atStart => exact ⟨0, 0, rfl, rfl, Nat.zero_le _, Nat.zero_le _, Nat.le_refl _, st_zero ps, HC⟩
    case round =>
      clear HC
      obtain ⟨i, s, rfl, rfl, hi, hi3, hg1, HS, HC⟩ := hrel
      by_cases hlt : i < x.length
      · by_cases hl3 : i < 300
        · have hiz : (i : Int) < (x.length : Int) := by omega
          have hi3z : (i : Int) < 300 := by omega
          obtain ⟨ad, rfl, hcell⟩ := tx_byte HC.out.text hlt
          obtain ⟨b, hb⟩ : ∃ b, x.getD i 0 = b := ⟨_, rfl⟩
          have hbb := text_byte HXB.out hlt
          have hnx := st_next HS.out b
          have hts := text_step hlt
          rw [hb] at hcell hbb hts
          rw [← hts] at hnx
          have KN := Lib.hid (next_calls wr pa ps (s : Int) b HC.out.mach hbb)
          rw [hnx.1] at KN
          obtain ⟨s2, hs2⟩ : ∃ s2, nxT (trie ps) s b = s2 := ⟨_, rfl⟩
          rw [hs2] at KN hnx
          have HS2 := Lib.hid hnx.2
          clear hb hbb hnx hts hs2 HS
          go_wp2_with fail
          refine KN.out.mono ?_
          rintro e w4 ⟨rfl, hd⟩
          have HC4 := Lib.hid (HC.out.step (below_of_drew hd))
          have KL := Lib.hid (longest_calls w4 pa ps HC4.out.mach)
          rw [HLM.out] at KL
          clear hd KN hcell HC
          have hw1 : IntKind.i64.wrap ((i : Int) + 1) = (i : Int) + 1 := by rw [IntKind.wrap_i64]; omega
          have hw2 : IntKind.i64.wrap ((i : Int) + 1 - (m : Int)) = (i : Int) + 1 - (m : Int) := by rw [IntKind.wrap_i64]; omega
          have hcap1 : x.length ≤ c1 := HC4.out.text.cap
          obtain ⟨X, hX⟩ : ∃ X, x.take (i + 1) = X := ⟨_, rfl⟩
          have hXl : X.length = i + 1 := by rw [← hX, List.length_take]; omega
          have hword := st_word HS2.out
          rw [hX] at hword
          have HWD := Lib.hid hword
          have HXX := Lib.hid hX
          rw [Hid, hX] at HS2
          have HSX : Hid (StAt ps s2 X) := HS2
          clear hX hword HS2
          have hstart : ∃ a0 : Nat, (if (0 : Int) < (i : Int) + 1 - (m : Int) then (i : Int) + 1 - (m : Int) else 0) = (a0 : Int) ∧ a0 ≤ i + 1 ∧ lsuf (trie ps) X = lsuf (trie ps) (X.drop a0) := by
            by_cases h0 : (0 : Int) < (i : Int) + 1 - (m : Int)
            · refine ⟨i + 1 - m, by rw [if_pos h0]; omega, by omega, lsuf_cut (trie_closed ps).1 HMT.out X (.inl (by omega))⟩
            · exact ⟨0, by rw [if_neg h0]; rfl, by omega, rfl⟩
          obtain ⟨a0, ha0, ha1, ha2⟩ := hstart
          have HA2 := Lib.hid ha2
          clear ha2
          have hmax : ∀ ats ty, Builtin.max_ ats ty #[.int .i64 0, .int .i64 ((i : Int) + 1 - (m : Int))] = pure (.int .i64 (a0 : Int)) := fun ats ty => by
            rw [max_two, max2_int, ha0]; rfl
          clear ha0
          go_wp2_with fail
          refine KL.out.mono ?_
          rintro e w5 ⟨rfl, hd⟩
          have HC5 := Lib.hid (HC4.out.step (below_of_drew hd))
          clear hd KL HC4
          go_wp2
          go_loopg [9] (i + 1) (fun g2 va wr => ∃ a : Nat, va = .int .i64 (a : Int) ∧ a ≤ i + 1 ∧ i + 1 - a ≤ g2 ∧ Hid (lsuf (trie ps) X = lsuf (trie ps) (X.drop a)) ∧ Hid (CtxT w wr pa A c ps (some ad) c1 x))
          case atStart => exact ⟨a0, rfl, ha1, by omega, HA2, HC5⟩
          case round =>
            clear HA2 HC5
            obtain ⟨a, rfl, hai, hg2, HL, HC6⟩ := hrel
            obtain ⟨At, hcut, hCt, hyc, hyl⟩ := mid_tx (A := some ad) (x := x) (c := c1) (lo := a) (hi := i + 1) hai (by omega) hcap1
            rw [HXX.out] at hcut hCt hyc hyl
            obtain ⟨y, hy⟩ : ∃ y, X.drop a = y := ⟨_, rfl⟩
            rw [hy] at hcut hCt hyc hyl HL
            have hcut2 : ∀ W : World, (Instr.slice 32 (.slice (some ad) x.length c1) (some (.int .i64 (a : Int))) (some (.int .i64 ((i : Int) + 1))) none).run Try.prog W = .ok (.slice At y.length (c1 - a)) W := fun W => by have := hcut W; rwa [Int.natCast_add] at this
            have hw5 : IntKind.i64.wrap ((i : Int) + 1 - (a : Int)) = (y.length : Int) := by rw [IntKind.wrap_i64]; omega
            have hw6 : IntKind.i64.wrap ((a : Int) + 1) = (a : Int) + 1 := by rw [IntKind.wrap_i64]; omega
            have HCt := Lib.hid hCt
            have HY := Lib.hid hy
            have HYL := Lib.hid hyl
            clear hCt hcut hy hyl
            by_cases hal : a ≤ i
            · have haz : (a : Int) ≤ (i : Int) := by omega
              have KB := begins_ctr (w := wr) (A := A) (c := c) (ps := ps) HC6.out.pats (HCt.out wr HC6.out.text.reads) hyc
              rw [begins_mem HZ.out] at KB
              have HKB := Lib.hid KB
              clear KB
              by_cases hym : y ∈ trie ps
              · have HLY : Hid (lsuf (trie ps) X = y) := HL.out.trans (lsuf_of_mem hym)
                rw [decide_eq_true hym] at HKB
                clear hym HL
                go_wp2_with fail
                refine HKB.out.mono ?_
                rintro e w6 ⟨rfl, hd⟩
                have HC7 := Lib.hid (HC6.out.step (below_of_drew hd))
                clear hd HKB HC6
                generalize w6 = wr at HC7 ⊢
                have HC6 := HC7
                clear HC7
                have hC6 := HC6.out
                have HC6d : Hid (CtxT w wr.drew pa A c ps (some ad) c1 x) := hC6.step (Below.refl _ _).drew
                have hws := word_steps (w := w) (pa := pa) (A := A) (c := c) (ps := ps) (A1 := some ad) (c1 := c1) (x := x) (y := y) (At := At) (ct := c1 - a) (s := s2) ⟨HWD.out.1.trans HLY.out, by rw [HWD.out.2, HLY.out]⟩ HCt.out hyc
                have HZZ := Lib.hid hws
                clear hws hC6
                go_wp2_with fail
                go_region_held3 (fun w' => CtxT w w' pa A c ps (some ad) c1 x) (first | exact HC6d.out | assumption) (first | (go_at_call 25; refine (HZZ.out.1 _ (by assumption)).mono ?_; rintro e w' ⟨A', c', rfl, hS, hC⟩) | (go_at_call 30; refine (HZZ.out.2.1 _ _ _ (by assumption) (by assumption)).mono ?_; rintro e w' ⟨rfl, hS⟩) | (go_at_call 27; refine (HZZ.out.2.2 _ (by assumption)).mono ?_; rintro e w' ⟨rfl, hS⟩))
                have HE := Lib.hid (show CtxT w w' pa A c ps (some ad) c1 x by assumption)
                go_wp2
                go_roundg (x.length - (i + 1))
                case measure => omega
                case rel => exact ⟨i + 1, s2, rfl, by go_num, by omega, by omega, Nat.le_refl _, by rw [HXX.out]; exact HSX, HE⟩
              · have HL2 : Hid (lsuf (trie ps) X = lsuf (trie ps) (X.drop (a + 1))) := HL.out.trans (by rw [← HY.out] at hym ⊢; exact lsuf_step1 (by omega) hym)
                rw [decide_eq_false hym] at HKB
                clear hym HL
                go_wp2_with fail
                refine HKB.out.mono ?_
                rintro e w6 ⟨rfl, hd⟩
                have HC7 := Lib.hid (HC6.out.step (below_of_drew hd))
                clear hd HKB HC6
                go_wp2
                go_roundg (i + 1 - (a + 1))
                case measure => omega
                case rel => exact ⟨a + 1, by go_num, by omega, Nat.le_refl _, HL2, HC7⟩
            · have haz : ¬ ((a : Int) ≤ (i : Int)) := by omega
              have hyn : y = [] := List.eq_nil_of_length_eq_zero (by have := HYL.out; omega)
              have HLY : Hid (lsuf (trie ps) X = y) := HL.out.trans (by rw [hyn]; rfl)
              clear hyn HL
              have hC6 := HC6.out
              have HC6d : Hid (CtxT w wr.drew pa A c ps (some ad) c1 x) := hC6.step (Below.refl _ _).drew
              have hws := word_steps (w := w) (pa := pa) (A := A) (c := c) (ps := ps) (A1 := some ad) (c1 := c1) (x := x) (y := y) (At := At) (ct := c1 - a) (s := s2) ⟨HWD.out.1.trans HLY.out, by rw [HWD.out.2, HLY.out]⟩ HCt.out hyc
              have HZZ := Lib.hid hws
              clear hws hC6
              go_wp2_with fail
              go_region_held3 (fun w' => CtxT w w' pa A c ps (some ad) c1 x) (first | exact HC6d.out | assumption) (first | (go_at_call 25; refine (HZZ.out.1 _ (by assumption)).mono ?_; rintro e w' ⟨A', c', rfl, hS, hC⟩) | (go_at_call 30; refine (HZZ.out.2.1 _ _ _ (by assumption) (by assumption)).mono ?_; rintro e w' ⟨rfl, hS⟩) | (go_at_call 27; refine (HZZ.out.2.2 _ (by assumption)).mono ?_; rintro e w' ⟨rfl, hS⟩))
              have HE := Lib.hid (show CtxT w w' pa A c ps (some ad) c1 x by assumption)
              go_wp2
              go_roundg (x.length - (i + 1))
              case measure => omega
              case rel => exact ⟨i + 1, s2, rfl, by go_num, by omega, by omega, Nat.le_refl _, by rw [HXX.out]; exact HSX, HE⟩
        · have h3 : ¬ ((i : Int) < 300) := by omega
          have hiz : (i : Int) < (x.length : Int) := by omega
          have K5 := Lib.hid (awake6_calls wr)
          go_wp2_with fail
          refine K5.out.mono ?_
          rintro e w6 ⟨rfl, hb⟩
          have B6 := Lib.hid (HC.out.below.trans (hb.mono HC.out.below.size))
          clear hb
          go_wp2
          go_ret
          exact ⟨rfl, B6.out⟩
      · have hiz : ¬ ((i : Int) < (x.length : Int)) := by omega
        have K5 := Lib.hid (awake6_calls wr)
        go_wp2_with fail
        refine K5.out.mono ?_
        rintro e w6 ⟨rfl, hb⟩
        have B6 := Lib.hid (HC.out.below.trans (hb.mono HC.out.below.size))
        clear hb
        go_wp2
        go_ret
        exact ⟨rfl, B6.out⟩
end Go.Proofs.Ytdciniefkodeaaa.PAll
