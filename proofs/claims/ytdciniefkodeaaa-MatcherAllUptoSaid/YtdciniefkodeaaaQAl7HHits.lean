/- The reference's Hits, walked. -/
import Derived.Deep.AppendLies
import Derived.Test.YtdciniefkodeaaaQAl7HHit1
set_option linter.unusedVariables false
set_option linter.unusedSimpArgs false
namespace Go.Proofs.Ytdciniefkodeaaa.PAll
open Go.Sort Go.RowKit Go.Proofs.YtdciniefkodeaaaW.PrintWords Go.Proofs.YtdciniefkodeaaaW.PrintLast Go.Proofs.YtdciniefkodeaaaW.PrintMore
/-- The hits behind i + 1 bytes of the patterns ahead of k. -/
def hitsK (ps : List Wd) (x : Wd) (i k : Nat) : List (Int × Int) := hitsTo ps x i ++ (((List.range k).filter fun j => decide (ps.getD j [] <:+ x.take (i + 1))).map fun j : Nat => ((j : Int), ((i + 1 : Nat) : Int)))
theorem hitsK_zero (ps : List Wd) (x : Wd) (i : Nat) : hitsK ps x i 0 = hitsTo ps x i := by unfold hitsK; simp
theorem hitsK_all (ps : List Wd) (x : Wd) (i : Nat) : hitsK ps x i ps.length = hitsTo ps x (i + 1) := by
  unfold hitsK
  rw [hitsTo]
  unfold outsW idsW
  rw [List.map_map]
  rfl
theorem hitsK_succ (ps : List Wd) (x : Wd) (i k : Nat) : hitsK ps x i (k + 1) = if ps.getD k [] <:+ x.take (i + 1) then hitsK ps x i k ++ [((k : Int), ((i + 1 : Nat) : Int))] else hitsK ps x i k := by
  unfold hitsK
  rw [List.range_succ, List.filter_append, List.map_append, ← List.append_assoc]
  by_cases h : ps.getD k [] <:+ x.take (i + 1)
  · rw [if_pos h, List.filter_cons, if_pos (decide_eq_true h)]; rfl
  · rw [if_neg h, List.filter_cons, if_neg (ndec h), List.filter_nil, List.map_nil, List.append_nil]
theorem hitsK_pre (ps : List Wd) (x : Wd) (i k : Nat) : ∀ m, ∃ r, hitsK ps x i (k + m) = hitsK ps x i k ++ r
  | 0 => ⟨[], by simp⟩
  | m + 1 => by
    obtain ⟨r, hr⟩ := hitsK_pre ps x i k m
    rw [← Nat.add_assoc, hitsK_succ]
    split
    · exact ⟨_, by rw [hr, List.append_assoc]⟩
    · exact ⟨r, hr⟩
theorem hitsK_len {ps : List Wd} (hp : ps.length ≤ 64) (x : Wd) (i k : Nat) (hk : k ≤ ps.length) : (hitsK ps x i k).length ≤ 64 * (i + 1) := by
  obtain ⟨r, hr⟩ := hitsK_pre ps x i k (ps.length - k)
  have h1 := hits_le hp x (i + 1)
  rw [← hitsK_all, show ps.length = k + (ps.length - k) by omega, hr, List.length_append] at h1
  omega
/-- A pattern of at most 32 bytes is looked for in the last 32 bytes alone. -/
theorem ends_window {p x : Wd} {i : Nat} (hp : p.length ≤ 32) (hi : i ≤ x.length) : (p <:+ (x.take i).drop (i - 32)) ↔ p <:+ x.take i := by
  constructor
  · intro h; exact h.trans (List.drop_suffix _ _)
  · intro h
    refine List.suffix_of_suffix_length_le h (List.drop_suffix _ _) ?_
    have := h.length_le
    rw [List.length_take] at this
    rw [List.length_drop, List.length_take]
    omega
set_option maxHeartbeats 4000000 in
set_option maxRecDepth 1000000 in
theorem hits_calls (w : World) (A : Option Addr) (c : Nat) (ps : List Wd) (A1 : Option Addr) (c1 : Nat) (x : Wd) (most : Int) (h : PsAt w A c ps) (hx : TxAt w A1 c1 x) (hz : chkW ps = 0) (hl : x.length ≤ 1048576) :
    Calls Try.prog 33 #[.slice A ps.length c, .slice A1 x.length c1, .int .i64 most] w (AllEnd w ps x most) := by
  have H := Lib.hid h
  have HX := Lib.hid hx
  have hcz := chkW_zero hz
  have HCZ := Lib.hid hcz
  have hpl := hcz.2.1
  have hcap1 : x.length ≤ c1 := hx.cap
  obtain ⟨i0, hi, hz0, hz1, hz2⟩ := info_parts infoHit
  have HI0 := Lib.hid hi
  have HI1 := Lib.hid hz0
  have HI2 := Lib.hid hz1
  have HI3 := Lib.hid hz2
  clear h hx hz hcz hi hz0 hz1 hz2
  go_enter Try.func33, Try.ntmps33
  go_wp2
  have h0 : Hid (w.ownsRow w.heap.size 49 3 (.slice none 0 0) (hitsTo ps x 0).length (flatH (hitsTo ps x 0))) := ⟨rfl, .inl ⟨rfl, rfl⟩⟩
  have hb0 : Hid (Below w.heap.size w w) := Below.refl _ _
  go_loopg [8, 9] x.length (fun g1 vo vj wr => ∃ i j : Nat, vj = .int .i64 (j : Int) ∧ 1 ≤ j ∧ j ≤ x.length + 1 ∧ x.length + 1 - j ≤ g1 ∧ Hid (j = i + 1) ∧ Hid ((hitsTo ps x i).length ≤ most.toNat) ∧ Hid (wr.ownsRow w.heap.size 49 3 vo (hitsTo ps x i).length (flatH (hitsTo ps x i))) ∧ Hid (Below w.heap.size w wr))
  case atStart => exact ⟨0, 1, rfl, by omega, by omega, by omega, rfl, Nat.zero_le _, h0, hb0⟩
  case round =>
    clear h0 hb0
    obtain ⟨i, j, rfl, hj1, hj2, hg1, HJ, HL, HO, HB⟩ := hrel
    by_cases hlt : j ≤ x.length
    · have hjz : (j : Int) ≤ (x.length : Int) := by omega
      have hil : i < x.length := by have := HJ.out; omega
      have h64 := hits_le hpl x i
      have H64 := Lib.hid h64
      have HIL := Lib.hid hil
      clear h64 hil
      go_wp2
      go_loopg [8, 10] ps.length (fun g2 vo vk wr => ∃ k : Nat, vk = .int .i64 (k : Int) ∧ k ≤ ps.length ∧ ps.length - k ≤ g2 ∧ Hid ((hitsK ps x i k).length ≤ most.toNat) ∧ Hid (wr.ownsRow w.heap.size 49 3 vo (hitsK ps x i k).length (flatH (hitsK ps x i k))) ∧ Hid (Below w.heap.size w wr))
      case atStart => exact ⟨0, rfl, Nat.zero_le _, Nat.le_refl _, by rw [hitsK_zero]; exact HL, by rw [hitsK_zero]; exact HO, HB⟩
      case round =>
        rename_i vo _ _ vo2 _ _ _
        clear HL HO HB
        obtain ⟨k, rfl, hk, hg2, HL, HO, HB⟩ := hrel
        by_cases hkl : k < ps.length
        · have hkz : (k : Int) < (ps.length : Int) := by omega
          obtain ⟨ad, Ak, ck, rfl, hrow, hck, hCk⟩ := ps_row (H.out.below HB.out) hkl
          have hks := hitsK_succ ps x i k
          have h32 : (ps.getD k []).length ≤ 32 := by rw [List.getD_eq_getElem?_getD, List.getElem?_eq_getElem hkl]; exact (HCZ.out.2.2 _ (List.getElem_mem hkl)).2
          obtain ⟨lo, hlo⟩ : ∃ lo, j - 32 = lo := ⟨_, rfl⟩
          have hwin := ends_window (p := ps.getD k []) (x := x) (i := j) h32 hlt
          have HXc := HX.out.below HB.out
          obtain ⟨At, hsl, hCt, hct, hyl⟩ := mid_tx (A := A1) (x := x) (c := c1) (lo := lo) (hi := j) (by omega) hlt hcap1
          rw [← HJ.out] at hks
          rw [hlo] at hwin
          obtain ⟨y, hy⟩ : ∃ y, (x.take j).drop lo = y := ⟨_, rfl⟩
          obtain ⟨pk, hpk⟩ : ∃ pk, ps.getD k [] = pk := ⟨_, rfl⟩
          rw [hy] at hwin hsl hCt hct hyl
          rw [hpk] at hrow hck hCk hks hwin
          have KE := fun q' => ends_ctr (w := wr.drewN q') (n := y.length) (m := pk.length) (x := y) (y := pk) (c := c1 - lo) (d := ck) rfl rfl (Kd.C_below (hCt wr HXc.reads) (below_drewN' (Below.refl _ _) q')) hct (Kd.C_below hCk (below_drewN' (Below.refl _ _) q')) hck
          have hsub : IntKind.i64.wrap ((j : Int) - 32) = (j : Int) - 32 := by rw [IntKind.wrap_i64]; omega
          have hmax : ∀ ats ty, Builtin.max_ ats ty #[.int .i64 0, .int .i64 ((j : Int) - 32)] = pure (.int .i64 (lo : Int)) := fun ats ty => by
            have hlo2 : (if (0 : Int) < (j : Int) - 32 then (j : Int) - 32 else 0) = (lo : Int) := by split <;> omega
            rw [max_two, max2_int, hlo2]; rfl
          have hw2 : IntKind.i64.wrap ((k : Int) + 1) = (k : Int) + 1 := by rw [IntKind.wrap_i64]; omega
          have HKS := Lib.hid hks
          have HKE := Lib.hid KE
          have HWIN := Lib.hid hwin
          have HB' := HB
          obtain ⟨Av, cv, hv⟩ := own_slice HO.out
          obtain ⟨hs, hhs⟩ : ∃ hs, hitsK ps x i k = hs := ⟨_, rfl⟩
          rw [hhs] at hv HO HL
          have HHS := Lib.hid hhs
          have hsl64 : hs.length ≤ 67108864 := by
            have h1 := hitsK_len hpl x i k hk
            have h2 := HIL.out
            rw [hhs] at h1
            omega
          clear hks KE hCt hct hyl hCk hy hpk hlo h32 hwin hhs HXc
          subst hv
          by_cases hE : pk <:+ x.take j
          · have hd : decide (pk <:+ y) = true := decide_eq_true (HWIN.out.2 hE)
            have hnext := HKS.out
            rw [if_pos hE, HHS.out] at hnext
            have HN := Lib.hid hnext
            have KE := HKE.out
            simp only [hd] at KE
            have HKE2 := Lib.hid KE
            clear KE HKE hd hnext hE HKS HWIN
            by_cases hm : most ≤ (hs.length : Int)
            · have hlen : hs.length = most.toNat := by have := HL.out; omega
              have e1 : allW ps x most = (hs, false) := by
                obtain ⟨m1, hm1⟩ : ∃ m, ps.length = (k + 1) + m := ⟨ps.length - (k + 1), by omega⟩
                obtain ⟨r1, hr1⟩ := hitsK_pre ps x i (k + 1) m1
                rw [← hm1, hitsK_all, HN.out] at hr1
                obtain ⟨m2, hm2⟩ : ∃ m, x.length = (i + 1) + m := ⟨x.length - (i + 1), by have := HIL.out; omega⟩
                obtain ⟨r2, hr2⟩ := hits_pre ps x (i + 1) m2
                rw [← hm2, hr1, List.append_assoc, List.append_assoc] at hr2
                unfold allW
                rw [hr2, decide_eq_false (by rw [List.length_append, List.length_append]; simp only [List.length_cons]; omega), ← hlen, List.take_left]
              have HE1 := Lib.hid e1
              clear hlen e1
              go_wp2_with fail
              go_quiet (refine Calls.quiet_of (HKE2.out _))
              go_wp2
              go_ret2
              exact ⟨below_drewN' HB.out nq, _, by rw [HE1.out]; rfl, by rw [HE1.out]; exact HO.out⟩
            · have hmn : ¬ (most ≤ (hs.length : Int)) := hm
              go_wp2_with fail
              go_quiet (refine Calls.quiet_of (HKE2.out _))
              have HW : Hid ((wr.drewN nq).ownsRow w.heap.size 49 3 (.slice Av hs.length cv) hs.length (flatH hs)) := HO.out
              have HBW := Lib.hid (below_drewN' HB.out nq)
              generalize wr.drewN nq = wq at HW HBW ⊢
              have HSL := Lib.hid hsl64
              have HWA : Hid ((wq.alloc (.cells (hitC (k : Int) (j : Int)).toArray 49)).ownsRow w.heap.size 49 3 (.slice Av hs.length cv) hs.length (flatH hs)) := own_move HW.out fun b hb => ((Below.refl wq.heap.size wq).alloc (Nat.le_refl _) _).block b (own_lt HW.out b hb)
              have HBA : Hid (Below w.heap.size w (wq.alloc (.cells (hitC (k : Int) (j : Int)).toArray 49))) := HBW.out.alloc HBW.out.size _
              have HL1 : Hid ((hs ++ [((k : Int), (j : Int))]).length = hs.length + 1) := List.length_append
              clear hsl64
              go_wp2_with (at_builtin; refine append_hit (.tmp 40) (.tmp 44) rfl rfl w.heap.size (.slice Av hs.length cv) hs (k : Int) (j : Int) wq.heap.size rfl rfl HWA.out (heap_alloc_new wq _) HSL.out HBA.out.size ?_; intro Av2 cv2 w1 hown1 hgrow; rw [HL1.out] at hown1; have HO1 := Lib.hid hown1; have HB1 := Lib.hid (hit_below HWA.out HBA.out hgrow); clear hown1 hgrow HWA HBA HW HBW)
              go_roundg (ps.length - (k + 1))
              case measure => omega
              case rel => exact ⟨k + 1, by go_num, by omega, Nat.le_refl _, by rw [Hid, HN.out, List.length_append]; show hs.length + 1 ≤ _; omega, by rw [Hid, HN.out, List.length_append]; exact HO1, HB1⟩
          · have hd : decide (pk <:+ y) = false := decide_eq_false (fun h => hE (HWIN.out.1 h))
            have hnext := HKS.out
            rw [if_neg hE, HHS.out] at hnext
            have HN := Lib.hid hnext
            have KE := HKE.out
            simp only [hd] at KE
            have HKE2 := Lib.hid KE
            clear KE HKE hd hnext hE HKS HWIN
            go_wp2_with fail
            go_quiet (refine Calls.quiet_of (HKE2.out _))
            go_wp2
            go_roundg (ps.length - (k + 1))
            case measure => omega
            case rel => exact ⟨k + 1, by go_num, by omega, Nat.le_refl _, by rw [HN.out]; exact HL, by rw [HN.out]; exact HO, below_drewN' HB.out nq⟩
        · obtain rfl : k = ps.length := by omega
          rw [hitsK_all] at HL HO
          have hw2 : IntKind.i64.wrap ((j : Int) + 1) = (j : Int) + 1 := by rw [IntKind.wrap_i64]; omega
          go_wp2
          go_roundg (x.length - j)
          case measure => omega
          case rel => exact ⟨i + 1, j + 1, by go_num, by omega, by omega, by omega, by rw [HJ.out]; exact rfl, HL, HO, HB⟩
    · have hjz : ¬ (j : Int) ≤ (x.length : Int) := by omega
      obtain rfl : i = x.length := by have := HJ.out; omega
      go_wp2
      go_ret2
      have e1 : allW ps x most = (hitsTo ps x x.length, true) := by
        unfold allW
        rw [decide_eq_true HL.out, List.take_of_length_le HL.out]
      exact ⟨HB.out, _, by rw [e1]; rfl, by rw [e1]; exact HO.out⟩
end Go.Proofs.Ytdciniefkodeaaa.PAll
