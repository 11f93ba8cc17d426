/- header.Whole answers what the reference's Of answers (ofR). -/
import Derived.Test.YtodidfdfbanliaaQStpHEnd
import Derived.Test.YtodidfdfbanliaaQStpHOfP
set_option linter.unusedVariables false
set_option linter.unusedSimpArgs false
namespace Go.Proofs.Ytodidfdfbanliaa.PAll
open Go.RowKit Go.Proofs.YtodidfdfbanliaaW.PrintWords Go.Proofs.YtodidfdfbanliaaW.PrintLast
/-- What Whole tells: the fields, how many bytes were used, why it is stopped, and the error. -/
def wholeR (l : List Int) (most : Int) : List S42 × Int × Int × Int :=
  if most < 1 ∨ 65536 < most then ([], 0, 0, 2) else ((ofR l most).1, (if (ofR l most).2.2 < (l.length : Int) then (ofR l most).2.2 + 1 else (l.length : Int)), (ofR l most).2.1, 0)
/-- What stands at the head of Whole's loop. -/
def WhInv (most : Nat) (l : List Int) (w : World) (base b : Nat) (i : Nat) (vl : Value) (L : List Int) (vf : Value) (fs : List S42) (wr : World) : Prop :=
  i ≤ l.length ∧ i ≤ most ∧ RdAt wr base b most i vl L vf fs false 0 ∧ Below base w wr ∧ L.length ≤ i ∧ ofGo most (l.drop i) L fs i = ofR l most ∧ Fits fs L.length i ∧ fs.length ≤ 64
/-- What stands behind it, after so many bytes. -/
def WhEnd (most : Nat) (l : List Int) (w : World) (base b : Nat) (used : Int) (wr : World) : Prop :=
  (∃ (i : Nat) (n : Int) (vl : Value) (L : List Int) (vf : Value) (fs : List S42) (why : Int), i < l.length ∧ used = (i : Int) + 1 ∧ why ≠ 0 ∧ RdAt wr base b most n vl L vf fs false why ∧ Below base w wr ∧ ofR l most = ([], why, (i : Int))) ∨
  (∃ (i : Nat) (n : Int) (vl : Value) (L : List Int) (vf : Value) (fs : List S42), i < l.length ∧ used = (i : Int) + 1 ∧ RdAt wr base b most n vl L vf fs true 0 ∧ fs.length ≤ 64 ∧ Below base w wr ∧ ofR l most = (fs, 0, (i : Int))) ∨
  (∃ (vl : Value) (L : List Int) (vf : Value) (fs : List S42), used = (l.length : Int) ∧ WhInv most l w base b l.length vl L vf fs wr)
section
variable {most : Nat} {l : List Int} {w wr : World} {base b i : Nat} {vl vf : Value} {L : List Int} {fs : List S42}
theorem WhInv.start (hR : RdAt wr base b most 0 vl [] vf [] false 0) (hB : Below base w wr) : WhInv most l w base b 0 vl [] vf [] wr :=
  ⟨Nat.zero_le _, Nat.zero_le _, hR, hB, Nat.le_refl _, rfl, fits_nil _ _, by simp⟩
theorem WhInv.full (h : WhInv most l w base b i vl L vf fs wr) (hi : i < l.length) (hm : i = most) : ofR l most = ([], 31, (i : Int)) := by
  obtain ⟨_, _, _, _, _, hgo, _, _⟩ := h
  rw [← hgo, drop_at l i hi, ofGo, if_pos (by omega)]
theorem WhInv.byte (h : WhInv most l w base b i vl L vf fs wr) (hi : i < l.length) (hm : i ≠ most) (hc : l[i] ≠ 10) {vl' : Value} {wx : World} (hR : RdAt wx base b most ((i : Int) + 1) vl' (L ++ [l[i]]) vf fs false 0) (hB : Below base wr wx) : WhInv most l w base b (i + 1) vl' (L ++ [l[i]]) vf fs wx := by
  obtain ⟨h1, h2, h3, h4, h5, hgo, hfit, h64⟩ := h
  refine ⟨hi, by omega, hR, h4.trans hB, by simp; omega, ?_, ?_, h64⟩
  · rw [← hgo, drop_at l i hi, ofGo, if_neg (by omega), if_pos hc]
  · rw [List.length_append]; exact fits_more hfit
theorem WhInv.done (h : WhInv most l w base b i vl L vf fs wr) (hi : i < l.length) (hm : i ≠ most) (hc : l[i] = 10) (hs : stripCR L = []) : ofR l most = (trimF fs, 0, (i : Int)) := by
  obtain ⟨h1, h2, h3, h4, h5, hgo, hfit, h64⟩ := h
  rw [← hgo, drop_at l i hi, ofGo, if_neg (by omega), if_neg (by simp [hc]), if_pos hs]
theorem WhInv.bad (h : WhInv most l w base b i vl L vf fs wr) (hi : i < l.length) (hm : i ≠ most) (hc : l[i] = 10) (hs : stripCR L ≠ []) (hy : (lineR fs (strOfNums (stripCR L))).2 ≠ 0) : ofR l most = ([], (lineR fs (strOfNums (stripCR L))).2, (i : Int)) := by
  obtain ⟨h1, h2, h3, h4, h5, hgo, hfit, h64⟩ := h
  rw [← hgo, drop_at l i hi, ofGo, if_neg (by omega), if_neg (by simp [hc]), if_neg hs, if_neg hy]
theorem strip_le (L : List Int) : (stripCR L).length ≤ L.length := by unfold stripCR; split <;> simp
theorem WhInv.next (h : WhInv most l w base b i vl L vf fs wr) (hi : i < l.length) (hm : i ≠ most) (hc : l[i] = 10) (hs : stripCR L ≠ []) (hy : (lineR fs (strOfNums (stripCR L))).2 = 0) {vl' vf' : Value} {wx : World} (hR : RdAt wx base b most ((i : Int) + 1) vl' [] vf' (lineR fs (strOfNums (stripCR L))).1 false (lineR fs (strOfNums (stripCR L))).2) (hB : Below base wr wx) :
    WhInv most l w base b (i + 1) vl' [] vf' (lineR fs (strOfNums (stripCR L))).1 wx := by
  obtain ⟨h1, h2, h3, h4, h5, hgo, hfit, h64⟩ := h
  rw [hy] at hR
  refine ⟨hi, by omega, hR, h4.trans hB, Nat.zero_le _, ?_, ?_, lineR_le _ _ h64⟩
  · rw [← hgo, drop_at l i hi, ofGo, if_neg (by omega), if_neg (by simp [hc]), if_neg hs, if_pos hy]
  · exact fits_next (fits_line hfit (by omega) (strOfNums (stripCR L)) (by rw [strOfNums_size]; exact strip_le L))
theorem WhInv.last_none (h : WhInv most l w base b l.length vl [] vf fs wr) : ofR l most = (trimF fs, 0, (l.length : Int)) := by
  obtain ⟨h1, h2, h3, h4, h5, hgo, hfit, h64⟩ := h
  rw [← hgo, List.drop_of_length_le (Nat.le_refl _), ofGo, if_pos rfl]
theorem WhInv.last_line (h : WhInv most l w base b l.length vl L vf fs wr) (hL : L ≠ []) : ofR l most = if (lineR fs (strOfNums L)).2 = 0 then (trimF (lineR fs (strOfNums L)).1, 0, (l.length : Int)) else ([], (lineR fs (strOfNums L)).2, (l.length : Int)) := by
  obtain ⟨h1, h2, h3, h4, h5, hgo, hfit, h64⟩ := h
  rw [← hgo, List.drop_of_length_le (Nat.le_refl _), ofGo, if_neg hL]
theorem WhInv.sizes (h : WhInv most l w base b i vl L vf fs wr) (hm : most ≤ 65536) : ∀ f ∈ fs, f.f1.size + L.length ≤ 9223372036854775807 := by
  obtain ⟨h1, h2, h3, h4, h5, hgo, hfit, h64⟩ := h
  intro f hf; have := hfit f hf; omega
theorem WhInv.all (h : WhInv most l w base b i vl L vf fs wr) (hm : most ≤ 65536) : ∀ f ∈ (lineR fs (strOfNums L)).1, f.f1.size ≤ 9223372036854775807 := by
  obtain ⟨h1, h2, h3, h4, h5, hgo, hfit, h64⟩ := h
  intro f hf
  have := fits_line hfit h5 (strOfNums L) (by rw [strOfNums_size]; exact Nat.le_refl _) f hf
  omega
end
theorem trimF_len (fs : List S42) : (trimF fs).length = fs.length := by simp [trimF]
theorem results_tmp4 {fn : Func} {t u v x : Tmp} (h : fn.results = #[.tmp t, .tmp u, .tmp v, .tmp x]) (tmps : Array Value) (P : Program) (w : World) :
    (results fn tmps).run P w = .ok (.tuple #[tmps.getD t undef, tmps.getD u undef, tmps.getD v undef, tmps.getD x undef]) w := by
  simp [results, h]
/-- Put, of a reader that is neither done nor stopped. -/
theorem put_nl (base b : Nat) (most n : Int) (vl : Value) (L : List Int) (vf : Value) (fs : List S42) (w : World) (hR : RdAt w base b most n vl L vf fs false 0) (hn : n ≠ most) (hn0 : 0 ≤ n) (hn1 : n < 65536) (hlen : L.length ≤ 65536) (h64 : fs.length ≤ 64) (hsz : ∀ f ∈ fs, f.f1.size + L.length ≤ 9223372036854775807) :
    if stripCR L = [] then Calls Try.prog 34 #[.pointer (some ⟨b, 0, none⟩), .int .u8 10] w fun e w' => e = .returned (.tuple #[.bool true, .int .i64 0]) ∧ (∃ vl', RdAt w' base b most (n + 1) vl' [] vf (trimF fs) true 0) ∧ Below base w w'
    else Calls Try.prog 34 #[.pointer (some ⟨b, 0, none⟩), .int .u8 10] w fun e w' => e = .returned (.tuple #[.bool false, .int .i64 (lineR fs (strOfNums (stripCR L))).2]) ∧ (∃ vl' vf', RdAt w' base b most (n + 1) vl' [] vf' (lineR fs (strOfNums (stripCR L))).1 false (lineR fs (strOfNums (stripCR L))).2) ∧ Below base w w' := by
  by_cases hL : L = []
  · rw [if_pos (by rw [hL]; rfl)]
    exact put_nl_a base b most n vl L vf fs w hR hn hn0 hn1 hlen h64 hsz hL
  · by_cases hs : stripCR L = L
    · rw [if_neg (by rw [hs]; exact hL)]
      exact put_nl_b base b most n vl L vf fs w hR hn hn0 hn1 hlen h64 hsz hL hs
    · by_cases h0 : stripCR L = []
      · rw [if_pos h0]
        exact put_nl_c1 base b most n vl L vf fs w hR hn hn0 hn1 hlen h64 hsz hL hs h0
      · rw [if_neg h0]
        exact put_nl_c2 base b most n vl L vf fs w hR hn hn0 hn1 hlen h64 hsz hL hs h0
set_option maxHeartbeats 4000000 in
set_option maxRecDepth 100000 in
theorem whole_walk (A0 : Option Addr) (c0 : Nat) (l : List Int) (most : Nat) (w : World) (hr0 : Kd.C (Kd.int .u8) w A0 l.length l) (h1 : 1 ≤ most) (h2 : most ≤ 65536) :
    Calls Try.prog 21 #[.slice A0 l.length c0, .int .i64 (most : Int)] w fun e w' => ∃ v : Value, e = .returned (.tuple #[v, .int .i64 (wholeR l most).2.1, .int .i64 (wholeR l most).2.2.1, .int .i64 0]) ∧ OwnF w' w.heap.size v (wholeR l most).1 ∧ Below w.heap.size w w' := by
  have HC := Lib.hid hr0
  have hmx := Kd.C_max hr0
  have HNEW := Lib.hid (new_ok most w h1 h2)
  clear hr0
  go_enter Try.func21, Try.ntmps21
  go_wp2_with (fail)
  refine HNEW.out.mono ?_
  rintro e w1 ⟨b, vl0, vf0, rfl, hR0, hB0⟩
  have HI0 : Hid (WhInv most l w w.heap.size b 0 vl0 [] vf0 [] w1) := Lib.hid (WhInv.start hR0 hB0)
  clear HNEW hR0 hB0
  go_upto_block 0 with (fail)
  go_cut [5] (fun v wc => ∃ used : Int, v = .int .i64 used ∧ Hid (WhEnd most l w w.heap.size b used wc))
  case first =>
    go_wp2
    go_loopw [5, 23] (fun v5 v23 wr => ∃ (i : Nat) (vl : Value) (L : List Int) (vf : Value) (fs : List S42), v5 = .int .i64 (i : Int) ∧ v23 = .int .i64 (i : Int) ∧ Hid (WhInv most l w w.heap.size b i vl L vf fs wr)) (fun _ v23 _ => l.length - (intOf v23).toNat)
    case atStart => exact ⟨0, _, _, _, _, rfl, rfl, HI0⟩
    case round =>
      obtain ⟨i, vl, L, vf, fs, rfl, rfl, HI⟩ := hrel
      have hB := HI.out.2.2.2.1
      have hil := HI.out.1
      by_cases hlt : i < l.length
      · obtain ⟨ad, rfl, hcell0⟩ := Kd.at_int HC.out (i : Int) (by omega) (by omega)
        have hcell := (hB.cell (World.block_lt_of_cell? w _ hcell0)).trans hcell0
        clear hcell0
        have hrd : rd l (i : Int) = l[i] := by simp [rd, List.getD_eq_getElem?_getD, hlt]
        rw [hrd, Int.toNat_natCast] at hcell
        have hti : (i : Int) < (l.length : Int) := by omega
        have hti0 : (0 : Int) ≤ (i : Int) := by omega
        clear hrd hB
        by_cases hm : i = most
        · subst hm
          have HE := Lib.hid (HI.out.full hlt rfl)
          have HP := Lib.hid (put_full w.heap.size b i vl L vf fs l[i] wr HI.out.2.2.1)
          have HBI := Lib.hid HI.out.2.2.2.1
          have HLT := Lib.hid hlt
          clear HI HI0
          generalize l[i] = x at *
          go_wp2_with (fail)
          refine HP.out.mono ?_
          rintro e w2 ⟨rfl, hR2, hB2⟩
          have HW : Hid (WhEnd i l w w.heap.size b ((i : Int) + 1) w2) := Lib.hid (.inl ⟨i, _, _, _, _, _, 31, HLT.out, rfl, by decide, hR2, HBI.out.trans hB2, HE.out⟩)
          clear hR2 hB2 HP HE
          go_wp2
          go_meet
          case rel => exact ⟨_, by go_num, HW⟩
        · by_cases hc : l[i] = 10
          · have hP := put_nl w.heap.size b most i vl L vf fs wr HI.out.2.2.1 (by omega) (by omega) (by have := HI.out.2.1; omega) (by have := HI.out.2.1; have := HI.out.2.2.2.2.1; omega) HI.out.2.2.2.2.2.2.2 (HI.out.sizes h2)
            rw [hc] at hcell
            by_cases hs : stripCR L = []
            · rw [if_pos hs] at hP
              have HP := Lib.hid hP
              have HE := Lib.hid (HI.out.done hlt hm hc hs)
              have HBI := Lib.hid HI.out.2.2.2.1
              have HLT := Lib.hid hlt
              have H64 := Lib.hid HI.out.2.2.2.2.2.2.2
              clear HI HI0 hP
              clear hc
              go_wp2_with (fail)
              refine HP.out.mono ?_
              rintro e w2 ⟨rfl, ⟨vl2, hR2⟩, hB2⟩
              have HW : Hid (WhEnd most l w w.heap.size b ((i : Int) + 1) w2) := Lib.hid (.inr (.inl ⟨i, _, _, _, _, _, HLT.out, rfl, hR2, by rw [trimF_len]; exact H64.out, HBI.out.trans hB2, HE.out⟩))
              clear hR2 hB2 HP HE
              go_wp2
              go_meet
              case rel => exact ⟨_, by go_num, HW⟩
            · rw [if_neg hs] at hP
              have HP := Lib.hid hP
              have HNX := Lib.hid (fun hy vl' vf' wx hR hB => HI.out.next (vl' := vl') (vf' := vf') (wx := wx) hlt hm hc hs hy hR hB)
              have HBD := Lib.hid (fun hy => HI.out.bad hlt hm hc hs hy)
              have HBI := Lib.hid HI.out.2.2.2.1
              have HLT := Lib.hid hlt
              clear HI HI0 hP hc
              go_wp2_with (fail)
              refine HP.out.mono ?_
              rintro e w2 ⟨rfl, ⟨vl2, vf2, hR2⟩, hB2⟩
              by_cases hy : (lineR fs (strOfNums (stripCR L))).2 = 0
              · have HN := Lib.hid (HNX.out hy vl2 vf2 w2 hR2 hB2)
                have HL := HLT.out
                rw [hy]
                clear hR2 hB2 HP hy HNX HBD
                go_wp2
                go_roundw
                case rel => exact ⟨i + 1, _, _, _, _, by go_num, by go_num, HN⟩
                case measure => simp [intOf]; omega
              · have HW : Hid (WhEnd most l w w.heap.size b ((i : Int) + 1) w2) := Lib.hid (.inl ⟨i, _, _, _, _, _, _, HLT.out, rfl, hy, hR2, HBI.out.trans hB2, HBD.out hy⟩)
                have tw : ((lineR fs (strOfNums (stripCR L))).2 != 0) = true := by rw [bne_iff_ne]; exact hy
                clear hR2 hB2 HP hy HNX HBD
                generalize (lineR fs (strOfNums (stripCR L))).2 = why at *
                go_wp2
                go_meet
                case rel => exact ⟨_, by go_num, HW⟩
          · have HP := Lib.hid (put_byte w.heap.size b most i vl L vf fs l[i] wr HI.out.2.2.1 (by omega) (by omega) (by have := HI.out.2.1; omega) hc (by have := HI.out.2.1; have := HI.out.2.2.2.2.1; omega))
            have HNX := Lib.hid (fun vl' wx hR hB => HI.out.byte (vl' := vl') (wx := wx) hlt hm hc hR hB)
            have HLT := Lib.hid hlt
            clear HI HI0 hc
            generalize l[i] = x at *
            go_wp2_with (fail)
            refine HP.out.mono ?_
            rintro e w2 ⟨rfl, vl2, hR2, hB2⟩
            have HN := Lib.hid (HNX.out vl2 w2 hR2 hB2)
            have HL := HLT.out
            clear hR2 hB2 HP HNX
            go_wp2
            go_roundw
            case rel => exact ⟨i + 1, _, _, _, _, by go_num, by go_num, HN⟩
            case measure => simp [intOf]; omega
      · have e : i = l.length := by omega
        subst e
        have HW : Hid (WhEnd most l w w.heap.size b (l.length : Int) wr) := Lib.hid (.inr (.inr ⟨_, _, _, _, rfl, HI.out⟩))
        clear HI HI0 hB
        go_wp2
        go_meet
        case rel => exact ⟨_, rfl, HW⟩
  case rest =>
    obtain ⟨used, rfl, HW⟩ := hcut
    have hne : ¬ ((most : Int) < 1 ∨ 65536 < (most : Int)) := by omega
    have hw := HW.out
    clear HI0 HW
    rcases hw with ⟨i, n, vl, L, vf, fs, why, hi, rfl, hwy, hR, hB, hE⟩ | ⟨i, n, vl, L, vf, fs, hi, rfl, hR, h64, hB, hE⟩ | ⟨vl, L, vf, fs, rfl, hI⟩
    · have HV : Hid (wholeR l most = ([], (i : Int) + 1, why, 0)) := Lib.hid (by unfold wholeR; rw [if_neg hne, hE]; simp only []; rw [if_pos (by omega)])
      have HEND := Lib.hid (end_why w.heap.size b most n vl L vf fs why hwy _ hR)
      have HB := Lib.hid hB
      clear hE hR hB
      go_wp2_with (fail)
      refine HEND.out.mono ?_
      rintro e w2 ⟨rfl, hR2, hB2⟩
      have HF := Lib.hid (fields_not w.heap.size b most n vl L vf fs why w2 hR2)
      have HB2 := Lib.hid (HB.out.trans hB2)
      have hs2 : w.heap.size ≤ w2.heap.size := Nat.le_of_lt (Nat.lt_of_le_of_lt hR2.1 hR2.lt)
      clear hR2 hB2
      go_wp2_with (fail)
      refine HF.out.mono ?_
      rintro e w3 ⟨rfl, hB3⟩
      have HB3 := Lib.hid (HB2.out.trans (hB3.mono hs2))
      clear hB3 HF
      go_wp2
      refine bodyPost_ret (results_tmp4 rfl _ _ _) rfl ?_
      rw [HV.out]
      exact ⟨_, rfl, OwnF.nil _ _, HB3.out⟩
    · have HV : Hid (wholeR l most = (fs, (i : Int) + 1, 0, 0)) := Lib.hid (by unfold wholeR; rw [if_neg hne, hE]; simp only []; rw [if_pos (by omega)])
      have HEND := Lib.hid (end_done w.heap.size b most n vl L vf fs 0 _ hR)
      have HB := Lib.hid hB
      clear hE hR hB
      go_wp2_with (fail)
      refine HEND.out.mono ?_
      rintro e w2 ⟨rfl, hR2, hB2⟩
      have HF := Lib.hid (fields_done w.heap.size b most _ _ _ _ _ 0 h64 w2 hR2)
      have HB2 := Lib.hid (HB.out.trans hB2)
      have hs2 : w.heap.size ≤ w2.heap.size := Nat.le_of_lt (Nat.lt_of_le_of_lt hR2.1 hR2.lt)
      clear hR2 hB2
      go_wp2_with (fail)
      refine HF.out.mono ?_
      rintro e w3 ⟨v3, rfl, hO3, hB3⟩
      have HO3 := Lib.hid (hO3.lower hs2)
      have HB3 := Lib.hid (HB2.out.trans (hB3.mono hs2))
      obtain ⟨A3, c3, hv3⟩ := hO3.form
      subst hv3
      clear hO3 hB3 HF
      go_wp2
      refine bodyPost_ret (results_tmp4 rfl _ _ _) rfl ?_
      rw [HV.out]
      exact ⟨_, rfl, HO3.out, HB3.out⟩
    · by_cases hL : L = []
      · subst hL
        have HV : Hid (wholeR l most = (trimF fs, (l.length : Int), 0, 0)) := Lib.hid (by unfold wholeR; rw [if_neg hne, hI.last_none]; simp only []; rw [if_neg (by omega)])
        have HEND := Lib.hid (end_none w.heap.size b most _ vl vf fs _ hI.2.2.1 (fun f hf => by have := hI.sizes h2 f hf; omega))
        have HB := Lib.hid hI.2.2.2.1
        have h64 : (trimF fs).length ≤ 64 := by rw [trimF_len]; exact hI.2.2.2.2.2.2.2
        clear hI
        go_wp2_with (fail)
        refine HEND.out.mono ?_
        rintro e w2 ⟨rfl, hR2, hB2⟩
        have HF := Lib.hid (fields_done w.heap.size b most _ _ _ _ _ 0 h64 w2 hR2)
        have HB2 := Lib.hid (HB.out.trans hB2)
        have hs2 : w.heap.size ≤ w2.heap.size := Nat.le_of_lt (Nat.lt_of_le_of_lt hR2.1 hR2.lt)
        clear hR2 hB2
        go_wp2_with (fail)
        refine HF.out.mono ?_
        rintro e w3 ⟨v3, rfl, hO3, hB3⟩
        have HO3 := Lib.hid (hO3.lower hs2)
        have HB3 := Lib.hid (HB2.out.trans (hB3.mono hs2))
        obtain ⟨A3, c3, hv3⟩ := hO3.form
        subst hv3
        clear hO3 hB3 HF
        go_wp2
        refine bodyPost_ret (results_tmp4 rfl _ _ _) rfl ?_
        rw [HV.out]
        exact ⟨_, rfl, HO3.out, HB3.out⟩
      · have hq := hI.last_line hL
        have HEND := Lib.hid (end_line w.heap.size b most _ vl L vf fs _ hL (by have := hI.2.1; have := hI.2.2.2.2.1; omega) hI.2.2.1 hI.2.2.2.2.2.2.2 (hI.sizes h2) (hI.all h2))
        have HB := Lib.hid hI.2.2.2.1
        have h64 := lineR_le fs (strOfNums L) hI.2.2.2.2.2.2.2
        clear hI hL
        generalize lineR fs (strOfNums L) = q at *
        obtain ⟨fs', why⟩ := q
        simp only at hq HEND h64
        by_cases hy : why = 0
        · subst hy
          rw [if_pos rfl] at hq
          have HV : Hid (wholeR l most = (trimF fs', (l.length : Int), 0, 0)) := Lib.hid (by unfold wholeR; rw [if_neg hne, hq]; simp only []; rw [if_neg (by omega)])
          have h64' : (trimF fs').length ≤ 64 := by rw [trimF_len]; exact h64
          clear hq
          go_wp2_with (fail)
          refine HEND.out.mono ?_
          rintro e w2 ⟨rfl, ⟨vl2, vf2, hR2⟩, hB2⟩
          have hR3 : RdAt w2 w.heap.size b most _ vl2 [] vf2 (trimF fs') true 0 := hR2
          have HF := Lib.hid (fields_done w.heap.size b most _ vl2 [] vf2 (trimF fs') 0 h64' w2 hR3)
          have HB2 := Lib.hid (HB.out.trans hB2)
          have hs2 : w.heap.size ≤ w2.heap.size := Nat.le_of_lt (Nat.lt_of_le_of_lt hR3.1 hR3.lt)
          clear hR2 hR3 hB2
          go_wp2_with (fail)
          refine HF.out.mono ?_
          rintro e w3 ⟨v3, rfl, hO3, hB3⟩
          have HO3 := Lib.hid (hO3.lower hs2)
          have HB3 := Lib.hid (HB2.out.trans (hB3.mono hs2))
          obtain ⟨A3, c3, hv3⟩ := hO3.form
          subst hv3
          clear hO3 hB3 HF
          go_wp2
          refine bodyPost_ret (results_tmp4 rfl _ _ _) rfl ?_
          rw [HV.out]
          exact ⟨_, rfl, HO3.out, HB3.out⟩
        · rw [if_neg hy] at hq
          have HV : Hid (wholeR l most = ([], (l.length : Int), why, 0)) := Lib.hid (by unfold wholeR; rw [if_neg hne, hq]; simp only []; rw [if_neg (by omega)])
          clear hq
          go_wp2_with (fail)
          refine HEND.out.mono ?_
          rintro e w2 ⟨rfl, ⟨vl2, vf2, hR2⟩, hB2⟩
          rw [if_neg hy, decide_eq_false hy] at hR2
          have HF := Lib.hid (fields_not w.heap.size b most _ vl2 [] vf2 fs' why w2 hR2)
          have HB2 := Lib.hid (HB.out.trans hB2)
          have hs2 : w.heap.size ≤ w2.heap.size := Nat.le_of_lt (Nat.lt_of_le_of_lt hR2.1 hR2.lt)
          clear hR2 hB2
          go_wp2_with (fail)
          refine HF.out.mono ?_
          rintro e w3 ⟨rfl, hB3⟩
          have HB3 := Lib.hid (HB2.out.trans (hB3.mono hs2))
          clear hB3 HF
          go_wp2
          refine bodyPost_ret (results_tmp4 rfl _ _ _) rfl ?_
          rw [HV.out]
          exact ⟨_, rfl, OwnF.nil _ _, HB3.out⟩
set_option maxHeartbeats 1000000 in
set_option maxRecDepth 100000 in
theorem whole_bad (A0 : Option Addr) (c0 : Nat) (l : List Int) (most : Int) (w : World) (h : most < 1 ∨ 65536 < most) :
    Calls Try.prog 21 #[.slice A0 l.length c0, .int .i64 most] w fun e w' => e = .returned (.tuple #[.slice none 0 0, .int .i64 0, .int .i64 0, .int .i64 2]) ∧ Below w.heap.size w w' := by
  have HC := Lib.hid (new_bad most w h)
  clear h
  go_enter Try.func21, Try.ntmps21
  go_wp2_with (fail)
  refine HC.out.mono ?_
  rintro e w1 ⟨rfl, hB⟩
  have HB := Lib.hid hB
  clear hB HC
  go_wp2
  refine bodyPost_ret (results_tmp4 rfl _ _ _) rfl ?_
  exact ⟨rfl, HB.out⟩
def header_Whole.f (l0 : List Int) (a1 : Int) : Option ((List (S42)) × Int × Int × Int) := some (wholeR l0 a1)
theorem header_Whole.calls (A0 : Option Addr) (c0 : Nat) (l0 : List Int) (a1 : Int) (r1 : List (S42)) (r2 : Int) (r3 : Int) (r4 : Int) (w : World) (hr0 : Kd.C (Kd.int .u8) w A0 l0.length l0) (hc0 : l0.length ≤ c0) (h : header_Whole.f l0 a1 = some (r1, r2, r3, r4)) :
    Calls Try.prog 21 #[.slice A0 l0.length c0, .int .i64 a1] w fun e w' => ∃ v0_ : Value, e = .returned (.tuple #[v0_, .int .i64 r2, .int .i64 r3, .int .i64 r4]) ∧ Kd.R k42 42 w' w.heap.size (fun _ => True) v0_ r1 ∧ Below w.heap.size w w' := by
  have h2 : wholeR l0 a1 = (r1, r2, r3, r4) := Option.some.inj h
  by_cases hm : a1 < 1 ∨ 65536 < a1
  · unfold wholeR at h2
    rw [if_pos hm] at h2
    simp only [Prod.mk.injEq] at h2
    obtain ⟨rfl, rfl, rfl, rfl⟩ := h2
    refine (whole_bad A0 c0 l0 a1 w hm).mono ?_
    rintro e w' ⟨rfl, hb⟩
    exact ⟨_, rfl, (OwnF.nil _ _).toR _ (fun _ _ => trivial), hb⟩
  · obtain ⟨m, rfl⟩ := Int.eq_ofNat_of_zero_le (show 0 ≤ a1 by omega)
    refine (whole_walk A0 c0 l0 m w hr0 (by omega) (by omega)).mono ?_
    rintro e w' ⟨v, rfl, ho, hb⟩
    have h4 : r4 = 0 := by
      unfold wholeR at h2
      rw [if_neg hm] at h2
      simp only [Prod.mk.injEq] at h2
      exact h2.2.2.2.symm
    subst h4
    rw [h2] at ho ⊢
    exact ⟨v, rfl, ho.toR _ (fun _ _ => trivial), hb⟩
end Go.Proofs.Ytodidfdfbanliaa.PAll
