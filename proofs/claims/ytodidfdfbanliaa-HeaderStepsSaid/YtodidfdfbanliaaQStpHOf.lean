/- The reference's Of answers what bytes say (ofR), and turns nothing that was there. -/
import Derived.Lib.Hide
import Derived.Outline
import Derived.Test.YtodidfdfbanliaaQStpHOfP
set_option linter.unusedVariables false
namespace Go.Proofs.Ytodidfdfbanliaa.PAll
open Go.RowKit Go.Proofs.YtodidfdfbanliaaW.PrintWords Go.Proofs.YtodidfdfbanliaaW.PrintLast
/-- What stands at the head of the loop. -/
def OfInv (most : Int) (l : List Int) (w : World) (i frm : Nat) (v : Value) (fs : List S42) (wr : World) : Prop :=
  frm ≤ i ∧ i ≤ l.length ∧ RunAt wr w.heap.size (w.heap.size + 1) v fs 0 (l.length : Int) ∧ Below w.heap.size w wr ∧
  wr.heap[w.heap.size]? = some (.cells #[.slice none 0 0, .int .i64 0, .int .i64 0] 30 (0, 0)) ∧
  ofGo most (l.drop i) (seg l frm i) fs i = ofR l most ∧ Fits fs (i - frm) i ∧ fs.length ≤ 64
theorem heap_two (w : World) (o p : Obj) : ((w.alloc o).alloc p).heap[w.heap.size]? = some o ∧ ((w.alloc o).alloc p).heap[w.heap.size + 1]? = some p := by
  constructor
  · rw [Below.heap_alloc _ _ _ (by simp)]; exact heap_alloc_new w o
  · have := heap_alloc_new (w.alloc o) p
    simpa using this
theorem ofInv_start (most : Int) (l : List Int) (w : World) : OfInv most l w 0 0 (.slice none 0 0) [] ((w.alloc (.cells #[.slice none 0 0, .int .i64 0, .int .i64 0] 30)).alloc (.cells #[.slice none 0 0, .int .i64 0, .int .i64 l.length] 30)) := by
  have h := heap_two w (.cells #[.slice none 0 0, .int .i64 0, .int .i64 0] 30) (.cells #[.slice none 0 0, .int .i64 0, .int .i64 l.length] 30)
  refine ⟨Nat.le_refl _, Nat.zero_le _, ⟨by omega, h.2, OwnF.nil _ _⟩, ((Below.refl _ w).alloc (Nat.le_refl _) _).alloc (by simp) _, h.1, ?_, fits_nil _ _, by simp⟩
  simp [ofR, seg]
theorem store3 {w : World} {B : Nat} {a b c : Value} (h : w.heap[B]? = some (.cells #[a, b, c] 30 (0, 0))) (x y z : Value) : (((w.setCell ⟨B, 0, none⟩ x).setCell ⟨B, 1, none⟩ y).setCell ⟨B, 2, none⟩ z).heap[B]? = some (.cells #[x, y, z] 30 (0, 0)) := by
  simp [World.setCell, Array.getElem?_modify, h]
theorem far_set {w : World} {B b : Nat} (hne : B ≠ b) (j : Nat) (u : Value) : (w.setCell ⟨b, j, none⟩ u).heap[B]? = w.heap[B]? := Below.heap_setCell _ _ _ _ hne
theorem addr_succ (a : Addr) (j : Nat) : a.add (j + 1) = ⟨a.block, a.off + (j + 1), none⟩ := by simp [Addr.add]
theorem RunAt.setAt {w : World} {base b : Nat} {v : Value} {fs : List S42} {why at_ : Int} (h : RunAt w base b v fs why at_) (x : Int) : RunAt (w.setCell ⟨b, 2, none⟩ (.int .i64 x)) base b v fs why x := by
  refine ⟨h.1, ?_, h.2.2.setOther h.ne 2 _⟩
  simp [World.setCell, Array.getElem?_modify, h.2.1]
theorem OwnF.store3 {w : World} {base B : Nat} {v : Value} {fs : List S42} (h : OwnF w base v fs) (hne : v.ownBlock ≠ some B) (x y z : Value) : OwnF (((w.setCell ⟨B, 0, none⟩ x).setCell ⟨B, 1, none⟩ y).setCell ⟨B, 2, none⟩ z) base v fs :=
  ((h.setOther hne 0 x).setOther hne 1 y).setOther hne 2 z
theorem below_store3 {w wr : World} {B : Nat} (h : Below B w wr) (x y z : Value) : Below B w (((wr.setCell ⟨B, 0, none⟩ x).setCell ⟨B, 1, none⟩ y).setCell ⟨B, 2, none⟩ z) :=
  ((h.setCell (p := ⟨B, 0, none⟩) (Nat.le_refl _) x).setCell (p := ⟨B, 1, none⟩) (Nat.le_refl _) y).setCell (p := ⟨B, 2, none⟩) (Nat.le_refl _) z
section
variable {most : Int} {l : List Int} {w wr : World} {i frm : Nat} {v : Value} {fs : List S42}
theorem OfInv.stopped (h : OfInv most l w i frm v fs wr) (hi : i < l.length) (hm : most ≤ (i : Int)) : ofR l most = ([], 31, (i : Int)) := by
  obtain ⟨_, _, _, _, _, hgo, _, _⟩ := h
  rw [← hgo, drop_at l i hi, ofGo, if_pos hm]
theorem OfInv.more (h : OfInv most l w i frm v fs wr) (hi : i < l.length) (hm : ¬ most ≤ (i : Int)) (hc : l[i] ≠ 10) (hb : Below wr.heap.size wr wr) : OfInv most l w (i + 1) frm v fs wr := by
  obtain ⟨h1, h2, h3, h4, h5, hgo, hfit, h64⟩ := h
  refine ⟨by omega, hi, h3, h4, h5, ?_, ?_, h64⟩
  · rw [← hgo, drop_at l i hi, ofGo, if_neg hm, if_pos hc, seg_succ l frm i hi h1]
  · rw [show i + 1 - frm = (i - frm) + 1 from by omega]; exact fits_more hfit
theorem OfInv.done (h : OfInv most l w i frm v fs wr) (hi : i < l.length) (hm : ¬ most ≤ (i : Int)) (hc : l[i] = 10) (hs : stripCR (seg l frm i) = []) : ofR l most = (trimF fs, 0, (i : Int)) := by
  obtain ⟨h1, h2, h3, h4, h5, hgo, hfit, h64⟩ := h
  rw [← hgo, drop_at l i hi, ofGo, if_neg hm, if_neg (by simp [hc]), if_pos hs]
theorem OfInv.bad (h : OfInv most l w i frm v fs wr) (hi : i < l.length) (hm : ¬ most ≤ (i : Int)) (hc : l[i] = 10) (hs : stripCR (seg l frm i) ≠ []) (hy : (lineR fs (strOfNums (stripCR (seg l frm i)))).2 ≠ 0) : ofR l most = ([], (lineR fs (strOfNums (stripCR (seg l frm i)))).2, (i : Int)) := by
  obtain ⟨h1, h2, h3, h4, h5, hgo, hfit, h64⟩ := h
  rw [← hgo, drop_at l i hi, ofGo, if_neg hm, if_neg (by simp [hc]), if_neg hs, if_neg hy]
theorem OfInv.next (h : OfInv most l w i frm v fs wr) (hi : i < l.length) (hm : ¬ most ≤ (i : Int)) (hc : l[i] = 10) (hs : stripCR (seg l frm i) ≠ []) (hy : (lineR fs (strOfNums (stripCR (seg l frm i)))).2 = 0) {v' : Value} {wx : World} (hR : RunAt wx w.heap.size (w.heap.size + 1) v' (lineR fs (strOfNums (stripCR (seg l frm i)))).1 (lineR fs (strOfNums (stripCR (seg l frm i)))).2 (l.length : Int)) (hK : LineKept w.heap.size (w.heap.size + 1) wr wx) :
    OfInv most l w (i + 1) (i + 1) v' (lineR fs (strOfNums (stripCR (seg l frm i)))).1 wx := by
  obtain ⟨h1, h2, h3, h4, h5, hgo, hfit, h64⟩ := h
  have hlen : (stripCR (seg l frm i)).length ≤ i - frm := by
    have := seg_len l frm i h2
    unfold stripCR; split <;> simp <;> omega
  rw [hy] at hR
  refine ⟨Nat.le_refl _, hi, hR, h4.trans hK.1, hK.2 _ _ h5 (by simp) (fun c fz e => by injection e with _ e2; exact absurd e2 (by decide)), ?_, ?_, lineR_le _ _ h64⟩
  · rw [← hgo, drop_at l i hi, ofGo, if_neg hm, if_neg (by simp [hc]), if_neg hs, if_pos hy, seg_self]
  · have := fits_next (fits_line hfit (by omega) (strOfNums (stripCR (seg l frm i))) (by rw [strOfNums_size]; exact hlen))
    rw [Nat.sub_self]; exact this
theorem OfInv.last_done (h : OfInv most l w i frm v fs wr) (hi : i = l.length) (hf : frm = i) : ofR l most = (trimF fs, 0, (l.length : Int)) := by
  obtain ⟨h1, h2, h3, h4, h5, hgo, hfit, h64⟩ := h
  subst hi hf
  rw [← hgo, List.drop_of_length_le (Nat.le_refl _), ofGo, if_pos (seg_self l _)]
theorem OfInv.last_line (h : OfInv most l w i frm v fs wr) (hi : i = l.length) (hf : frm < i) : l.drop frm ≠ [] ∧ ofR l most = if (lineR fs (strOfNums (l.drop frm))).2 = 0 then (trimF (lineR fs (strOfNums (l.drop frm))).1, 0, (l.length : Int)) else ([], (lineR fs (strOfNums (l.drop frm))).2, (l.length : Int)) := by
  obtain ⟨h1, h2, h3, h4, h5, hgo, hfit, h64⟩ := h
  subst hi
  have e : seg l frm l.length = l.drop frm := by unfold seg; rw [List.take_of_length_le (Nat.le_refl _)]
  have hne : l.drop frm ≠ [] := fun e2 => by have := congrArg List.length e2; simp at this; omega
  refine ⟨hne, ?_⟩
  rw [← hgo, List.drop_of_length_le (Nat.le_refl _), ofGo, e, if_neg hne]
theorem OfInv.fits (h : OfInv most l w i frm v fs wr) (hl : l.length ≤ 9223372036854775807) : ∀ f ∈ fs, f.f1.size + (i - frm) ≤ 9223372036854775807 := by
  obtain ⟨h1, h2, h3, h4, h5, hgo, hfit, h64⟩ := h
  intro f hf; have := hfit f hf; omega
theorem OfInv.lastAll (h : OfInv most l w i frm v fs wr) (hl : l.length ≤ 9223372036854775807) (s : ByteArray) (hs : s.size ≤ i - frm) : ∀ f ∈ (lineR fs s).1, f.f1.size ≤ 9223372036854775807 := by
  obtain ⟨h1, h2, h3, h4, h5, hgo, hfit, h64⟩ := h
  intro f hf
  have := fits_line hfit (by omega) s hs f hf
  omega
theorem OfInv.lastFits (h : OfInv most l w i frm v fs wr) (hl : l.length ≤ 9223372036854775807) (s : ByteArray) (hs : s.size ≤ i - frm) : fs ≠ [] → (fs.getD (fs.length - 1) zS).f1.size + s.size ≤ 9223372036854775807 := by
  intro hne
  have hlen : fs.length - 1 < fs.length := by have : fs.length ≠ 0 := fun e => hne (List.eq_nil_of_length_eq_zero e); omega
  have := h.fits hl (fs.getD (fs.length - 1) zS) (by rw [List.getD_eq_getElem?_getD, List.getElem?_eq_getElem hlen]; exact List.getElem_mem _)
  omega
end
set_option maxHeartbeats 4000000 in
set_option maxRecDepth 100000 in
theorem of_walk (A0 : Option Addr) (c0 : Nat) (l : List Int) (most : Int) (w : World) (hr0 : Kd.C (Kd.int .u8) w A0 l.length l) (hc0 : l.length ≤ c0) :
    Calls Try.prog 23 #[.slice A0 l.length c0, .int .i64 most] w fun e w' => ∃ v : Value, e = .returned (.agg #[v, .int .i64 (ofR l most).2.1, .int .i64 (ofR l most).2.2]) ∧ OwnF w' w.heap.size v (ofR l most).1 ∧ Below w.heap.size w w' := by
  have HC := Lib.hid hr0
  have hmx := Kd.C_max hr0
  clear hr0
  go_enter Try.func23, Try.ntmps23
  go_wp2
  go_loopw [6, 7] (fun v6 v7 wr => ∃ (i frm : Nat) (v : Value) (fs : List S42), v7 = .int .i64 i ∧ v6 = .int .i64 frm ∧ Hid (OfInv most l w i frm v fs wr)) (fun _ v7 _ => l.length - (intOf v7).toNat)
  case atStart => exact ⟨0, 0, _, _, rfl, rfl, ofInv_start most l w⟩
  case round =>
    obtain ⟨i, frm, v, fs, rfl, rfl, HI⟩ := hrel
    obtain ⟨hfi, hil, hR, hbw, hB, hgo, hfit, h64⟩ := HI.out
    have c0' := hR.cell0
    have c1 := hR.cell1
    have c2 := hR.cell2
    have f1 := hR.frozen 1
    have f2 := hR.frozen 2
    have b0 : wr.cell? ⟨w.heap.size, 0, none⟩ = some (.slice none 0 0) := by simp [World.cell?, hB]
    have b1 : wr.cell? ⟨w.heap.size, 1, none⟩ = some (.int .i64 0) := by simp [World.cell?, hB]
    have b2 : wr.cell? ⟨w.heap.size, 2, none⟩ = some (.int .i64 0) := by simp [World.cell?, hB]
    have g0 : wr.frozen? ⟨w.heap.size, 0, none⟩ = false := by simp [World.frozen?, hB]
    have g1 : wr.frozen? ⟨w.heap.size, 1, none⟩ = false := by simp [World.frozen?, hB]
    have g2 : wr.frozen? ⟨w.heap.size, 2, none⟩ = false := by simp [World.frozen?, hB]
    have HR := Lib.hid hR
    have HB := Lib.hid hB
    clear hgo hfit hR hB
    by_cases hlt : i < l.length
    · by_cases hm : most ≤ (i : Int)
      · have HE := Lib.hid (HI.out.stopped hlt hm)
        go_wp2
        have hx := hbw.setCell (p := ⟨w.heap.size + 1, 1, none⟩) (by simp) (.int .i64 31) |>.setCell (p := ⟨w.heap.size + 1, 2, none⟩) (by simp) (.int .i64 (i : Int))
        have hy : ((wr.setCell ⟨w.heap.size + 1, 1, none⟩ (.int .i64 31)).setCell ⟨w.heap.size + 1, 2, none⟩ (.int .i64 (i : Int))).heap[w.heap.size]? = _ := (far_set (by simp) _ _).trans ((far_set (by simp) _ _).trans HB.out)
        refine bodyPost_ret (results_cell_row rfl _ _ w.heap.size 30 #[.slice none 0 0, .int .i64 31, .int .i64 (i : Int)] (0, 0) _ rfl (store3 hy _ _ _) Try.underlying30 rfl (by kernel_rfl)) rfl ?_
        rw [HE.out]
        exact ⟨_, rfl, OwnF.nil _ _, below_store3 hx _ _ _⟩
      · obtain ⟨ad, rfl, hcell0⟩ := Kd.at_int HC.out (i : Int) (by omega) (by omega)
        have hcell := (hbw.cell (World.block_lt_of_cell? w _ hcell0)).trans hcell0
        clear hcell0
        have hrd : rd l (i : Int) = l[i] := by simp [rd, List.getD_eq_getElem?_getD, hlt]
        rw [hrd, Int.toNat_natCast] at hcell
        clear hrd
        by_cases hc : l[i] = 10
        · have t10 : ((l[i] : Int) != 10) = false := by rw [bne_eq_false_iff_eq]; exact hc
          by_cases hfl : frm < i
          · obtain ⟨j, rfl⟩ : ∃ j, i = j + 1 := ⟨i - 1, by omega⟩
            rw [addr_succ] at hcell
            obtain ⟨ad2, ha2, hd0⟩ := Kd.at_int HC.out (j : Int) (by omega) (by omega)
            injection ha2 with ha2
            subst ha2
            have hd := (hbw.cell (World.block_lt_of_cell? w _ hd0)).trans hd0
            clear hd0
            have hrd : rd l (j : Int) = l[j] := by simp [rd, List.getD_eq_getElem?_getD, show j < l.length by omega]
            rw [hrd, Int.toNat_natCast] at hd
            clear hrd
            by_cases h13 : l[j] = 13
            · have t13 : ((l[j] : Int) == 13) = true := beq_iff_eq.2 h13
              have HS : Hid (stripCR (seg l frm (j + 1)) = seg l frm j) := Lib.hid (seg_strip l frm (j + 1) hil (by omega) h13)
              clear h13
              by_cases hjf : j = frm
              · have HE := Lib.hid (HI.out.done hlt hm hc (by rw [HS.out]; exact (seg_nil l frm j (by omega) (by omega)).2 hjf))
                have te : ((j : Int) == (frm : Int)) = true := beq_iff_eq.2 (by omega)
                clear hjf hc
                generalize l[j] = y at *
                generalize l[j + 1] = x at *
                have h1 := HR.out.setAt ((j : Int) + 1 : Int)
                have hx := hbw.setCell (p := ⟨w.heap.size + 1, 2, none⟩) (by simp) (.int .i64 ((j : Int) + 1 : Int))
                have hy : (wr.setCell ⟨w.heap.size + 1, 2, none⟩ (.int .i64 ((j : Int) + 1 : Int))).heap[w.heap.size]? = _ := (far_set (by simp) _ _).trans HB.out
                have HOV := Lib.hid (over_calls _ w v fs 0 ((j : Int) + 1 : Int) hx h1.2.2 (by omega) (fun f hf => by have := HI.out.fits hmx f hf; omega))
                have HY := Lib.hid hy
                have HO1 := Lib.hid h1.2.2
                clear hx hy h1
                go_wp2_with (fail)
                refine HOV.out.mono ?_
                rintro e w2 ⟨v', rfl, ho2, hb2, hk2⟩
                have hB2 := (hk2.2 w.heap.size (Array.getElem?_eq_some_iff.1 HY.out).1 (HO1.out.ne HY.out (fun cs fr e => by injection e with _ e2; exact absurd e2 (by decide)))).trans HY.out
                obtain ⟨A2, c2', hv2⟩ := ho2.form
                subst hv2
                have k0 : w2.cell? ⟨w.heap.size, 0, none⟩ = some (.slice none 0 0) := by simp [World.cell?, hB2]
                have k1 : w2.cell? ⟨w.heap.size, 1, none⟩ = some (.int .i64 0) := by simp [World.cell?, hB2]
                have k2 : w2.cell? ⟨w.heap.size, 2, none⟩ = some (.int .i64 0) := by simp [World.cell?, hB2]
                have l0 : w2.frozen? ⟨w.heap.size, 0, none⟩ = false := by simp [World.frozen?, hB2]
                have l1 : w2.frozen? ⟨w.heap.size, 1, none⟩ = false := by simp [World.frozen?, hB2]
                have l2 : w2.frozen? ⟨w.heap.size, 2, none⟩ = false := by simp [World.frozen?, hB2]
                have HH := Lib.hid hB2
                have hne2 := ho2.ne hB2 (fun cs fr e => by injection e with _ e2; exact absurd e2 (by decide))
                have HO2 := Lib.hid ho2
                have HNE2 := Lib.hid hne2
                clear hB2 hk2 ho2 hne2
                go_wp2
                refine bodyPost_ret (results_cell_row rfl _ _ w.heap.size 30 #[.slice A2 (trimF fs).length c2', .int .i64 0, .int .i64 ((j : Int) + 1 : Int)] (0, 0) _ rfl (store3 HH.out _ _ _) Try.underlying30 rfl (by kernel_rfl)) rfl ?_
                rw [HE.out]
                exact ⟨_, rfl, HO2.out.store3 HNE2.out _ _ _, below_store3 hb2 _ _ _⟩
              · have te : ((j : Int) == (frm : Int)) = false := beq_eq_false_iff_ne.2 (by omega)
                obtain ⟨A1, n1, hsl, hcv0⟩ := cut_text HC.out hc0 frm (j) (by omega) (by omega)
                have hcv := hcv0 wr hbw
                have hslen : (seg l frm (j)).length = j - frm := seg_len l frm (j) (by omega)
                have hsne : seg l frm (j) ≠ [] := fun e => by rw [e] at hslen; simp at hslen; omega
                have HL := Lib.hid (line_calls (strOfNums (seg l frm (j))) w.heap.size (w.heap.size + 1) v fs (l.length : Int) wr (by rw [strOfNums_size]; omega) (by rw [strOfNums_size]; omega) HR.out h64 (HI.out.lastFits hmx _ (by rw [strOfNums_size]; omega)))
                have HNX := Lib.hid (fun hy v' wx hR hK => HI.out.next (v' := v') (wx := wx) hlt hm hc (by rw [HS.out]; exact hsne) hy hR hK)
                have HBD := Lib.hid (fun hy => HI.out.bad hlt hm hc (by rw [HS.out]; exact hsne) hy)
                rw [HS.out] at HNX HBD
                rw [show (l.take (j)).drop frm = seg l frm (j) from rfl] at hcv
                clear hcv0 hslen hsne
                generalize strOfNums (seg l frm (j)) = txt at *
                go_wp2_with (fail)
                refine HL.out.mono ?_
                rintro e w2 ⟨rfl, v', hR2, hK2⟩
                have hB2 : w2.heap[w.heap.size]? = some (.cells #[.slice none 0 0, .int .i64 0, .int .i64 0] 30 (0, 0)) := hK2.2 _ _ HB.out (by simp) (fun c fz e => by injection e with _ e2; exact absurd e2 (by decide))
                have m1 := hR2.cell1
                have hbw2 := hbw.trans hK2.1
                by_cases hy : (lineR fs txt).2 = 0
                · have HN2 := Lib.hid (HNX.out hy v' w2 hR2 hK2)
                  rw [hy] at m1
                  clear hy hR2 hK2 hB2
                  go_wp2
                  go_roundw
                  case rel => exact ⟨(j + 1) + 1, (j + 1) + 1, v', _, by go_num, by go_num, HN2⟩
                  case measure => simp [intOf]; omega
                · have HE := Lib.hid (HBD.out hy)
                  have tq : ((lineR fs txt).2 != 0) = true := by rw [bne_iff_ne]; exact hy
                  clear hy HNX HBD
                  generalize (lineR fs txt).2 = why at *
                  have k0 : w2.cell? ⟨w.heap.size, 0, none⟩ = some (.slice none 0 0) := by simp [World.cell?, hB2]
                  have k1 : w2.cell? ⟨w.heap.size, 1, none⟩ = some (.int .i64 0) := by simp [World.cell?, hB2]
                  have k2 : w2.cell? ⟨w.heap.size, 2, none⟩ = some (.int .i64 0) := by simp [World.cell?, hB2]
                  have l0 : w2.frozen? ⟨w.heap.size, 0, none⟩ = false := by simp [World.frozen?, hB2]
                  have l1 : w2.frozen? ⟨w.heap.size, 1, none⟩ = false := by simp [World.frozen?, hB2]
                  have l2 : w2.frozen? ⟨w.heap.size, 2, none⟩ = false := by simp [World.frozen?, hB2]
                  have HH := Lib.hid hB2
                  clear hB2 hR2 hK2
                  go_wp2
                  refine bodyPost_ret (results_cell_row rfl _ _ w.heap.size 30 #[.slice none 0 0, .int .i64 why, .int .i64 ((j + 1) : Int)] (0, 0) _ rfl (store3 HH.out _ _ _) Try.underlying30 rfl (by kernel_rfl)) rfl ?_
                  rw [HE.out]
                  exact ⟨_, rfl, OwnF.nil _ _, below_store3 hbw2 _ _ _⟩
            · have t13 : ((l[j] : Int) == 13) = false := beq_eq_false_iff_ne.2 h13
              have HS : Hid (stripCR (seg l frm (j + 1)) = seg l frm (j + 1)) := Lib.hid (seg_keep l frm (j + 1) hil (fun ⟨_, e⟩ => h13 e))
              have te : ((j : Int) + 1 == (frm : Int)) = false := beq_eq_false_iff_ne.2 (by omega)
              clear h13
              obtain ⟨A1, n1, hsl, hcv0⟩ := cut_text HC.out hc0 frm (j + 1) (by omega) (by omega)
              have hcv := hcv0 wr hbw
              rw [show (((j + 1 : Nat)) : Int) = (j:Int) + 1 from rfl] at hsl
              have hslen : (seg l frm (j + 1)).length = j + 1 - frm := seg_len l frm (j + 1) (by omega)
              have hsne : seg l frm (j + 1) ≠ [] := fun e => by rw [e] at hslen; simp at hslen; omega
              have HL := Lib.hid (line_calls (strOfNums (seg l frm (j + 1))) w.heap.size (w.heap.size + 1) v fs (l.length : Int) wr (by rw [strOfNums_size]; omega) (by rw [strOfNums_size]; omega) HR.out h64 (HI.out.lastFits hmx _ (by rw [strOfNums_size]; omega)))
              have HNX := Lib.hid (fun hy v' wx hR hK => HI.out.next (v' := v') (wx := wx) hlt hm hc (by rw [HS.out]; exact hsne) hy hR hK)
              have HBD := Lib.hid (fun hy => HI.out.bad hlt hm hc (by rw [HS.out]; exact hsne) hy)
              rw [HS.out] at HNX HBD
              rw [show (l.take (j + 1)).drop frm = seg l frm (j + 1) from rfl] at hcv
              clear hcv0 hslen hsne
              generalize strOfNums (seg l frm (j + 1)) = txt at *
              go_wp2_with (fail)
              refine HL.out.mono ?_
              rintro e w2 ⟨rfl, v', hR2, hK2⟩
              have hB2 : w2.heap[w.heap.size]? = some (.cells #[.slice none 0 0, .int .i64 0, .int .i64 0] 30 (0, 0)) := hK2.2 _ _ HB.out (by simp) (fun c fz e => by injection e with _ e2; exact absurd e2 (by decide))
              have m1 := hR2.cell1
              have hbw2 := hbw.trans hK2.1
              by_cases hy : (lineR fs txt).2 = 0
              · have HN2 := Lib.hid (HNX.out hy v' w2 hR2 hK2)
                rw [hy] at m1
                clear hy hR2 hK2 hB2
                go_wp2
                go_roundw
                case rel => exact ⟨(j + 1) + 1, (j + 1) + 1, v', _, by go_num, by go_num, HN2⟩
                case measure => simp [intOf]; omega
              · have HE := Lib.hid (HBD.out hy)
                have tq : ((lineR fs txt).2 != 0) = true := by rw [bne_iff_ne]; exact hy
                clear hy HNX HBD
                generalize (lineR fs txt).2 = why at *
                have k0 : w2.cell? ⟨w.heap.size, 0, none⟩ = some (.slice none 0 0) := by simp [World.cell?, hB2]
                have k1 : w2.cell? ⟨w.heap.size, 1, none⟩ = some (.int .i64 0) := by simp [World.cell?, hB2]
                have k2 : w2.cell? ⟨w.heap.size, 2, none⟩ = some (.int .i64 0) := by simp [World.cell?, hB2]
                have l0 : w2.frozen? ⟨w.heap.size, 0, none⟩ = false := by simp [World.frozen?, hB2]
                have l1 : w2.frozen? ⟨w.heap.size, 1, none⟩ = false := by simp [World.frozen?, hB2]
                have l2 : w2.frozen? ⟨w.heap.size, 2, none⟩ = false := by simp [World.frozen?, hB2]
                have HH := Lib.hid hB2
                clear hB2 hR2 hK2
                go_wp2
                refine bodyPost_ret (results_cell_row rfl _ _ w.heap.size 30 #[.slice none 0 0, .int .i64 why, .int .i64 ((j + 1) : Int)] (0, 0) _ rfl (store3 HH.out _ _ _) Try.underlying30 rfl (by kernel_rfl)) rfl ?_
                rw [HE.out]
                exact ⟨_, rfl, OwnF.nil _ _, below_store3 hbw2 _ _ _⟩
          · have hif : frm = i := by omega
            have HE := Lib.hid (HI.out.done hlt hm hc (by rw [show seg l frm i = [] from (seg_nil l frm i hil hfi).2 hif.symm]; rfl))
            subst hif
            have tf : ¬ (frm : Int) < (frm : Int) := by omega
            clear hc
            generalize l[frm] = x at *
            have h1 := HR.out.setAt (frm : Int)
            have hx := hbw.setCell (p := ⟨w.heap.size + 1, 2, none⟩) (by simp) (.int .i64 (frm : Int))
            have hy : (wr.setCell ⟨w.heap.size + 1, 2, none⟩ (.int .i64 (frm : Int))).heap[w.heap.size]? = _ := (far_set (by simp) _ _).trans HB.out
            have HOV := Lib.hid (over_calls _ w v fs 0 (frm : Int) hx h1.2.2 (by omega) (fun f hf => by have := HI.out.fits hmx f hf; omega))
            have HY := Lib.hid hy
            have HO1 := Lib.hid h1.2.2
            clear hx hy h1
            go_wp2_with (fail)
            refine HOV.out.mono ?_
            rintro e w2 ⟨v', rfl, ho2, hb2, hk2⟩
            have hB2 := (hk2.2 w.heap.size (Array.getElem?_eq_some_iff.1 HY.out).1 (HO1.out.ne HY.out (fun cs fr e => by injection e with _ e2; exact absurd e2 (by decide)))).trans HY.out
            obtain ⟨A2, c2', hv2⟩ := ho2.form
            subst hv2
            have k0 : w2.cell? ⟨w.heap.size, 0, none⟩ = some (.slice none 0 0) := by simp [World.cell?, hB2]
            have k1 : w2.cell? ⟨w.heap.size, 1, none⟩ = some (.int .i64 0) := by simp [World.cell?, hB2]
            have k2 : w2.cell? ⟨w.heap.size, 2, none⟩ = some (.int .i64 0) := by simp [World.cell?, hB2]
            have l0 : w2.frozen? ⟨w.heap.size, 0, none⟩ = false := by simp [World.frozen?, hB2]
            have l1 : w2.frozen? ⟨w.heap.size, 1, none⟩ = false := by simp [World.frozen?, hB2]
            have l2 : w2.frozen? ⟨w.heap.size, 2, none⟩ = false := by simp [World.frozen?, hB2]
            have HH := Lib.hid hB2
            have hne2 := ho2.ne hB2 (fun cs fr e => by injection e with _ e2; exact absurd e2 (by decide))
            have HO2 := Lib.hid ho2
            have HNE2 := Lib.hid hne2
            clear hB2 hk2 ho2 hne2
            go_wp2
            refine bodyPost_ret (results_cell_row rfl _ _ w.heap.size 30 #[.slice A2 (trimF fs).length c2', .int .i64 0, .int .i64 (frm : Int)] (0, 0) _ rfl (store3 HH.out _ _ _) Try.underlying30 rfl (by kernel_rfl)) rfl ?_
            rw [HE.out]
            exact ⟨_, rfl, HO2.out.store3 HNE2.out _ _ _, below_store3 hb2 _ _ _⟩
        · have t10 : ((l[i] : Int) != 10) = true := by rw [bne_iff_ne]; exact hc
          have HN := Lib.hid (HI.out.more hlt hm hc (Below.refl _ _))
          clear hc
          generalize l[i] = x at *
          go_wp2
          go_roundw
          case rel => exact ⟨i + 1, frm, v, fs, by go_num, rfl, HN⟩
          case measure => simp [intOf]; omega
    · have hie : i = l.length := by omega
      by_cases hfl : frm < l.length
      · obtain ⟨hne, hE⟩ := HI.out.last_line hie (by omega)
        obtain ⟨A1, n1, hsl, hcv0⟩ := cut_rest HC.out hc0 frm (by omega)
        have hcv := hcv0 wr hbw
        have hslen : (l.drop frm).length = l.length - frm := List.length_drop
        have HL := Lib.hid (line_calls (strOfNums (l.drop frm)) w.heap.size (w.heap.size + 1) v fs (l.length : Int) wr (by rw [strOfNums_size]; omega) (by rw [strOfNums_size]; omega) HR.out h64 (HI.out.lastFits hmx _ (by rw [strOfNums_size]; omega)))
        have HFIT : Hid (∀ f ∈ (lineR fs (strOfNums (l.drop frm))).1, f.f1.size ≤ 9223372036854775807) := Lib.hid (HI.out.lastAll hmx _ (by rw [strOfNums_size]; omega))
        have HE := Lib.hid hE
        clear hE hcv0 hslen hne
        subst hie
        generalize strOfNums (l.drop frm) = txt at *
        go_wp2_with (fail)
        refine HL.out.mono ?_
        rintro e w2 ⟨rfl, v', hR2, hK2⟩
        have hB2 : w2.heap[w.heap.size]? = some (.cells #[.slice none 0 0, .int .i64 0, .int .i64 0] 30 (0, 0)) := hK2.2 _ _ HB.out (by simp) (fun c fz e => by injection e with _ e2; exact absurd e2 (by decide))
        have m1 := hR2.cell1
        have hbw2 := hbw.trans hK2.1
        by_cases hy : (lineR fs txt).2 = 0
        · rw [hy] at m1
          have hE2 := HE.out
          rw [if_pos hy] at hE2
          have HE3 := Lib.hid hE2
          have tq : ((0 : Int) != 0) = false := by decide
          have hR3 := hR2
          rw [hy] at hR3
          have HB2 := Lib.hid hB2
          have hR2 := hR3
          clear hE2 hy hB2 hR3
          have m0 := hR2.cell0
          have m2 := hR2.cell2
          have HOV := Lib.hid (over_calls _ w v' (lineR fs txt).1 0 (l.length : Int) (hbw.trans hK2.1) hR2.2.2 (by have := lineR_le fs txt h64; omega) (fun f hf => HFIT.out f hf))
          go_wp2_with (fail)
          refine HOV.out.mono ?_
          rintro e w3 ⟨v3, rfl, ho3, hb3, hk3⟩
          have hB3 := (hk3.2 w.heap.size (Array.getElem?_eq_some_iff.1 HB2.out).1 (hR2.2.2.ne HB2.out (fun cs fr e => by injection e with _ e2; exact absurd e2 (by decide)))).trans HB2.out
          obtain ⟨A3, c3, hv3⟩ := ho3.form
          subst hv3
          have n0 : w3.cell? ⟨w.heap.size, 0, none⟩ = some (.slice none 0 0) := by simp [World.cell?, hB3]
          have n1' : w3.cell? ⟨w.heap.size, 1, none⟩ = some (.int .i64 0) := by simp [World.cell?, hB3]
          have n2 : w3.cell? ⟨w.heap.size, 2, none⟩ = some (.int .i64 0) := by simp [World.cell?, hB3]
          have o0 : w3.frozen? ⟨w.heap.size, 0, none⟩ = false := by simp [World.frozen?, hB3]
          have o1 : w3.frozen? ⟨w.heap.size, 1, none⟩ = false := by simp [World.frozen?, hB3]
          have o2 : w3.frozen? ⟨w.heap.size, 2, none⟩ = false := by simp [World.frozen?, hB3]
          have HH := Lib.hid hB3
          have hne3 := ho3.ne hB3 (fun cs fr e => by injection e with _ e2; exact absurd e2 (by decide))
          have HO3 := Lib.hid ho3
          have HNE3 := Lib.hid hne3
          clear hB3 hk3 ho3 hne3
          go_wp2
          refine bodyPost_ret (results_cell_row rfl _ _ w.heap.size 30 #[.slice A3 (trimF (lineR fs txt).1).length c3, .int .i64 0, .int .i64 (l.length : Int)] (0, 0) _ rfl (store3 HH.out _ _ _) Try.underlying30 rfl (by kernel_rfl)) rfl ?_
          rw [HE3.out]
          exact ⟨_, rfl, HO3.out.store3 HNE3.out _ _ _, below_store3 hb3 _ _ _⟩
        · have hE2 := HE.out
          rw [if_neg hy] at hE2
          have HE3 := Lib.hid hE2
          have tq : ((lineR fs txt).2 != 0) = true := by rw [bne_iff_ne]; exact hy
          clear hy hE2 HE HFIT
          generalize (lineR fs txt).2 = why at *
          have k0 : w2.cell? ⟨w.heap.size, 0, none⟩ = some (.slice none 0 0) := by simp [World.cell?, hB2]
          have k1 : w2.cell? ⟨w.heap.size, 1, none⟩ = some (.int .i64 0) := by simp [World.cell?, hB2]
          have k2 : w2.cell? ⟨w.heap.size, 2, none⟩ = some (.int .i64 0) := by simp [World.cell?, hB2]
          have l0 : w2.frozen? ⟨w.heap.size, 0, none⟩ = false := by simp [World.frozen?, hB2]
          have l1 : w2.frozen? ⟨w.heap.size, 1, none⟩ = false := by simp [World.frozen?, hB2]
          have l2 : w2.frozen? ⟨w.heap.size, 2, none⟩ = false := by simp [World.frozen?, hB2]
          have HH := Lib.hid hB2
          clear hB2 hR2 hK2
          go_wp2
          refine bodyPost_ret (results_cell_row rfl _ _ w.heap.size 30 #[.slice none 0 0, .int .i64 why, .int .i64 (l.length : Int)] (0, 0) _ rfl (store3 HH.out _ _ _) Try.underlying30 rfl (by kernel_rfl)) rfl ?_
          rw [HE3.out]
          exact ⟨_, rfl, OwnF.nil _ _, below_store3 hbw2 _ _ _⟩
      · have HE := Lib.hid (HI.out.last_done hie (by omega))
        subst hie
        have HOV := Lib.hid (over_calls _ w v fs 0 (l.length : Int) hbw HR.out.2.2 (by omega) (fun f hf => by have := HI.out.fits hmx f hf; omega))
        go_wp2_with (fail)
        refine HOV.out.mono ?_
        rintro e w3 ⟨v3, rfl, ho3, hb3, hk3⟩
        have hB3 := (hk3.2 w.heap.size (Array.getElem?_eq_some_iff.1 HB.out).1 (HR.out.2.2.ne HB.out (fun cs fr e => by injection e with _ e2; exact absurd e2 (by decide)))).trans HB.out
        obtain ⟨A3, c3, hv3⟩ := ho3.form
        subst hv3
        have n0 : w3.cell? ⟨w.heap.size, 0, none⟩ = some (.slice none 0 0) := by simp [World.cell?, hB3]
        have n1' : w3.cell? ⟨w.heap.size, 1, none⟩ = some (.int .i64 0) := by simp [World.cell?, hB3]
        have n2 : w3.cell? ⟨w.heap.size, 2, none⟩ = some (.int .i64 0) := by simp [World.cell?, hB3]
        have o0 : w3.frozen? ⟨w.heap.size, 0, none⟩ = false := by simp [World.frozen?, hB3]
        have o1 : w3.frozen? ⟨w.heap.size, 1, none⟩ = false := by simp [World.frozen?, hB3]
        have o2 : w3.frozen? ⟨w.heap.size, 2, none⟩ = false := by simp [World.frozen?, hB3]
        have HH := Lib.hid hB3
        have hne3 := ho3.ne hB3 (fun cs fr e => by injection e with _ e2; exact absurd e2 (by decide))
        have HO3 := Lib.hid ho3
        have HNE3 := Lib.hid hne3
        clear hB3 hk3 ho3 hne3
        go_wp2
        refine bodyPost_ret (results_cell_row rfl _ _ w.heap.size 30 #[.slice A3 (trimF fs).length c3, .int .i64 0, .int .i64 (l.length : Int)] (0, 0) _ rfl (store3 HH.out _ _ _) Try.underlying30 rfl (by kernel_rfl)) rfl ?_
        rw [HE.out]
        exact ⟨_, rfl, HO3.out.store3 HNE3.out _ _ _, below_store3 hb3 _ _ _⟩
end Go.Proofs.Ytodidfdfbanliaa.PAll
