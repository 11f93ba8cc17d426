/- A header's reader: Put, End, Fields. -/
import Derived.Test.YtodidfdfbanliaaQStpHTake
set_option linter.unusedVariables false
set_option linter.unusedSimpArgs false
namespace Go.Proofs.Ytodidfdfbanliaa.PAll
open Go.RowKit Go.Proofs.YtodidfdfbanliaaW.PrintWords Go.Proofs.YtodidfdfbanliaaW.PrintLast
section
variable {w w1 : World} {base b : Nat} {most n : Int} {vl vf : Value} {L : List Int} {fs : List S42} {d : Bool} {why : Int}
theorem put_done {v' : Value} {c : Int} {W w' : World} (h : RdAt W base b most n vl L vf fs d why) (hown : w'.ownsRow base 5 1 v' (L ++ [c]).length (nums .u8 (L ++ [c]))) (hg : W.grownBy w' vl.ownBlock) :
    w'.cell? ⟨b, 2, none⟩ = some vl ∧ w'.frozen? ⟨b, 2, none⟩ = false ∧ RdAt (w'.setCell ⟨b, 2, none⟩ v') base b most n v' (L ++ [c]) vf fs d why := by
  have hblk : w'.heap[b]? = some (.cells #[.int .i64 most, .int .i64 n, vl, vf, .bool d, .int .i64 why] 83 (0, 0)) := by
    rw [hg.block b h.lt (fun e => h.neL e.symm)]; exact h.2.1
  have hO : OwnL w' base v' (L ++ [c]) := hown
  have hF : OwnF w' base vf fs := by
    refine h.2.2.2.kept hg ?_
    cases hvf : vf.ownBlock with
    | none => exact .inl rfl
    | some k =>
      refine .inr (fun e => ?_)
      obtain ⟨c1, e1⟩ := own_typed h.2.2.2 k hvf
      obtain ⟨c2, e2⟩ := own_typed h.2.2.1 k e.symm
      rw [e1] at e2
      injection e2 with e2
      injection e2 with _ e3
      exact absurd e3 (by decide)
  have hne : v'.ownBlock ≠ some b := hO.ne hblk (fun cs fr e => by injection e with _ e2; exact absurd e2 (by decide))
  have hnf : vf.ownBlock ≠ some b := h.neF
  refine ⟨by simp [World.cell?, hblk], by simp [World.frozen?, hblk], ⟨h.1, ?_, hO.setOther hne 2 _, hF.setOther hnf 2 _⟩⟩
  simp [World.setCell, Array.getElem?_modify, hblk]
end
set_option maxHeartbeats 1000000 in
set_option maxRecDepth 100000 in
/-- A byte too many. -/
theorem put_full (base b : Nat) (most : Int) (vl : Value) (L : List Int) (vf : Value) (fs : List S42) (c : Int) (w : World) (hR : RdAt w base b most most vl L vf fs false 0) :
    Calls Try.prog 34 #[.pointer (some ⟨b, 0, none⟩), .int .u8 c] w fun e w' => e = .returned (.tuple #[.bool false, .int .i64 31]) ∧ RdAt w' base b most most vl L vf fs false 31 ∧ Below base w w' := by
  have c0 := hR.cell0
  have c1 := hR.cell1
  have c2 := hR.cell2
  have c4 := hR.cell4
  have c5 := hR.cell5
  have f1 := hR.frozen 1
  have f5 := hR.frozen 5
  have c5' := ((hR.drew).setWhy 31).cell5
  have hbb := hR.1
  have HR := Lib.hid ((hR.drew).setWhy 31)
  clear hR
  go_enter Try.func34, Try.ntmps34
  go_wp2
  go_region
  go_wp2
  go_region
  go_wp2
  go_ret2
  exact ⟨rfl, HR.out.drew, (((Below.refl base w).drew).trans (rd_below_set hbb 5 _)).drew⟩
set_option maxHeartbeats 1000000 in
set_option maxRecDepth 100000 in
/-- A byte of a line. -/
theorem put_byte (base b : Nat) (most n : Int) (vl : Value) (L : List Int) (vf : Value) (fs : List S42) (c : Int) (w : World) (hR : RdAt w base b most n vl L vf fs false 0) (hn : n ≠ most) (hn0 : 0 ≤ n) (hn1 : n < 65536) (hc : c ≠ 10) (hlen : L.length + 1 ≤ 65536) :
    Calls Try.prog 34 #[.pointer (some ⟨b, 0, none⟩), .int .u8 c] w fun e w' => e = .returned (.tuple #[.bool false, .int .i64 0]) ∧ ∃ vl', RdAt w' base b most (n + 1) vl' (L ++ [c]) vf fs false 0 ∧ Below base w w' := by
  have c0 := hR.cell0
  have c1 := hR.cell1
  have c2 := hR.cell2
  have c4 := hR.cell4
  have c5 := hR.cell5
  have f1 := hR.frozen 1
  have f5 := hR.frozen 5
  have tn : (n == most) = false := beq_eq_false_iff_ne.2 hn
  have tc : (c != 10) = true := by rw [bne_iff_ne]; exact hc
  have hw1 : IntKind.i64.wrap (n + 1) = n + 1 := IntWalk.i64_in _ (by omega)
  have hbb := hR.1
  have hR1 := (hR.drew).setN (n + 1)
  have c2' := hR1.cell2
  have HR1 := Lib.hid hR1
  have HO := Lib.hid hR1.2.2.1
  have hws : (w.drew.setCell ⟨b, 1, none⟩ (.int .i64 (n + 1))).heap.size = w.heap.size := by simp [World.setCell]
  have HB1 := Lib.hid (show Below base w (w.drew.setCell ⟨b, 1, none⟩ (.int .i64 (n + 1))) from ((Below.refl base w).drew).trans (rd_below_set hbb 1 _))
  have hbs : base ≤ (w.drew.setCell ⟨b, 1, none⟩ (.int .i64 (n + 1))).heap.size := Nat.le_trans hbb (Nat.le_of_lt hR1.lt)
  clear hR hR1
  go_enter Try.func34, Try.ntmps34
  go_wp2
  go_region
  go_wp2_with (at_builtin; refine print_append_num base rfl _ _ 22 5 .u8 1 rfl Try.underlying22 info5 (by decide) vl L c rfl (by rw [hws]; rfl) HO.out HB1.out hbs (by omega) ?_; intro v1 w1 hown hB hg hat; obtain ⟨A1, cap1, rfl⟩ := own_slice hown; have hP := put_done HR1.out hown hg; obtain ⟨k2, g2, hR2⟩ := hP; have HR2 := Lib.hid hR2; have HB2 := Lib.hid (hB.trans (rd_below_set hbb 2 (.slice A1 (L ++ [c]).length cap1))); clear hown hB hg hat hR2)
  go_wp2
  go_ret2
  have h1 := HR2.out
  have h2 := HB2.out
  rw [show (L ++ [c]).length = L.length + 1 from by simp] at h1 h2
  exact ⟨rfl, _, h1, h2⟩
section
variable {w w1 : World} {base b : Nat} {most n : Int} {vl vf : Value} {L : List Int} {fs : List S42} {d : Bool} {why : Int}
theorem line_form {m : Nat} (hm : L.length = m + 1) (h : OwnL w base vl L) : ∃ g c, vl = .slice (some ⟨g, 0, none⟩) (m + 1) c ∧ m + 1 ≤ c ∧ w.cell? ⟨g, m, none⟩ = some (.int .u8 (L.getD m 0)) ∧ OwnL w base (.slice (some ⟨g, 0, none⟩) m c) L.dropLast := by
  rcases h.2 with ⟨_, h0⟩ | ⟨g, c, cur, hv, hb, hg, hn, hmx, hc, ht⟩
  · omega
  · have hcell : w.cell? ⟨g, m, none⟩ = some (.int .u8 (L.getD m 0)) := by
      have e : (nums .u8 L)[m]? = some (.int .u8 (L.getD m 0)) := by simp [nums, List.getElem?_eq_getElem (show m < L.length by omega), List.getD_eq_getElem?_getD]
      rw [← ht, List.getElem?_take] at e
      split at e
      · simpa [World.cell?, hg] using e
      · cases e
    refine ⟨g, c, by rw [hv, hm], by omega, hcell, ?_, .inr ⟨g, c, cur, by rw [List.length_dropLast, hm]; simp, hb, hg, by rw [List.length_dropLast]; omega, hmx, hc, ?_⟩⟩
    · simp [nums]
    · rw [List.length_dropLast]
      have e2 : cur.toList.take ((L.length - 1) * 1) = (cur.toList.take (L.length * 1)).take ((L.length - 1) * 1) := by rw [List.take_take, Nat.min_eq_left (by omega)]
      rw [e2, ht]
      simp [nums, List.dropLast_eq_take, ← List.map_take]
theorem strip_last {m : Nat} (hm : L.length = m + 1) : stripCR L = if L.getD m 0 = 13 then L.dropLast else L := by
  unfold stripCR
  have : L.getLast? = some (L.getD m 0) := by
    rw [List.getLast?_eq_getElem?, hm, List.getD_eq_getElem?_getD, Nat.add_sub_cancel, List.getElem?_eq_getElem (show m < L.length by omega)]; rfl
  rw [this]; simp
end
set_option maxHeartbeats 2000000 in
set_option maxRecDepth 100000 in
theorem put_nl_a (base b : Nat) (most n : Int) (vl : Value) (L : List Int) (vf : Value) (fs : List S42) (w : World) (hR : RdAt w base b most n vl L vf fs false 0) (hn : n ≠ most) (hn0 : 0 ≤ n) (hn1 : n < 65536) (hlen : L.length ≤ 65536) (h64 : fs.length ≤ 64) (hsz : ∀ f ∈ fs, f.f1.size + L.length ≤ 9223372036854775807) (hL : L = []) :
    Calls Try.prog 34 #[.pointer (some ⟨b, 0, none⟩), .int .u8 10] w fun e w' => e = .returned (.tuple #[.bool true, .int .i64 0]) ∧ (∃ vl', RdAt w' base b most (n + 1) vl' [] vf (trimF fs) true 0) ∧ Below base w w' := by
  subst hL
  have c0 := hR.cell0
  have c1 := hR.cell1
  have c4 := hR.cell4
  have c5 := hR.cell5
  have f1 := hR.frozen 1
  have hw1 : IntKind.i64.wrap (n + 1) = n + 1 := IntWalk.i64_in _ (by omega)
  have hbb := hR.1
  have tn : (n == most) = false := beq_eq_false_iff_ne.2 hn
  have hR1 := (hR.drew).setN (n + 1)
  have hB1 : Below base w (w.drew.setCell ⟨b, 1, none⟩ (.int .i64 (n + 1))) := ((Below.refl base w).drew).trans (rd_below_set hbb 1 _)
  obtain ⟨A, c, hv⟩ := hR.2.2.1.form
  have c2' := hR.cell2
  rw [hv] at c2'
  have HC := Lib.hid (finish_calls base b most (n + 1) vl [] vf fs false 0 _ hR1 (fun f hf => by have := hsz f hf; omega))
  have hB := Lib.hid hB1
  clear hR hR1 hB1 hsz hv
  go_enter Try.func34, Try.ntmps34
  go_wp2
  go_region
  go_wp2_with (fail)
  refine HC.out.mono ?_
  rintro e w3 ⟨rfl, hF, hG⟩
  have HF := Lib.hid hF
  have HG := Lib.hid (hB.out.trans hG)
  clear hF hG HC
  have e4 := HF.out.cell4
  have e5 := HF.out.cell5
  go_wp2
  go_region
  go_wp2
  go_ret2
  exact ⟨rfl, ⟨_, HF.out.drew⟩, (HG.out).drew⟩
set_option maxHeartbeats 2000000 in
set_option maxRecDepth 100000 in
theorem put_nl_b (base b : Nat) (most n : Int) (vl : Value) (L : List Int) (vf : Value) (fs : List S42) (w : World) (hR : RdAt w base b most n vl L vf fs false 0) (hn : n ≠ most) (hn0 : 0 ≤ n) (hn1 : n < 65536) (hlen : L.length ≤ 65536) (h64 : fs.length ≤ 64) (hsz : ∀ f ∈ fs, f.f1.size + L.length ≤ 9223372036854775807) (hL : L ≠ []) (hs : stripCR L = L) :
    Calls Try.prog 34 #[.pointer (some ⟨b, 0, none⟩), .int .u8 10] w fun e w' => e = .returned (.tuple #[.bool false, .int .i64 (lineR fs (strOfNums (stripCR L))).2]) ∧ (∃ vl' vf', RdAt w' base b most (n + 1) vl' [] vf' (lineR fs (strOfNums (stripCR L))).1 false (lineR fs (strOfNums (stripCR L))).2) ∧ Below base w w' := by
  have c0 := hR.cell0
  have c1 := hR.cell1
  have c4 := hR.cell4
  have c5 := hR.cell5
  have f1 := hR.frozen 1
  have hw1 : IntKind.i64.wrap (n + 1) = n + 1 := IntWalk.i64_in _ (by omega)
  have hbb := hR.1
  have tn : (n == most) = false := beq_eq_false_iff_ne.2 hn
  have hR1 := (hR.drew).setN (n + 1)
  have hB1 : Below base w (w.drew.setCell ⟨b, 1, none⟩ (.int .i64 (n + 1))) := ((Below.refl base w).drew).trans (rd_below_set hbb 1 _)
  obtain ⟨m, hm⟩ : ∃ m, L.length = m + 1 := ⟨L.length - 1, by have : L.length ≠ 0 := fun e => hL (List.eq_nil_of_length_eq_zero e); omega⟩
  have h13 : L.getD m 0 ≠ 13 := by
    intro e
    have h2 := strip_last hm
    rw [if_pos e, hs] at h2
    have := congrArg List.length h2
    rw [List.length_dropLast] at this; omega
  obtain ⟨g, c, hv, hmc, k1, _⟩ := line_form hm hR1.2.2.1
  have c2' := hR.cell2
  rw [hv] at c2'
  have hvl := own_slice hR.2.2.1
  have HC := Lib.hid (take_calls base b most (n + 1) vl L vf fs false _ hL (by omega) hR1 h64 (fun hne => by
    have hl : fs.length ≠ 0 := fun e => hne (List.eq_nil_of_length_eq_zero e)
    refine hsz _ ?_
    rw [List.getD_eq_getElem?_getD, List.getElem?_eq_getElem (by omega)]; exact List.getElem_mem _))
  rw [hs]
  have k1' : (w.setCell ⟨b, 1, none⟩ (.int .i64 (n + 1))).cell? ⟨g, m, none⟩ = some (.int .u8 (L.getD m 0)) := k1
  have hw3 : wrap64 (m : Int) = (m : Int) := by have h := IntWalk.i64_in (m : Int) (by omega); rw [i64_w] at h; exact h
  have t13 : ((L.getD m 0) == 13) = false := beq_eq_false_iff_ne.2 h13
  have hB := Lib.hid hB1
  have hq : (0 : Int) < (m : Int) + 1 := by omega
  have hw2 : IntKind.i64.wrap ((m : Int) + 1 - 1) = (m : Int) := by rw [show (m : Int) + 1 - 1 = (m : Int) from by omega]; exact IntWalk.i64_in _ (by omega)
  have hp1 : (0 : Int) ≤ (m : Int) := by omega
  have hp2 : (m : Int) < (m : Int) + 1 := by omega
  have te : ((m : Int) + 1 == 0) = false := beq_eq_false_iff_ne.2 (by omega)
  clear hR hR1 hB1 hsz hv h13 hm hs hL
  generalize L.getD m 0 = x at *
  go_enter Try.func34, Try.ntmps34
  go_wp2
  go_region
  go_wp2_with (fail)
  refine HC.out.mono ?_
  rintro e w3 ⟨rfl, vl3, vf3, hF, hG⟩
  have HF := Lib.hid hF
  have HG := Lib.hid (hB.out.trans hG)
  clear hF hG HC
  have e4 := HF.out.cell4
  have e5 := HF.out.cell5
  go_wp2
  go_region
  go_wp2
  go_ret2
  exact ⟨rfl, ⟨_, _, HF.out.drew⟩, (HG.out).drew⟩
set_option maxHeartbeats 2000000 in
set_option maxRecDepth 100000 in
theorem put_nl_c1 (base b : Nat) (most n : Int) (vl : Value) (L : List Int) (vf : Value) (fs : List S42) (w : World) (hR : RdAt w base b most n vl L vf fs false 0) (hn : n ≠ most) (hn0 : 0 ≤ n) (hn1 : n < 65536) (hlen : L.length ≤ 65536) (h64 : fs.length ≤ 64) (hsz : ∀ f ∈ fs, f.f1.size + L.length ≤ 9223372036854775807) (hL : L ≠ []) (hs : stripCR L ≠ L) (h0 : stripCR L = []) :
    Calls Try.prog 34 #[.pointer (some ⟨b, 0, none⟩), .int .u8 10] w fun e w' => e = .returned (.tuple #[.bool true, .int .i64 0]) ∧ (∃ vl', RdAt w' base b most (n + 1) vl' [] vf (trimF fs) true 0) ∧ Below base w w' := by
  have c0 := hR.cell0
  have c1 := hR.cell1
  have c4 := hR.cell4
  have c5 := hR.cell5
  have f1 := hR.frozen 1
  have hw1 : IntKind.i64.wrap (n + 1) = n + 1 := IntWalk.i64_in _ (by omega)
  have hbb := hR.1
  have tn : (n == most) = false := beq_eq_false_iff_ne.2 hn
  have hR1 := (hR.drew).setN (n + 1)
  have hB1 : Below base w (w.drew.setCell ⟨b, 1, none⟩ (.int .i64 (n + 1))) := ((Below.refl base w).drew).trans (rd_below_set hbb 1 _)
  obtain ⟨m, hm⟩ : ∃ m, L.length = m + 1 := ⟨L.length - 1, by have : L.length ≠ 0 := fun e => hL (List.eq_nil_of_length_eq_zero e); omega⟩
  have h13 : L.getD m 0 = 13 := by
    have h2 := strip_last hm
    by_cases e : L.getD m 0 = 13
    · exact e
    · rw [if_neg e] at h2; exact absurd h2 hs
  have hst : stripCR L = L.dropLast := by rw [strip_last hm, if_pos h13]
  obtain ⟨g, c, hv, hmc, k1, hdl⟩ := line_form hm hR1.2.2.1
  have c2' := hR.cell2
  have f2' := hR.frozen 2
  rw [hv] at c2'
  have hR2 := hR1.setLine hdl
  have hB2 := hB1.trans (rd_below_set hbb 2 (.slice (some ⟨g, 0, none⟩) m c))
  have c2'' := hR2.cell2
  have hsl : ∀ W : World, (Instr.slice 22 (.slice (some ⟨g, 0, none⟩) (m + 1) c) none (some (.int .i64 (m : Int))) none).run Try.prog W = .ok (.slice (some ⟨g, 0, none⟩) m c) W := by
    obtain ⟨i0, hi5, _, hsz5, _⟩ := info_parts info5
    exact cut_to 22 5 .i64 Try.underlying22 hi5 _ _ _ (m : Int) (by omega) (by omega) hmc
  have k1' : (w.setCell ⟨b, 1, none⟩ (.int .i64 (n + 1))).cell? ⟨g, m, none⟩ = some (.int .u8 (L.getD m 0)) := k1
  have hw3 : wrap64 (m : Int) = (m : Int) := by have h := IntWalk.i64_in (m : Int) (by omega); rw [i64_w] at h; exact h
  have t13 : ((L.getD m 0) == 13) = true := beq_iff_eq.2 h13
  have hq : (0 : Int) < (m : Int) + 1 := by omega
  have hw2 : IntKind.i64.wrap ((m : Int) + 1 - 1) = (m : Int) := by rw [show (m : Int) + 1 - 1 = (m : Int) from by omega]; exact IntWalk.i64_in _ (by omega)
  have hp1 : (0 : Int) ≤ (m : Int) := by omega
  have hp2 : (m : Int) < (m : Int) + 1 := by omega
  rw [← hst, h0] at hR2
  have hm0 : m = 0 := by rw [h0] at hst; have := congrArg List.length hst; rw [List.length_dropLast] at this; simp at this; omega
  have HC := Lib.hid (finish_calls base b most (n + 1) _ [] vf fs false 0 _ hR2 (fun f hf => by have := hsz f hf; omega))
  have te : ((m : Int) == 0) = true := beq_iff_eq.2 (by omega)
  have hB := Lib.hid hB2
  clear hR hR1 hR2 hB1 hB2 hsz hv h13 hm hs hL hst hdl h0 hm0
  generalize L.getD m 0 = x at *
  go_enter Try.func34, Try.ntmps34
  go_wp2
  go_region
  go_wp2_with (fail)
  refine HC.out.mono ?_
  rintro e w3 ⟨rfl, hF, hG⟩
  have HF := Lib.hid hF
  have HG := Lib.hid (hB.out.trans hG)
  clear hF hG HC
  have e4 := HF.out.cell4
  have e5 := HF.out.cell5
  go_wp2
  go_region
  go_wp2
  go_ret2
  exact ⟨rfl, ⟨_, HF.out.drew⟩, (HG.out).drew⟩
set_option maxHeartbeats 2000000 in
set_option maxRecDepth 100000 in
theorem put_nl_c2 (base b : Nat) (most n : Int) (vl : Value) (L : List Int) (vf : Value) (fs : List S42) (w : World) (hR : RdAt w base b most n vl L vf fs false 0) (hn : n ≠ most) (hn0 : 0 ≤ n) (hn1 : n < 65536) (hlen : L.length ≤ 65536) (h64 : fs.length ≤ 64) (hsz : ∀ f ∈ fs, f.f1.size + L.length ≤ 9223372036854775807) (hL : L ≠ []) (hs : stripCR L ≠ L) (h0 : stripCR L ≠ []) :
    Calls Try.prog 34 #[.pointer (some ⟨b, 0, none⟩), .int .u8 10] w fun e w' => e = .returned (.tuple #[.bool false, .int .i64 (lineR fs (strOfNums (stripCR L))).2]) ∧ (∃ vl' vf', RdAt w' base b most (n + 1) vl' [] vf' (lineR fs (strOfNums (stripCR L))).1 false (lineR fs (strOfNums (stripCR L))).2) ∧ Below base w w' := by
  have c0 := hR.cell0
  have c1 := hR.cell1
  have c4 := hR.cell4
  have c5 := hR.cell5
  have f1 := hR.frozen 1
  have hw1 : IntKind.i64.wrap (n + 1) = n + 1 := IntWalk.i64_in _ (by omega)
  have hbb := hR.1
  have tn : (n == most) = false := beq_eq_false_iff_ne.2 hn
  have hR1 := (hR.drew).setN (n + 1)
  have hB1 : Below base w (w.drew.setCell ⟨b, 1, none⟩ (.int .i64 (n + 1))) := ((Below.refl base w).drew).trans (rd_below_set hbb 1 _)
  obtain ⟨m, hm⟩ : ∃ m, L.length = m + 1 := ⟨L.length - 1, by have : L.length ≠ 0 := fun e => hL (List.eq_nil_of_length_eq_zero e); omega⟩
  have h13 : L.getD m 0 = 13 := by
    have h2 := strip_last hm
    by_cases e : L.getD m 0 = 13
    · exact e
    · rw [if_neg e] at h2; exact absurd h2 hs
  have hst : stripCR L = L.dropLast := by rw [strip_last hm, if_pos h13]
  obtain ⟨g, c, hv, hmc, k1, hdl⟩ := line_form hm hR1.2.2.1
  have c2' := hR.cell2
  have f2' := hR.frozen 2
  rw [hv] at c2'
  have hR2 := hR1.setLine hdl
  have hB2 := hB1.trans (rd_below_set hbb 2 (.slice (some ⟨g, 0, none⟩) m c))
  have c2'' := hR2.cell2
  have hsl : ∀ W : World, (Instr.slice 22 (.slice (some ⟨g, 0, none⟩) (m + 1) c) none (some (.int .i64 (m : Int))) none).run Try.prog W = .ok (.slice (some ⟨g, 0, none⟩) m c) W := by
    obtain ⟨i0, hi5, _, hsz5, _⟩ := info_parts info5
    exact cut_to 22 5 .i64 Try.underlying22 hi5 _ _ _ (m : Int) (by omega) (by omega) hmc
  have k1' : (w.setCell ⟨b, 1, none⟩ (.int .i64 (n + 1))).cell? ⟨g, m, none⟩ = some (.int .u8 (L.getD m 0)) := k1
  have hw3 : wrap64 (m : Int) = (m : Int) := by have h := IntWalk.i64_in (m : Int) (by omega); rw [i64_w] at h; exact h
  have t13 : ((L.getD m 0) == 13) = true := beq_iff_eq.2 h13
  have hq : (0 : Int) < (m : Int) + 1 := by omega
  have hw2 : IntKind.i64.wrap ((m : Int) + 1 - 1) = (m : Int) := by rw [show (m : Int) + 1 - 1 = (m : Int) from by omega]; exact IntWalk.i64_in _ (by omega)
  have hp1 : (0 : Int) ≤ (m : Int) := by omega
  have hp2 : (m : Int) < (m : Int) + 1 := by omega
  have hm0 : m ≠ 0 := by
    intro e; apply h0; rw [hst]
    apply List.eq_nil_of_length_eq_zero; rw [List.length_dropLast]; omega
  rw [← hst] at hR2
  have HC := Lib.hid (take_calls base b most (n + 1) _ (stripCR L) vf fs false _ h0 (by rw [hst, List.length_dropLast]; omega) hR2 h64 (fun hne => by
    have hl : fs.length ≠ 0 := fun e => hne (List.eq_nil_of_length_eq_zero e)
    have := hsz (fs.getD (fs.length - 1) zS) (by rw [List.getD_eq_getElem?_getD, List.getElem?_eq_getElem (by omega)]; exact List.getElem_mem _)
    rw [hst, List.length_dropLast]; omega))
  have te : ((m : Int) == 0) = false := beq_eq_false_iff_ne.2 (by omega)
  have hB := Lib.hid hB2
  clear hR hR1 hR2 hB1 hB2 hsz hv h13 hm hs hL hst hdl h0 hm0
  generalize L.getD m 0 = x at *
  go_enter Try.func34, Try.ntmps34
  go_wp2
  go_region
  go_wp2_with (fail)
  refine HC.out.mono ?_
  rintro e w3 ⟨rfl, vl3, vf3, hF, hG⟩
  have HF := Lib.hid hF
  have HG := Lib.hid (hB.out.trans hG)
  clear hF hG HC
  have e4 := HF.out.cell4
  have e5 := HF.out.cell5
  go_wp2
  go_region
  go_wp2
  go_ret2
  exact ⟨rfl, ⟨_, _, HF.out.drew⟩, (HG.out).drew⟩
end Go.Proofs.Ytodidfdfbanliaa.PAll
