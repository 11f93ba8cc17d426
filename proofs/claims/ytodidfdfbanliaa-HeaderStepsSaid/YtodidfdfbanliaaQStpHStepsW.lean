/- HeaderSteps: the walk. -/
import Derived.Deep.QuietTactic
import Derived.Deep.RegionHeld3
import Derived.BigQuiet
import Derived.Lib.Hide
import Derived.Outline
import Derived.Test.YtodidfdfbanliaaQStpHSteps
import Derived.Test.YtodidfdfbanliaaQStpHOf
import Derived.Test.YtodidfdfbanliaaQStpHAwake12
import Derived.Test.YtodidfdfbanliaaQStpHSame
import Derived.Test.YtodidfdfbanliaaQStpFFields
import Derived.Test.YtodidfdfbanliaaQStpPAllx0
set_option linter.unusedVariables false
set_option linter.unusedSimpArgs false
namespace Go.Proofs.Ytodidfdfbanliaa.PAll.Fq
open Go.RowKit Go.Proofs.YtodidfdfbanliaaW.PrintWords Go.Proofs.YtodidfdfbanliaaW.PrintLast Go.Proofs.Ytodidfdfbanliaa.PAll
theorem start_inv {ps : List (Nat × Obj)} {most : Nat} {l : List Int} {w wr : World} {base b : Nat} {vl vf : Value} (hR : RdQ ps wr base b most 0 vl [] vf [] false 0) (hB : Below base w wr) : SInv ps most l w base b 0 wr :=
  .inl ⟨_, _, _, _, WhInv.start hR.rd hB, hR.pr⟩
theorem pr_nil (w : World) (b : Nat) (vl vf : Value) : Pr [] w b vl vf := fun x hx => by cases hx
def psO (w : World) (v : Value) : List (Nat × Obj) := match v.ownBlock with
  | none => []
  | some k => match w.heap[k]? with
    | none => []
    | some o => [(k, o)]
theorem psO_mem {w : World} {v : Value} {x : Nat × Obj} (h : x ∈ psO w v) : v.ownBlock = some x.1 ∧ w.heap[x.1]? = some x.2 := by
  unfold psO at h
  split at h
  · cases h
  · rename_i k hk
    split at h
    · cases h
    · rename_i o ho
      rw [List.mem_singleton] at h
      subst h
      exact ⟨hk, ho⟩
theorem psO_keep {w w1 : World} {v : Value} (h : ∀ x ∈ psO w v, w1.heap[x.1]? = some x.2) (hlt : ∀ k, v.ownBlock = some k → k < w.heap.size) (k : Nat) (hk : v.ownBlock = some k) : w1.heap[k]? = w.heap[k]? := by
  have hl := hlt k hk
  have e : w.heap[k]? = some (w.heap[k]'hl) := Array.getElem?_eq_getElem hl
  have := h (k, w.heap[k]'hl) (by unfold psO; rw [hk]; simp only []; rw [e]; exact List.mem_singleton.2 rfl)
  rw [this, e]
theorem own_read {w3 wX : World} {base : Nat} {A : Option Addr} {cc : Nat} {F : List S42} (hO : OwnF w3 base (.slice A F.length cc) F) (h : ∀ x ∈ psO w3 (.slice A F.length cc), wX.heap[x.1]? = some x.2) : Kd.C k42 wX A F.length F ∧ F.length ≤ cc := by
  have h2 : OwnF wX base (.slice A F.length cc) F := own_move hO (psO_keep h (fun k hk => (hO.lt k hk).2))
  have r := Kd.R_reads' (h2.toR (fun _ => True) (fun _ _ => trivial))
  exact ⟨r.2.2, r.2.1⟩
theorem same_calls (F : List S42) (A B : Option Addr) (c d : Nat) (w : World) (h1 : Kd.C k42 w A F.length F ∧ F.length ≤ c) (h2 : Kd.C k42 w B F.length F ∧ F.length ≤ d) (hl : F.length ≤ 9223372036854775807) :
    Calls Try.prog 24 #[.slice A F.length c, .slice B F.length d] w fun e w' => e = .returned (.bool true) ∧ Below w.heap.size w w' := by
  obtain ⟨k, hk⟩ := (fields_same F hl).rounds
  refine (winkleref12_Fields.calls k A c F B d F true w h1.1 h1.2 h2.1 h2.2 hk).mono ?_
  rintro e w' ⟨rfl, nd, rfl⟩
  exact ⟨rfl, pw_below_drewN (Below.refl _ _) nd⟩
/-- The row that is overwritten. -/
def OvB (n : Nat) (A : Option Addr) (base : Nat) (w : World) : Prop := n = 0 ∨ ∃ g cur, A = some ⟨g, 0, none⟩ ∧ base ≤ g ∧ w.heap[g]? = some (.cells cur 42 (0, 0)) ∧ n * 2 ≤ cur.size
theorem ovB_of {w : World} {base : Nat} {A : Option Addr} {c : Nat} {F : List S42} (h : OwnF w base (.slice A F.length c) F) : OvB F.length A base w := by
  rcases h.2 with ⟨hv, h0⟩ | ⟨g, cap, cur, hv, hb, hg, hn, hm, hc, ht⟩
  · exact .inl h0
  · injection hv with h1 h2 h3
    refine .inr ⟨g, cur, h1, hb, hg, ?_⟩
    have := Nat.mul_le_mul_right 2 hn
    omega
theorem set_heap {w : World} {g j : Nat} {cur : Array Value} (hg : w.heap[g]? = some (.cells cur 42 (0, 0))) (x : Value) : (w.setCell ⟨g, j, none⟩ x).heap[g]? = some (.cells (cur.setIfInBounds j x) 42 (0, 0)) := by
  simp [World.setCell, Array.getElem?_modify, hg]
theorem OvB.at_ {n : Nat} {A : Option Addr} {base i : Nat} {w : World} (h : OvB n A base w) (hi : i < n) : ∃ g u0 u1, A = some ⟨g, 0, none⟩ ∧ base ≤ g ∧ w.cell? ⟨g, i * 2, none⟩ = some u0 ∧ w.frozen? ⟨g, i * 2, none⟩ = false ∧ (∀ x, (w.setCell ⟨g, i * 2, none⟩ x).cell? ⟨g, i * 2 + 1, none⟩ = some u1) ∧ (∀ x, (w.setCell ⟨g, i * 2, none⟩ x).frozen? ⟨g, i * 2 + 1, none⟩ = false) ∧
    (∀ x y, OvB n A base ((w.setCell ⟨g, i * 2, none⟩ x).setCell ⟨g, i * 2 + 1, none⟩ y) ∧ Below base w ((w.setCell ⟨g, i * 2, none⟩ x).setCell ⟨g, i * 2 + 1, none⟩ y)) := by
  rcases h with h | ⟨g, cur, hA, hb, hg, hs⟩
  · omega
  · have h1 := fun x : Value => set_heap (j := i * 2) hg x
    have h2 := fun x y : Value => set_heap (j := i * 2 + 1) (h1 x) y
    refine ⟨g, cur[i * 2]'(by omega), cur[i * 2 + 1]'(by omega), hA, hb, (blk_cell hg (i * 2)).trans (Array.getElem?_eq_getElem (by omega)), blk_frozen hg _, fun x => (blk_cell (h1 x) (i * 2 + 1)).trans ?_, fun x => blk_frozen (h1 x) _, fun x y => ⟨.inr ⟨g, _, hA, hb, h2 x y, by simp; omega⟩, ?_⟩⟩
    · rw [Array.getElem?_setIfInBounds_ne (by omega)]; exact Array.getElem?_eq_getElem (by omega)
    · exact (rd_below_set (b := g) hb (i * 2) x).trans (rd_below_set (b := g) hb (i * 2 + 1) y)
def ZInv (ps : List (Nat × Obj)) (most : Nat) (l : List Int) (w : World) (base b : Nat) (wr : World) : Prop := SInv ps most l w base b l.length wr ∨ EInv ps most l w base b wr
abbrev LastS (ps : List (Nat × Obj)) (most : Nat) (l : List Int) (w : World) (base b g : Nat) (A : Option Addr) (n cc : Nat) (Y : Int) (w' : World) : Prop :=
  EInv ps most l w base b w' ∧ w'.cell? ⟨g, 0, none⟩ = some (.slice A n cc) ∧ w'.cell? ⟨g, 1, none⟩ = some (.int .i64 Y)
theorem last_calls {ps : List (Nat × Obj)} {most : Nat} {l : List Int} {w : World} {base b g : Nat} {A : Option Addr} {cc : Nat} {F : List S42} {Y T : Int} (hg : (g, (Obj.cells #[.slice A F.length cc, .int .i64 Y, .int .i64 T] 30 (0, 0))) ∈ ps) (hF : (ofR l most).1 = F)
    (hRC : ∀ wX, EInv ps most l w base b wX → Kd.C k42 wX A F.length F ∧ F.length ≤ cc) (hl : F.length ≤ 9223372036854775807) :
    (∀ wr, LastS ps most l w base b g A F.length cc Y wr → Calls Try.prog 36 #[.pointer (some ⟨b, 0, none⟩)] wr fun e w' => ∃ A' c', e = .returned (.slice A' F.length c') ∧ LastS ps most l w base b g A F.length cc Y w' ∧ (Kd.C k42 w' A' F.length F ∧ F.length ≤ c')) ∧
    (∀ A' c' wr, LastS ps most l w base b g A F.length cc Y wr → (Kd.C k42 wr A' F.length F ∧ F.length ≤ c') → Calls Try.prog 24 #[.slice A' F.length c', .slice A F.length cc] wr fun e w' => e = .returned (.bool true) ∧ LastS ps most l w base b g A F.length cc Y w') ∧
    (∀ wr, LastS ps most l w base b g A F.length cc Y wr → Calls Try.prog 22 #[] wr fun e w' => e = .returned (.bool true) ∧ LastS ps most l w base b g A F.length cc Y w') := by
  have key : ∀ w', EInv ps most l w base b w' → LastS ps most l w base b g A F.length cc Y w' := fun w' h => ⟨h, (blk_cell (h.pr _ hg) 0).trans rfl, (blk_cell (h.pr _ hg) 1).trans rfl⟩
  refine ⟨fun wr h => ?_, fun A' c' wr h hC => ?_, fun wr h => ?_⟩
  · refine (step_fields2 h.1).mono ?_
    rintro e w' ⟨v', rfl, hO, hB, hE⟩
    rw [hF] at hO
    obtain ⟨A', c', rfl⟩ := hO.form
    have r := Kd.R_reads' (hO.toR (fun _ => True) (fun _ _ => trivial))
    exact ⟨A', c', rfl, key _ hE, r.2.2, r.2.1⟩
  · refine (same_calls F A' A c' cc wr hC (hRC wr h.1) hl).mono ?_
    rintro e w' ⟨rfl, hB⟩
    exact ⟨rfl, key _ (h.1.below hB)⟩
  · refine (winklelaw12_awake.calls true wr rfl).mono ?_
    rintro e w' ⟨rfl, hB⟩
    exact ⟨rfl, key _ (h.1.below hB)⟩
theorem step_endZ {ps : List (Nat × Obj)} {most : Nat} {l : List Int} {w : World} {base b g : Nat} {A : Value} {Y T : Int} (hm : most ≤ 65536) (hg : (g, (Obj.cells #[A, .int .i64 Y, .int .i64 T] 30 (0, 0))) ∈ ps) (hY : (ofR l most).2.1 = Y) (wr : World) (h : ZInv ps most l w base b wr) :
    Calls Try.prog 37 #[.pointer (some ⟨b, 0, none⟩)] wr fun e w' => e = .returned (.int .i64 Y) ∧ (ZInv ps most l w base b w' ∧ w'.cell? ⟨g, 1, none⟩ = some (.int .i64 Y)) ∧ EInv ps most l w base b w' := by
  have key : ∀ w', EInv ps most l w base b w' → w'.cell? ⟨g, 1, none⟩ = some (.int .i64 Y) := fun w' h => (blk_cell (h.pr _ hg) 1).trans rfl
  rcases h with h | h
  · refine (step_end hm h).mono ?_
    rintro e w' ⟨rfl, h'⟩
    exact ⟨by rw [hY], ⟨.inr h', key _ h'⟩, h'⟩
  · refine (step_end2 h).mono ?_
    rintro e w' ⟨rfl, h'⟩
    exact ⟨by rw [hY], ⟨.inr h', key _ h'⟩, h'⟩
/-- The reader, beside a row and a box that came later. -/
theorem two_rd {w2 w3 : World} {base b : Nat} {most n : Int} {vl vf v : Value} {L : List Int} {fs F : List S42} {d : Bool} {why : Int} {o : Obj} (hR : RdAt w2 base b most n vl L vf fs d why) (hO : OwnF w3 w2.heap.size v F) (hb : Below w2.heap.size w2 w3) :
    RdQ ((w3.heap.size, o) :: psO w3 v) (w3.alloc o) base b most n vl L vf fs d why := by
  have h3 := hR.below hb
  have h4 := h3.below ((Below.refl _ w3).alloc (Nat.le_refl _) o)
  refine .of h4 (fun x hx => ?_)
  have hsz := hb.size
  rcases List.mem_cons.1 hx with rfl | hx
  · have l1 := hR.lt
    exact ⟨heap_alloc_new w3 o, by show w3.heap.size ≠ b; omega, (fun e => by have := own_lt hR.2.2.1 _ e; simp at this; omega), (fun e => by have := own_lt hR.2.2.2 _ e; simp at this; omega)⟩
  · obtain ⟨e1, e2⟩ := psO_mem hx
    have l2 := hO.lt _ e1
    have l1 := hR.lt
    exact ⟨((Below.refl _ w3).alloc (Nat.le_refl _) o).block x.1 l2.2 ▸ e2, by omega, (fun e => by have := own_lt hR.2.2.1 _ e; omega), (fun e => by have := own_lt hR.2.2.2 _ e; omega)⟩
set_option maxHeartbeats 40000000 in
set_option maxRecDepth 100000 in
theorem steps_walk (A0 : Option Addr) (c0 : Nat) (l : List Int) (m : Nat) (A2 : Option Addr) (c2 : Nat) (l2 : List Int) (w : World) (hr0 : Kd.C (Kd.int .u8) w A0 l.length l) (hc0 : l.length ≤ c0) (hr2 : Kd.C (Kd.int .u8) w A2 l2.length l2) (hm : m ≤ 65535) :
    Calls Try.prog 8 #[.slice A0 l.length c0, .int .u16 (m : Int), .slice A2 l2.length c2] w fun e w' => e = .returned (.bool true) ∧ Below w.heap.size w w' := by
  have HC0 := Lib.hid hr0
  have HC2 := Lib.hid hr2
  have HCC := Lib.hid hc0
  have hmx := Kd.C_max hr0
  have hmx2 := Kd.C_max hr2
  have HM := Lib.hid (show m + 1 ≤ 65536 by omega)
  have HNEW := Lib.hid (new_ok (m + 1) w (by omega) (by omega))
  have hw1 : IntKind.i64.wrap (m : Int) = (m : Int) := IntWalk.i64_in _ (by omega)
  have hw2 : IntKind.i64.wrap ((m : Int) + 1) = (m : Int) + 1 := IntWalk.i64_in _ (by omega)
  clear hr0 hr2 hc0
  go_enter Try.func8, Try.ntmps8
  go_wp2_with (fail)
  refine HNEW.out.mono ?_
  rintro e w1 ⟨b, vl, vf, rfl, hR, hB⟩
  have HI0 : Hid (SInv [] (m + 1) l2 w w.heap.size b 0 w1) := Lib.hid (start_inv (.of hR (pr_nil _ _ _ _)) hB)
  clear hR hB HNEW hw1 hw2
  go_wp2_with (fail)
  go_loopw [10] (fun v wr => ∃ k : Nat, v = .int .i64 (k : Int) ∧ k ≤ l2.length ∧ Hid (SInv [] (m + 1) l2 w w.heap.size b k wr)) (fun v _ => l2.length - (intOf v).toNat)
  case atStart => exact ⟨0, rfl, Nat.zero_le _, HI0⟩
  case round =>
    obtain ⟨k, rfl, hk, HI⟩ := hrel
    clear HI0
    by_cases hlt : k < l2.length
    · obtain ⟨_, _, _, _, _, _, _, _, hB⟩ := HI.out.rd
      obtain ⟨ad, rfl, hcell0⟩ := Kd.at_int HC2.out (k : Int) (by omega) (by omega)
      have hcell := (hB.cell (World.block_lt_of_cell? w _ hcell0)).trans hcell0
      clear hcell0 hB
      have hrd : rd l2 (k : Int) = l2[k] := by simp [rd, List.getD_eq_getElem?_getD, hlt]
      rw [hrd, Int.toNat_natCast] at hcell
      have hti : (k : Int) < (l2.length : Int) := by omega
      have hti0 : (0 : Int) ≤ (k : Int) := by omega
      have hw1 : IntKind.i64.wrap ((k : Int) + 1) = (k : Int) + 1 := IntWalk.i64_in _ (by omega)
      clear hrd
      have HP := Lib.hid (step_put HM.out hlt HI.out)
      clear HI
      generalize hx : l2[k] = x at *
      clear hx
      go_wp2_with (fail)
      refine HP.out.mono ?_
      rintro e w2 ⟨rfl, hI⟩
      have HI2 := Lib.hid hI
      clear hI HP
      go_wp2
      go_roundw
      case rel => exact ⟨k + 1, by go_num, by omega, HI2⟩
      case measure => simp [intOf]; omega
    · obtain ⟨n, vl, L, vf, fs, d, why, hR, hB⟩ := HI.out.rd
      have HRS := Lib.hid (PAll.reset_calls w.heap.size b _ n vl L vf fs d why wr hR.rd)
      have HB := Lib.hid hB
      clear hR hB HI
      go_wp2_with (fail)
      refine HRS.out.mono ?_
      rintro e w2 ⟨rfl, ⟨vl', vf', hR⟩, hB2⟩
      have HR := Lib.hid hR
      have HB2 := Lib.hid (HB.out.trans hB2)
      obtain ⟨F, Y, T, hF⟩ : ∃ F Y T, ofR l ((m + 1 : Nat) : Int) = (F, Y, T) := ⟨_, _, _, rfl⟩
      have HOF0 := of_walk A0 c0 l ((m + 1 : Nat) : Int) w2 (Kd.C_below HC0.out HB2.out) HCC.out
      rw [hF] at HOF0
      have HOF := Lib.hid HOF0
      have HF := Lib.hid hF
      clear hR hB2 HB HRS HOF0 hF
      go_wp2_with (fail)
      refine HOF.out.mono ?_
      rintro e w3 ⟨v0, rfl, hO, hB3⟩
      obtain ⟨A, cc, rfl⟩ := hO.form
      have hQ := two_rd (o := .cells #[.slice A F.length cc, .int .i64 Y, .int .i64 T] 30 (0, 0)) HR.out hO hB3
      have HO := Lib.hid hO
      have HI0 : Hid (SInv _ (m + 1) l w w.heap.size b 0 _) := Lib.hid (start_inv hQ ((HB2.out.trans (hB3.mono HB2.out.size)).alloc (Nat.le_trans HB2.out.size hB3.size) _))
      have HBX := Lib.hid (show (w3.heap.size, (Obj.cells #[.slice A F.length cc, .int .i64 Y, .int .i64 T] 30 (0, 0))) ∈ ((w3.heap.size, (Obj.cells #[.slice A F.length cc, .int .i64 Y, .int .i64 T] 30 (0, 0))) :: psO w3 (.slice A F.length cc)) from List.mem_cons_self)
      have HPS := Lib.hid (show ∀ x ∈ psO w3 (.slice A F.length cc), x ∈ ((w3.heap.size, (Obj.cells #[.slice A F.length cc, .int .i64 Y, .int .i64 T] 30 (0, 0))) :: psO w3 (.slice A F.length cc)) from fun x hx => List.mem_cons_of_mem _ hx)
      clear hQ hO hB3 HOF HR
      go_wp2_with (fail)
      generalize ((w3.heap.size, (Obj.cells #[.slice A F.length cc, .int .i64 Y, .int .i64 T] 30 (0, 0))) :: psO w3 (.slice A F.length cc)) = ps at *
      generalize w3.alloc (.cells #[.slice A F.length cc, .int .i64 Y, .int .i64 T] 30 (0, 0)) = w4 at *
      generalize w3.heap.size = g at *
      have hmm : m ≤ 65535 := hm
      go_loopw [12] (fun v wr => ∃ i : Nat, v = .int .i64 (i : Int) ∧ i ≤ l.length ∧ Hid (SInv ps (m + 1) l w w.heap.size b i wr)) (fun v _ => l.length - (intOf v).toNat)
      case atStart => exact ⟨0, rfl, Nat.zero_le _, HI0⟩
      case round =>
        obtain ⟨i, rfl, hil, HI⟩ := hrel
        clear HI0 HB2
        by_cases hlt : i < l.length
        · obtain ⟨_, _, _, _, _, _, _, _, hB⟩ := HI.out.rd
          obtain ⟨ad, rfl, hcell0⟩ := Kd.at_int HC0.out (i : Int) (by omega) (by omega)
          have hcell := (hB.cell (World.block_lt_of_cell? w _ hcell0)).trans hcell0
          clear hcell0 hB
          have hrd : rd l (i : Int) = l[i] := by simp [rd, List.getD_eq_getElem?_getD, hlt]
          rw [hrd, Int.toNat_natCast] at hcell
          have hti : (i : Int) < (l.length : Int) := by omega
          have hti0 : (0 : Int) ≤ (i : Int) := by omega
          have hw1 : IntKind.i64.wrap ((i : Int) + 1) = (i : Int) + 1 := IntWalk.i64_in _ (by omega)
          clear hrd
          have HP := Lib.hid (step_put HM.out hlt HI.out)
          have HD : Hid (dnR l (m + 1) i = (decide (T ≤ (i : Int)) && decide (Y = 0)) ∧ wyR l (m + 1) i = if T ≤ (i : Int) then Y else 0) := Lib.hid (by unfold dnR wyR; rw [HF.out]; exact ⟨rfl, rfl⟩)
          clear HI
          generalize hx : l[i] = x at *
          clear hx
          go_wp2_with (fail)
          refine HP.out.mono ?_
          rintro e w5 ⟨rfl, hI⟩
          have hbx := hI.pr _ HBX.out
          have z1 : w5.cell? ⟨g, 1, none⟩ = some (.int .i64 Y) := (blk_cell hbx 1).trans rfl
          have z2 : w5.cell? ⟨g, 2, none⟩ = some (.int .i64 T) := (blk_cell hbx 2).trans rfl
          have HFL := Lib.hid (fun hd => step_fields hI hd)
          have HI2 := Lib.hid hI
          clear hI HP hbx
          rw [HD.out.1, HD.out.2]
          rw [HD.out.1] at HFL
          clear HD
          by_cases q1 : T ≤ (i : Int)
          · rw [if_pos q1, decide_eq_true q1] at *
            by_cases q2 : Y = 0
            · subst q2
              clear HFL
              go_wp2_with (fail)
              go_roundw
              case rel => exact ⟨i + 1, by go_num, by omega, HI2⟩
              case measure => simp [intOf]; omega
            · rw [decide_eq_false q2] at *
              have t1 : (Y == 0) = false := beq_eq_false_iff_ne.2 q2
              go_wp2_with (fail)
              refine (HFL.out rfl).mono ?_
              rintro e w6 ⟨rfl, hI⟩
              have HI3 := Lib.hid hI
              clear hI HFL HI2
              go_wp2
              go_roundw
              case rel => exact ⟨i + 1, by go_num, by omega, HI3⟩
              case measure => simp [intOf]; omega
          · rw [if_neg q1, decide_eq_false q1] at *
            go_wp2_with (fail)
            refine (HFL.out rfl).mono ?_
            rintro e w6 ⟨rfl, hI⟩
            have HI3 := Lib.hid hI
            clear hI HFL HI2
            go_wp2
            go_roundw
            case rel => exact ⟨i + 1, by go_num, by omega, HI3⟩
            case measure => simp [intOf]; omega
        · have e : i = l.length := by omega
          subst e
          have HZ := Lib.hid (fun (wr' : World) (h : ZInv ps (m + 1) l w w.heap.size b wr') => step_endZ (A := .slice A F.length cc) (T := T) HM.out HBX.out (by rw [HF.out]) wr' h)
          have hbx := HI.out.pr _ HBX.out
          have z1 : wr.cell? ⟨g, 1, none⟩ = some (.int .i64 Y) := (blk_cell hbx 1).trans rfl
          have HS0 := Lib.hid (show ZInv ps (m + 1) l w w.heap.size b wr.drew ∧ wr.drew.cell? ⟨g, 1, none⟩ = some (.int .i64 Y) from ⟨.inl (HI.out.below (Below.refl _ _).drew), z1⟩)
          clear HI hbx
          go_wp2_with (fail)
          go_region_held3 (fun w' => ZInv ps (m + 1) l w w.heap.size b w' ∧ w'.cell? ⟨g, 1, none⟩ = some (.int .i64 Y)) (first | exact HS0.out | assumption) (first | (go_at_call 37; refine (HZ.out _ (And.left (by assumption))).mono ?_; rintro e w' ⟨rfl, hS, hE⟩))
          clear HS0 HZ z1
          have hbx := hE.pr _ HBX.out
          have HRC := Lib.hid (fun (wX : World) (h : EInv ps (m + 1) l w w.heap.size b wX) => own_read (wX := wX) HO.out (fun x hx => h.pr x (HPS.out x hx)))
          have HFd := Lib.hid (step_fields2 hE)
          have HE := Lib.hid hE
          clear hE hbx hS
          go_wp2_with (fail)
          refine HFd.out.mono ?_
          rintro e w6 ⟨v6, rfl, hO6, hB6, hE6⟩
          rw [HF.out] at hO6
          obtain ⟨A6, c6, rfl⟩ := hO6.form
          have hbx := hE6.pr _ HBX.out
          have z0 : w6.cell? ⟨g, 0, none⟩ = some (.slice A F.length cc) := (blk_cell hbx 0).trans rfl
          have r6 := Kd.R_reads' (hO6.toR (fun _ => True) (fun _ _ => trivial))
          have HSC := Lib.hid (same_calls F A6 A c6 cc w6 ⟨r6.2.2, r6.2.1⟩ (HRC.out w6 hE6) (Kd.C_max r6.2.2))
          have hFl := Kd.C_max r6.2.2
          have HO6 := Lib.hid hO6
          have HB6 := Lib.hid hB6
          clear hO6 hB6 hE6 HFd hbx r6
          go_wp2_with (fail)
          refine HSC.out.mono ?_
          rintro e w7 ⟨rfl, hB7⟩
          have HB7 := Lib.hid (HB6.out.trans (hB7.mono HB6.out.size))
          have HO7 := Lib.hid (HO6.out.below hB7)
          clear hB7 HSC HO6 HB6 z0
          go_wp2_with (fail)
          have HK7 : Hid (OvB F.length A6 w'.heap.size w7) := Lib.hid (ovB_of HO7.out)
          clear HO7
          go_loopw [17] (fun v wr => ∃ i : Nat, v = .int .i64 (i : Int) ∧ i ≤ F.length ∧ Hid (Below w'.heap.size w' wr) ∧ Hid (OvB F.length A6 w'.heap.size wr)) (fun v _ => F.length - (intOf v).toNat)
          case atStart => exact ⟨0, rfl, Nat.zero_le _, HB7, HK7⟩
          case round =>
            obtain ⟨i, rfl, hiF, HBr, HKr⟩ := hrel
            clear HB7 HK7
            by_cases hltF : i < F.length
            · obtain ⟨gf, u0_, u1_, rfl, hgf, k0, f0, k1, f1, hon⟩ := HKr.out.at_ hltF
              have HON := Lib.hid hon
              have hti : (i : Int) < (F.length : Int) := by omega
              have hti0 : (0 : Int) ≤ (i : Int) := by omega
              have hw1 : IntKind.i64.wrap ((i : Int) + 1) = (i : Int) + 1 := IntWalk.i64_in _ (by omega)
              clear hon
              go_wp2_with (fail)
              have hnx := HON.out (.string ⟨#[]⟩) (.string ⟨#[]⟩)
              have HBn := Lib.hid (HBr.out.trans hnx.2)
              have HKn := Lib.hid hnx.1
              clear hnx HON HBr HKr
              go_roundw
              case rel => exact ⟨i + 1, by go_num, by omega, HBn, HKn⟩
              case measure => simp [intOf]; omega
            · have e : i = F.length := by omega
              subst e
              have HE7 := Lib.hid (HE.out.below HBr.out)
              clear HE HBr HKr
              have HP2 := Lib.hid (step_put2 120 HE7.out)
              go_wp2_with (fail)
              refine HP2.out.mono ?_
              rintro e w8 ⟨rfl, hE8⟩
              rw [HF.out]
              have HE8 := Lib.hid hE8
              have hbx := hE8.pr _ HBX.out
              have HZZ := Lib.hid (last_calls (T := T) HBX.out (by rw [HF.out]) HRC.out hFl)
              have HS0 := Lib.hid (show LastS ps (m + 1) l w w.heap.size b g A F.length cc Y w8.drew from ⟨hE8.below (Below.refl _ _).drew, (blk_cell hbx 0).trans rfl, (blk_cell hbx 1).trans rfl⟩)
              have hfin : ∀ W, LastS ps (m + 1) l w w.heap.size b g A F.length cc Y W → Below w.heap.size w W := fun W h => h.1.1
              clear hE8 HP2 HE7 hbx
              by_cases hY : Y = 0
              · subst hY
                go_wp2_with (fail)
                go_region_held3 (fun w' => EInv ps (m + 1) l w w.heap.size b w' ∧ w'.cell? ⟨g, 0, none⟩ = some (.slice A F.length cc) ∧ w'.cell? ⟨g, 1, none⟩ = some (.int .i64 0)) (first | exact HS0.out | assumption) (first | (go_at_call 36; refine (HZZ.out.1 _ (by assumption)).mono ?_; rintro e w' ⟨A', c', rfl, hS, hC⟩) | (go_at_call 24; refine (HZZ.out.2.1 _ _ _ (by assumption) (by assumption)).mono ?_; rintro e w' ⟨rfl, hS⟩) | (go_at_call 22; refine (HZZ.out.2.2 _ (by assumption)).mono ?_; rintro e w' ⟨rfl, hS⟩))
                all_goals go_wp2
                all_goals go_ret
                all_goals exact ⟨rfl, hfin _ (by assumption)⟩
              · have t1 : (Y == 0) = false := beq_eq_false_iff_ne.2 hY
                have t2 : decide (Y = 0) = false := decide_eq_false hY
                go_wp2_with (fail)
                go_region_held3 (fun w' => EInv ps (m + 1) l w w.heap.size b w' ∧ w'.cell? ⟨g, 0, none⟩ = some (.slice A F.length cc) ∧ w'.cell? ⟨g, 1, none⟩ = some (.int .i64 Y)) (first | exact HS0.out | assumption) (first | (go_at_call 36; refine (HZZ.out.1 _ (by assumption)).mono ?_; rintro e w' ⟨A', c', rfl, hS, hC⟩) | (go_at_call 24; refine (HZZ.out.2.1 _ _ _ (by assumption) (by assumption)).mono ?_; rintro e w' ⟨rfl, hS⟩) | (go_at_call 22; refine (HZZ.out.2.2 _ (by assumption)).mono ?_; rintro e w' ⟨rfl, hS⟩))
                all_goals go_wp2
                all_goals go_ret
                all_goals exact ⟨rfl, hfin _ (by assumption)⟩
end Go.Proofs.Ytodidfdfbanliaa.PAll.Fq
