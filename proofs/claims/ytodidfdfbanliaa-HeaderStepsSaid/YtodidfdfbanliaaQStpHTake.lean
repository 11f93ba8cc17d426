/- A header's reader: take. -/
import Derived.Lib.SliceRun
import Derived.Deep.RegionHeld3
import Derived.Deep.AppendLies
import Derived.Deep.DrawnRows
import Derived.StillTailTactics
import Derived.Test.YtodidfdfbanliaaQStpHFinish
set_option linter.unusedVariables false
set_option linter.unusedSimpArgs false
namespace Go.Proofs.Ytodidfdfbanliaa.PAll
open Go.RowKit Go.Proofs.YtodidfdfbanliaaW.PrintWords Go.Proofs.YtodidfdfbanliaaW.PrintLast
theorem header_colon.l0_ev (s : ByteArray) (hs : s.size ≤ 9223372036854775807) (d : Nat) : ∀ i : Nat, i ≤ s.size → s.size - i = d → (∀ j (hj : j < s.size), j < i → okName s[j] = true) →
    ∃ r : Int, Ev (fun k => header_colon.l0 k s (i : Int)) r ∧ (nameL s.data.toList = 0 → r < 1) ∧ (nameL s.data.toList ≠ 0 → r = (nameL s.data.toList : Int)) := by
  induction d with
  | zero =>
    intro i hi hd ha
    have e : nameL s.data.toList = 0 := by
      rw [nameL_of s i hi ha (fun hn => by omega), List.getElem?_eq_none (by simp; omega)]; simp
    refine ⟨-1, Ev.step (f := fun _ => some (-1)) (fun k => ?_) (Ev.now _), fun _ => by omega, fun h => absurd e h⟩
    simp only [header_colon.l0]; rw [if_neg (by omega)]
  | succ d ih =>
    intro i hi hd ha
    have hlt : i < s.size := by omega
    have hok := okName_int s[i]
    have hat : s.data.toList[i]? = some s[i] := by rw [List.getElem?_eq_getElem (by simpa using hlt)]; rfl
    have h58 : ((s[i].toNat : Int) = 58) ↔ s[i] = 58 := u8_ofInt s[i] 58
    by_cases h : okName s[i] = true
    · obtain ⟨r, hr, hr2⟩ := ih (i + 1) (by omega) (by omega) (fun j hj hji => by
        rcases Nat.lt_or_ge j i with h2 | h2
        · exact ha j hj h2
        · obtain rfl : j = i := by omega
          exact h)
      refine ⟨r, Ev.step (f := fun k => header_colon.l0 k s ((i + 1 : Nat) : Int)) (fun k => ?_) hr, hr2⟩
      rw [h] at hok
      simp only [Bool.true_eq, Bool.and_eq_true, decide_eq_true_eq] at hok
      simp only [header_colon.l0]
      rw [if_pos (by omega), if_pos (by omega), bt_nat s i hlt, if_neg hok.2, if_neg (by omega), if_neg (by omega), wrap_succ i s.size hlt (by omega)]
    · have hf : okName s[i] = false := by simpa using h
      have hn := nameL_of s i hi ha (fun _ => hf)
      rw [hat] at hn
      rw [hf] at hok
      have h2 := hok.symm
      simp only [Bool.and_eq_false_iff, decide_eq_false_iff_not] at h2
      by_cases c58 : (s[i].toNat : Int) = 58
      · rw [if_pos (by rw [h58.1 c58])] at hn
        refine ⟨(i : Int), Ev.step (f := fun _ => some (i : Int)) (fun k => ?_) (Ev.now _), fun e => by omega, fun _ => by rw [hn]⟩
        simp only [header_colon.l0]
        rw [if_pos (by omega), if_pos (by omega), bt_nat s i hlt, if_pos c58]
      · rw [if_neg (by intro e; injection e with e; exact c58 (h58.2 e))] at hn
        refine ⟨-1, Ev.step (f := fun _ => some (-1)) (fun k => ?_) (Ev.now _), fun _ => by omega, fun e => absurd hn e⟩
        simp only [header_colon.l0]
        rw [if_pos (by omega), if_pos (by omega), bt_nat s i hlt, if_neg c58]
        by_cases c33 : (s[i].toNat : Int) < 33
        · rw [if_pos c33]
        · rw [if_neg c33, if_pos (by omega)]
theorem colon_none (s : ByteArray) (hs : s.size ≤ 9223372036854775807) (h : nameL s.data.toList = 0) : ∃ r : Int, r < 1 ∧ ∀ w, Calls Try.prog 89 #[.string s] w fun e w' => e = .returned (.int .i64 r) ∧ Drawn0 w w' := by
  obtain ⟨r, hr, h0, _⟩ := header_colon.l0_ev s hs s.size 0 (by omega) (by omega) (fun j hj h => by omega)
  obtain ⟨k, hk⟩ := hr.rounds
  exact ⟨r, h0 h, fun w => header_colon.calls k s _ w hk⟩
theorem colon_some (s : ByteArray) (hs : s.size ≤ 9223372036854775807) (h : nameL s.data.toList ≠ 0) : ∀ w, Calls Try.prog 89 #[.string s] w fun e w' => e = .returned (.int .i64 (nameL s.data.toList : Int)) ∧ Drawn0 w w' := by
  obtain ⟨r, hr, _, h0⟩ := header_colon.l0_ev s hs s.size 0 (by omega) (by omega) (fun j hj h => by omega)
  obtain ⟨k, hk⟩ := hr.rounds
  intro w
  have := header_colon.calls k s _ w hk
  rw [h0 h] at this
  exact this
theorem below_setCells_rd {B g : Nat} (hg : B ≤ g) : ∀ (vs : List Value) (o : Nat) (w : World), Below B w (w.setCells g o vs)
  | [], _, w => Below.refl _ w
  | v :: vs, o, w => ((Below.refl B w).setCell (p := ⟨g, o, none⟩) hg v).trans (below_setCells_rd hg vs (o + 1) _)
theorem heap_setCells (g : Nat) : ∀ (vs : List Value) (o : Nat) (w : World) (cur : Array Value) (t : TypeId) (fr : Nat × Nat), w.heap[g]? = some (.cells cur t fr) →
    ∃ cur' : Array Value, cur'.size = cur.size ∧ (w.setCells g o vs).heap[g]? = some (.cells cur' t fr) ∧ ∀ k, k ≠ g → (w.setCells g o vs).heap[k]? = w.heap[k]? := by
  intro vs
  induction vs with
  | nil => intro o w cur t fr h; exact ⟨cur, rfl, h, fun _ _ => rfl⟩
  | cons v vs ih =>
    intro o w cur t fr h
    have h1 : (w.setCell ⟨g, o, none⟩ v).heap[g]? = some (.cells (cur.setIfInBounds o v) t fr) := by simp [World.setCell, Array.getElem?_modify, h]
    obtain ⟨cur', hs, hg, hk⟩ := ih (o + 1) _ _ _ _ h1
    exact ⟨cur', by rw [hs]; simp, hg, fun k hne => (hk k hne).trans (Below.heap_setCell _ _ _ _ hne)⟩
section
variable {w w1 : World} {base b : Nat} {most n : Int} {vl vf : Value} {L : List Int} {fs : List S42} {d : Bool} {why : Int}
theorem owns_turn {e : TypeId} {size m : Nat} {v : Value} {xs : List Value} {g : Nat} (h : w.ownsRow base e size v m xs) (hs : w.heap.size ≤ w1.heap.size) (hk : ∀ k, k ≠ g → w1.heap[k]? = w.heap[k]?) (hne : v.ownBlock ≠ some g) : w1.ownsRow base e size v m xs := by
  refine ⟨h.1, ?_⟩
  rcases h.2 with h2 | ⟨g', cap, cur, hv, hb, hg, hn, hm, hc, ht⟩
  · exact .inl h2
  · refine .inr ⟨g', cap, cur, hv, hb, ?_, hn, hm, hc, ht⟩
    rw [hk g' (fun e => hne (by rw [hv, e]; rfl))]; exact hg
theorem take_pre (hR : RdAt w base b most n vl L vf fs d why) (hL : L ≠ []) : ∃ g c wc, vl = .slice (some ⟨g, 0, none⟩) L.length c ∧ L.length ≤ c ∧ (∀ ty, (Builtin.clear_ #[22] ty #[vl]).run Try.prog w = .ok (.tuple #[]) wc) ∧
    wc.cell? ⟨b, 2, none⟩ = some vl ∧ wc.frozen? ⟨b, 2, none⟩ = false ∧
    RdAt (wc.setCell ⟨b, 2, none⟩ (.slice (some ⟨g, 0, none⟩) 0 c)) base b most n (.slice (some ⟨g, 0, none⟩) 0 c) [] vf fs d why ∧ Below base w (wc.setCell ⟨b, 2, none⟩ (.slice (some ⟨g, 0, none⟩) 0 c)) := by
  have hpos : 0 < L.length := by cases L with | nil => exact absurd rfl hL | cons _ _ => simp
  rcases hR.2.2.1.2 with ⟨_, h0⟩ | ⟨g, c, cur, hv, hb, hg, hn, hm, hc, ht⟩
  · omega
  · have hcl : ∀ j, j < L.length → (w.cell? ⟨g, 0 + j, none⟩).isSome = true := by
      intro j hj
      have : j < cur.size := by omega
      simp [World.cell?, hg, this]
    have hfz : ∀ j, j < L.length → w.frozen? ⟨g, 0 + j, none⟩ = false := by intro j hj; simp [World.frozen?, hg]
    obtain ⟨cur', hs', hg', hk'⟩ := heap_setCells g (List.replicate L.length (.int .u8 0)) 0 w cur 5 (0, 0) hg
    have hsz : w.heap.size ≤ (w.setCells g 0 (List.replicate L.length (.int .u8 0))).heap.size := (below_setCells_rd (B := 0) (Nat.zero_le _) _ 0 w).size
    have hbel : Below base w (w.setCells g 0 (List.replicate L.length (.int .u8 0))) := below_setCells_rd hb _ 0 w
    have hgb : b ≠ g := by
      rintro rfl
      have := hR.2.1
      rw [hg] at this
      injection this with this
      injection this with _ e2
      exact absurd e2 (by decide)
    have hwb : (w.setCells g 0 (List.replicate L.length (.int .u8 0))).heap[b]? = some (.cells #[.int .i64 most, .int .i64 n, vl, vf, .bool d, .int .i64 why] 83 (0, 0)) := (hk' b hgb).trans hR.2.1
    have hvf : vf.ownBlock ≠ some g := hR.2.2.2.ne hg (fun cs fr e => by injection e with _ e2; exact absurd e2 (by decide))
    have hR2 : RdAt (w.setCells g 0 (List.replicate L.length (.int .u8 0))) base b most n vl L vf fs d why ∨ True := .inr trivial
    refine ⟨g, c, _, hv, by omega, fun ty => ?_, ?_, ?_, ?_, hbel.trans (rd_below_set hR.1 2 _)⟩
    · rw [hv]
      exact Lib.run_clear_slice w 22 5 ty (.int .u8 0) Try.underlying22 (fun w => by kernel_rfl) rfl rfl g 0 L.length c hpos hcl hfz
    · simp [World.cell?, hwb]
    · simp [World.frozen?, hwb]
    · have hl0 : OwnL (w.setCells g 0 (List.replicate L.length (.int .u8 0))) base (.slice (some ⟨g, 0, none⟩) 0 c) [] := owns_start hb hg' hm (by rw [hs']; exact hc)
      have hf0 : OwnF (w.setCells g 0 (List.replicate L.length (.int .u8 0))) base vf fs := owns_turn hR.2.2.2 hsz hk' hvf
      have hne : (Value.slice (some ⟨g, 0, none⟩) 0 c).ownBlock ≠ some b := fun e => hgb (by simpa [Value.ownBlock] using e.symm)
      have hnf : vf.ownBlock ≠ some b := hR.neF
      refine ⟨hR.1, ?_, hl0.setOther hne 2 _, hf0.setOther hnf 2 _⟩
      simp [World.setCell, Array.getElem?_modify, hwb]
theorem rd_app_block {o : Obj} (h : RdAt w base b most n vl L vf fs d why) (hg : (w.drew.alloc o).grownBy w1 vf.ownBlock) : w1.heap[b]? = some (.cells #[.int .i64 most, .int .i64 n, vl, vf, .bool d, .int .i64 why] 83 (0, 0)) := by
  have hb : Below w.heap.size w (w.drew.alloc o) := (Below.refl _ w).drew.alloc (Nat.le_refl _) o
  rw [hg.block b (Nat.lt_of_lt_of_le h.lt hb.size) (fun e => h.neF e.symm), hb.block b h.lt]; exact h.2.1
theorem rd_app_end {f : S42} {o : Obj} {g cap : Nat} (h : RdAt w base b most n vl L vf fs d why) (hbs : base ≤ w.heap.size) (hg : (w.drew.alloc o).grownBy w1 vf.ownBlock) (hown : w1.ownsRow base 42 2 (.slice (some ⟨g, 0, none⟩) (fs.length + 1) cap) (fs.length + 1) (fcells fs ++ [.string f.f0, .string f.f1])) :
    RdAt (w1.setCell ⟨b, 3, none⟩ (.slice (some ⟨g, 0, none⟩) (fs.length + 1) cap)) base b most n vl L (.slice (some ⟨g, 0, none⟩) (fs.length + 1) cap) (fs ++ [f]) d why ∧ Below base w (w1.setCell ⟨b, 3, none⟩ (.slice (some ⟨g, 0, none⟩) (fs.length + 1) cap)) := by
  have hblk := rd_app_block h hg
  have hO : OwnF w1 base (.slice (some ⟨g, 0, none⟩) (fs.length + 1) cap) (fs ++ [f]) := by
    unfold OwnF; rw [fcells_snoc, List.length_append]; exact hown
  have hL : OwnL w1 base vl L := by
    have h1 : OwnL (w.drew.alloc o) base vl L := h.2.2.1.below ((Below.refl _ w).drew.alloc (Nat.le_refl _) o)
    refine h1.kept hg ?_
    cases hvl : vl.ownBlock with
    | none => exact .inl rfl
    | some k =>
      refine .inr (fun e => ?_)
      obtain ⟨c1, e1⟩ := own_typed h.2.2.1 k hvl
      obtain ⟨c2, e2⟩ := own_typed h.2.2.2 k e.symm
      rw [e1] at e2
      injection e2 with e2
      injection e2 with _ e3
      exact absurd e3 (by decide)
  have h2 : RdAt w1 base b most n vl L (.slice (some ⟨g, 0, none⟩) (fs.length + 1) cap) (fs ++ [f]) d why ∨ True := .inr trivial
  have hne : (Value.slice (some ⟨g, 0, none⟩) (fs.length + 1) cap).ownBlock ≠ some b := hO.ne hblk (fun cs fr e => by injection e with _ e2; exact absurd e2 (by decide))
  have hnl : vl.ownBlock ≠ some b := h.neL
  refine ⟨⟨h.1, ?_, hL.setOther hnl 3 _, hO.setOther hne 3 _⟩, ?_⟩
  · simp [World.setCell, Array.getElem?_modify, hblk]
  · have hb0 : Below base w (w.drew.alloc o) := (Below.refl _ w).drew.alloc hbs o
    exact (hb0.grown hg (by simp; omega) (fun k hk => (h.2.2.2.lt k hk).1)).setCell (p := ⟨b, 3, none⟩) h.1 _
theorem rd_more {g c m : Nat} (hm : fs.length = m + 1) (h : RdAt w base b most n vl L (.slice (some ⟨g, 0, none⟩) fs.length c) fs d why) (s : ByteArray) : RdAt (w.setCell ⟨g, m * 2 + 1, none⟩ (.string ((fs.getD (fs.length - 1) zS).f1 ++ s))) base b most n vl L (.slice (some ⟨g, 0, none⟩) fs.length c) (addLast fs s) d why := by
  obtain ⟨g', hA, _, _, _, hset⟩ := last_cells hm h.2.2.2
  have hgb : b ≠ g := fun e => h.neF (by simp [Value.ownBlock, e])
  obtain ⟨cells, hc⟩ := own_typed h.2.2.2 g (by simp [Value.ownBlock])
  injection hA with hA
  injection hA with hA
  subst hA
  refine ⟨h.1, ?_, h.2.2.1.setFar hc (by decide) _ _, ?_⟩
  · rw [Below.heap_setCell _ _ _ _ hgb]; exact h.2.1
  · have := hset ((fs.getD (fs.length - 1) zS).f1 ++ s)
    simp only [OwnF, addLast, List.length_set] at this ⊢
    exact this
end
theorem blank_calls (c : UInt8) (w : World) : Calls Try.prog 64 #[.int .u8 (c.toNat : Int)] w fun e w' => e = .returned (.bool (isBl c)) ∧ Drawn0 w w' := header_blank.calls _ _ w (blank_is c)
set_option maxHeartbeats 4000000 in
set_option maxRecDepth 100000 in
theorem take_calls (base b : Nat) (most n : Int) (vl : Value) (L : List Int) (vf : Value) (fs : List S42) (d : Bool) (w : World) (hL : L ≠ []) (hmx : L.length ≤ 9223372036854775807) (hR : RdAt w base b most n vl L vf fs d 0) (h64 : fs.length ≤ 64) (hsz : fs ≠ [] → (fs.getD (fs.length - 1) zS).f1.size + L.length ≤ 9223372036854775807) :
    Calls Try.prog 66 #[.pointer (some ⟨b, 0, none⟩)] w fun e w' => e = .returned (.tuple #[]) ∧ ∃ vl' vf', RdAt w' base b most n vl' [] vf' (lineR fs (strOfNums L)).1 d (lineR fs (strOfNums L)).2 ∧ Below base w w' := by
  have c2 := hR.cell2
  have hcv : (convert 22 9 vl).run Try.prog w = .ok (.string (strOfNums L)) w := own_string Try.underlying22 Try.underlying5 Try.underlying9 hR.2.2.1
  obtain ⟨g, c0, wc, hv, hlc, hclr, c2', f2', hR2, hB2⟩ := take_pre hR hL
  have hsl : ∀ W : World, (Instr.slice 22 vl none (some (.int .i64 0)) none).run Try.prog W = .ok (.slice (some ⟨g, 0, none⟩) 0 c0) W := by
    obtain ⟨i0, hi5, _, hsz5, _⟩ := info_parts info5
    rw [hv]; exact cut_to 22 5 .i64 Try.underlying22 hi5 _ _ _ 0 (by omega) (by omega) hlc
  have hss : (strOfNums L).size = L.length := strOfNums_size L
  have hs0 : 0 < (strOfNums L).size := by rw [hss]; cases L with | nil => exact absurd rfl hL | cons _ _ => simp
  rw [← hss] at hsz hmx
  have hbase : base ≤ w.heap.size := Nat.le_trans hR.1 (Nat.le_of_lt hR.lt)
  clear hR hv hss hL
  generalize strOfNums L = s at *
  have hi0 : (0 : Int) < (s.size : Int) := by omega
  have HK := Lib.hid (blank_calls s[0])
  have HR2 := Lib.hid hR2
  have HB2 := Lib.hid hB2
  have HFB := Lib.hid (firstBl_at s hs0)
  clear hR2 hB2
  go_enter Try.func66, Try.ntmps66
  go_wp2_with (fail)
  refine (HK.out _).mono ?_
  rintro e w' ⟨rfl, ⟨nd, rfl⟩⟩
  have HR3 := Lib.hid (HR2.out.drewN nd)
  have HB3 := Lib.hid (show Below base w ((wc.setCell ⟨b, 2, none⟩ (.slice (some ⟨g, 0, none⟩) 0 c0)).drewN nd) from pw_below_drewN HB2.out nd)
  have hfb := HFB.out
  clear HR2 HB2 HFB HK hclr c2' f2' hsl hcv c2
  generalize isBl s[0] = bb at *
  generalize hwq : (wc.setCell ⟨b, 2, none⟩ (.slice (some ⟨g, 0, none⟩) 0 c0)).drewN nd = wq at *
  clear hwq
  obtain ⟨A, c, hvf⟩ := HR3.out.2.2.2.form
  subst hvf
  have c3 := HR3.out.cell3
  have c5 := HR3.out.cell5
  have f5 := HR3.out.frozen 5
  have hbq : base ≤ wq.heap.size := Nat.le_trans HR3.out.1 (Nat.le_of_lt HR3.out.lt)
  have hbb : base ≤ b := HR3.out.1
  cases bb with
  | true =>
    by_cases hfs : fs = []
    · subst hfs
      have HE : Hid (lineR [] s = ([], 30)) := Lib.hid (by unfold lineR; rw [hfb]; rfl)
      clear hfb hsz h64
      have HW := Lib.hid (HR3.out.setWhy 30)
      clear HR3
      go_wp2
      first | go_end0 | refine bodyPost_ret (results_none rfl _ _ _) rfl ?_
      rw [HE.out]
      exact ⟨rfl, _, _, HW.out, HB3.out.trans (rd_below_set hbb 5 _)⟩
    · have HE : Hid (lineR fs s = (addLast fs s, 0)) := Lib.hid (by unfold lineR; rw [hfb, if_pos rfl, if_neg hfs])
      have hsz2 := hsz hfs
      obtain ⟨m, hm⟩ : ∃ m, fs.length = m + 1 := ⟨fs.length - 1, by have : fs.length ≠ 0 := fun e => hfs (List.eq_nil_of_length_eq_zero e); omega⟩
      obtain ⟨g2, rfl, k1, fz1, hmc, _⟩ := last_cells hm HR3.out.2.2.2
      have hbg : base ≤ g2 := (HR3.out.2.2.2.lt g2 (by simp [Value.ownBlock])).1
      have HG := Lib.hid (fun x (hx : x = (fs.getD (fs.length - 1) zS).f1 ++ s) => show RdAt (wq.drew.setCell ⟨g2, m * 2 + 1, none⟩ (.string x)) base b most n (.slice (some ⟨g, 0, none⟩) 0 c0) [] (.slice (some ⟨g2, 0, none⟩) fs.length c) (addLast fs s) d 0 ∧ Below base w (wq.drew.setCell ⟨g2, m * 2 + 1, none⟩ (.string x)) from by
        rw [hx]; exact ⟨rd_more hm HR3.out.drew s, HB3.out.drew.trans (rd_below_set hbg _ _)⟩)
      rw [hm] at c3
      clear HR3 HB3 hfs hsz hfb
      have hp1 : (0 : Int) ≤ (m : Int) := by omega
      have hw1 : IntKind.i64.wrap (m : Int) = (m : Int) := IntWalk.i64_in _ (by omega)
      have hw2 : IntKind.i64.wrap ((m : Int) + 1 - 1) = (m : Int) := by rw [show (m : Int) + 1 - 1 = (m : Int) from by omega]; exact hw1
      have hp2 : (m : Int) < (m : Int) + 1 := by omega
      generalize (fs.getD (fs.length - 1) zS).f1 = val at *
      have hsz3 : ¬ 9223372036854775807 < val.size + s.size := by omega
      go_wp2
      go_still_tail 17, (by kernel_rfl)
      change wpList _ _ _ _ _ wq.drew
      go_wp2
      first | go_end0 | refine bodyPost_ret (results_none rfl _ _ _) rfl ?_
      rw [HE.out]
      have := HG.out _ rfl
      exact ⟨rfl, _, _, this.1, this.2⟩
  | false =>
    by_cases hn : nameL s.data.toList = 0
    · have HE : Hid (lineR fs s = (fs, 30)) := Lib.hid (by unfold lineR; rw [hfb, if_neg (by simp), if_pos hn])
      obtain ⟨r, hr, hcol⟩ := colon_none s hmx hn
      have HC := Lib.hid hcol
      clear hcol hn hfb hsz
      go_wp2_with (fail)
      refine (HC.out _).mono ?_
      rintro e w' ⟨rfl, ⟨nd2, rfl⟩⟩
      have HW := Lib.hid ((HR3.out.drewN nd2).setWhy 30)
      have HB4 := Lib.hid (show Below base w (wq.drewN nd2) from pw_below_drewN HB3.out nd2)
      clear HR3 HB3
      go_wp2
      first | go_end0 | refine bodyPost_ret (results_none rfl _ _ _) rfl ?_
      rw [HE.out]
      exact ⟨rfl, _, _, HW.out, HB4.out.trans (rd_below_set hbb 5 _)⟩
    · have HC := Lib.hid (colon_some s hmx hn)
      obtain ⟨m, hm⟩ : ∃ m, nameL s.data.toList = m := ⟨_, rfl⟩
      have hml : m < s.size := by have := nameL_lt s.data.toList hn; rw [toList_size] at this; omega
      rw [hm] at HC
      have h1 : ¬ (m : Int) < 1 := by omega
      by_cases h64' : fs.length = 64
      · have HE : Hid (lineR fs s = (fs, 31)) := Lib.hid (by unfold lineR; rw [hfb, if_neg (by simp), if_neg hn, if_pos h64'])
        rw [h64'] at c3
        have HR4 := Lib.hid HR3.out
        clear hfb hsz hn hm HR3
        go_wp2_with (fail)
        refine (HC.out _).mono ?_
        rintro e w' ⟨rfl, ⟨nd2, rfl⟩⟩
        have HW := Lib.hid ((HR4.out.drewN nd2).setWhy 31)
        have HB4 := Lib.hid (show Below base w (wq.drewN nd2) from pw_below_drewN HB3.out nd2)
        clear HR4 HB3
        go_wp2
        first | go_end0 | refine bodyPost_ret (results_none rfl _ _ _) rfl ?_
        rw [HE.out]
        exact ⟨rfl, _, _, HW.out, HB4.out.trans (rd_below_set hbb 5 _)⟩
      · have HE : Hid (lineR fs s = (fs ++ [⟨s.extract 0 m, s.extract (m + 1) s.size⟩], 0)) := Lib.hid (by unfold lineR; rw [hfb, if_neg (by simp), if_neg hn, if_neg h64', hm])
        have t64 : ((fs.length : Int) == 64) = false := beq_eq_false_iff_ne.2 (by omega)
        clear hfb hsz hn hm
        go_wp2_with (fail)
        refine (HC.out _).mono ?_
        rintro e w' ⟨rfl, ⟨nd2, rfl⟩⟩
        have c3' : (wq.drewN nd2).cell? ⟨b, 3, none⟩ = some (.slice A fs.length c) := c3
        have HR' := Lib.hid (HR3.out.drewN nd2)
        have HB' := Lib.hid (show Below base w (wq.drewN nd2) from pw_below_drewN HB3.out nd2)
        have hbs' : base ≤ (wq.drewN nd2).heap.size := hbq
        clear c3 c5 f5 HR3 HB3 hbq
        generalize wq.drewN nd2 = wq at *
        have HO' := Lib.hid HR'.out.2.2.2
        obtain ⟨i0, hi, hz0, hz1, hz2⟩ := info_parts info42
        have hq1 : m ≤ s.size := by omega
        have hq2 : 0 ≤ (m : Int) + 1 ∧ (m : Int) + 1 ≤ (s.size : Int) := by omega
        have hw1 : IntKind.i64.wrap ((m : Int) + 1) = (m : Int) + 1 := IntWalk.i64_in _ (by omega)
        have hmx1 : fs.length + 1 ≤ maxLen := by unfold maxLen; omega
        have hmx2 : (fs.length + 1) * 32 ≤ 140737488355328 := by omega
        have hbw1 : base ≤ (wq.drew.alloc (.cells #[.string (s.extract 0 m), .string (s.extract (m + 1) s.size)] 42)).heap.size := by simp; omega
        go_wp2
        refine start_ (n := 18) (S := (fun w' => w'.cell? ⟨b, 3, none⟩ = some (.slice A fs.length c))) (ds := [17]) #[false, false, false, false, false, false, false, false, false, false, false, false, false, false, false, false, false, false] (by kernel_rfl) rfl rfl ?_ (fun hHeld => ?_)
        · exact c3'
        refine pure_ (i := 0) (N := some 52) (v := ?_) (a' := ?_) #[true, false, false, false, false, false, false, false, false, false, false, false, false, false, false, false, false, false] rfl rfl (by kernel_rfl) (fun _ _ _ h => h) (Or.inl ⟨by rfl, ?_⟩) ?_ ?_
        rotate_left
        · intro w'
          go_simp
          with_reducible rfl
        rotate_left
        · simp only [Act.put, List.setIfInBounds_toArray, List.set_cons_zero, List.set_cons_succ, i64_w, i32_w]
          rfl
        refine pure_ (i := 1) (N := some 53) (v := ?_) (a' := ?_) #[true, true, false, false, false, false, false, false, false, false, false, false, false, false, false, false, false, false] rfl rfl (by kernel_rfl) (fun _ _ _ h => h) (Or.inl ⟨by rfl, ?_⟩) ?_ ?_
        rotate_left
        · intro w'
          go_simp
          with_reducible rfl
        rotate_left
        · simp only [Act.put, List.setIfInBounds_toArray, List.set_cons_zero, List.set_cons_succ, i64_w, i32_w]
          rfl
        refine pure_ (i := 2) (N := some 54) (v := ?_) (a' := ?_) #[true, true, true, false, false, false, false, false, false, false, false, false, false, false, false, false, false, false] rfl rfl (by kernel_rfl) (fun _ _ _ h => h) (Or.inl ⟨by rfl, ?_⟩) ?_ ?_
        rotate_left
        · intro w'
          go_simp
          with_reducible rfl
        rotate_left
        · simp only [Act.put, List.setIfInBounds_toArray, List.set_cons_zero, List.set_cons_succ, i64_w, i32_w]
          rfl
        refine pure_ (i := 3) (N := some 55) (v := ?_) (a' := ?_) #[true, true, true, true, false, false, false, false, false, false, false, false, false, false, false, false, false, false] rfl rfl (by kernel_rfl) (fun _ _ _ h => h) (Or.inl ⟨by rfl, ?_⟩) ?_ ?_
        rotate_left
        · intro w'
          go_simp
          with_reducible rfl
        rotate_left
        · simp only [Act.put, List.setIfInBounds_toArray, List.set_cons_zero, List.set_cons_succ, i64_w, i32_w]
          rfl
        refine take_ (i := 4) (N := some 56) (v := ?_) (a' := ?_) #[true, true, true, true, true, false, false, false, false, false, false, false, false, false, false, false, false, false] rfl rfl (by kernel_rfl) (fun _ _ _ h => h) (Or.inl ⟨by rfl, ?_⟩) hHeld ?_ ?_
        rotate_left
        · rintro w' s0
          go_simp
          with_reducible rfl
        rotate_left
        · simp only [Act.put, List.setIfInBounds_toArray, List.set_cons_zero, List.set_cons_succ, i64_w, i32_w]
          rfl
        refine pure_ (i := 5) (N := some 57) (v := ?_) (a' := ?_) #[true, true, true, true, true, true, false, false, false, false, false, false, false, false, false, false, false, false] rfl rfl (by kernel_rfl) (fun _ _ _ h => h) (Or.inl ⟨by rfl, ?_⟩) ?_ ?_
        rotate_left
        · intro w'
          go_simp
          with_reducible rfl
        rotate_left
        · simp only [Act.put, List.setIfInBounds_toArray, List.set_cons_zero, List.set_cons_succ, i64_w, i32_w]
          rfl
        refine pure_ (i := 6) (N := some 58) (v := ?_) (a' := ?_) #[true, true, true, true, true, true, true, false, false, false, false, false, false, false, false, false, false, false] rfl rfl (by kernel_rfl) (fun _ _ _ h => h) (Or.inl ⟨by rfl, ?_⟩) ?_ ?_
        rotate_left
        · intro w'
          go_simp
          with_reducible rfl
        rotate_left
        · simp only [Act.put, List.setIfInBounds_toArray, List.set_cons_zero, List.set_cons_succ, i64_w, i32_w]
          rfl
        refine pure_ (i := 7) (N := some 59) (v := ?_) (a' := ?_) #[true, true, true, true, true, true, true, true, false, false, false, false, false, false, false, false, false, false] rfl rfl (by kernel_rfl) (fun _ _ _ h => h) (Or.inl ⟨by rfl, ?_⟩) ?_ ?_
        rotate_left
        · intro w'
          go_simp
          with_reducible rfl
        rotate_left
        · simp only [Act.put, List.setIfInBounds_toArray, List.set_cons_zero, List.set_cons_succ, i64_w, i32_w]
          rfl
        refine pure_ (i := 8) (N := some 60) (v := ?_) (a' := ?_) #[true, true, true, true, true, true, true, true, true, false, false, false, false, false, false, false, false, false] rfl rfl (by kernel_rfl) (fun _ _ _ h => h) (Or.inl ⟨by rfl, ?_⟩) ?_ ?_
        rotate_left
        · intro w'
          go_simp
          with_reducible rfl
        rotate_left
        · simp only [Act.put, List.setIfInBounds_toArray, List.set_cons_zero, List.set_cons_succ, i64_w, i32_w]
          rfl
        refine pure_ (i := 9) (N := some 61) (v := ?_) (a' := ?_) #[true, true, true, true, true, true, true, true, true, true, false, false, false, false, false, false, false, false] rfl rfl (by kernel_rfl) (fun _ _ _ h => h) (Or.inl ⟨by rfl, ?_⟩) ?_ ?_
        rotate_left
        · intro w'
          go_simp
          with_reducible rfl
        rotate_left
        · simp only [Act.put, List.setIfInBounds_toArray, List.set_cons_zero, List.set_cons_succ, i64_w, i32_w]
          rfl
        refine pure_ (i := 10) (N := some 62) (v := ?_) (a' := ?_) #[true, true, true, true, true, true, true, true, true, true, true, false, false, false, false, false, false, false] rfl rfl (by kernel_rfl) (fun _ _ _ h => h) (Or.inl ⟨by rfl, ?_⟩) ?_ ?_
        rotate_left
        · intro w'
          go_simp
          with_reducible rfl
        rotate_left
        · simp only [Act.put, List.setIfInBounds_toArray, List.set_cons_zero, List.set_cons_succ, i64_w, i32_w]
          rfl
        refine pure_ (i := 11) (N := some 63) (v := ?_) (a' := ?_) #[true, true, true, true, true, true, true, true, true, true, true, true, false, false, false, false, false, false] rfl rfl (by kernel_rfl) (fun _ _ _ h => h) (Or.inl ⟨by rfl, ?_⟩) ?_ ?_
        rotate_left
        · intro w'
          go_simp
          with_reducible rfl
        rotate_left
        · simp only [Act.put, List.setIfInBounds_toArray, List.set_cons_zero, List.set_cons_succ, i64_w, i32_w]
          rfl
        refine pure_ (i := 12) (N := some 64) (v := ?_) (a' := ?_) #[true, true, true, true, true, true, true, true, true, true, true, true, true, false, false, false, false, false] rfl rfl (by kernel_rfl) (fun _ _ _ h => h) (Or.inl ⟨by rfl, ?_⟩) ?_ ?_
        rotate_left
        · intro w'
          go_simp
          with_reducible rfl
        rotate_left
        · simp only [Act.put, List.setIfInBounds_toArray, List.set_cons_zero, List.set_cons_succ, i64_w, i32_w]
          rfl
        refine one_ (i := 13) (N := some 65) #[true, true, true, true, true, true, true, true, true, true, true, true, true, true, false, false, false, false] rfl rfl (by kernel_rfl) (by decide) (fun K hK => ?_)
        refine value_ (v := ?_) (w1 := ?_) (by rfl) rfl ?_ ?_
        rotate_left 2
        · go_simp
          refine ⟨?_, ?_⟩ <;> rfl
        refine hK.out _ _ (cell_alloc_drew hHeld) (fun hHeld => ?_)
        clear hK K
        refine norm_ (a' := ?_) ?_ ?_
        rotate_left
        · show Act.put _ (some 65) _ = _
          simp only [Act.put, List.setIfInBounds_toArray, List.set_cons_zero, List.set_cons_succ, i64_w, i32_w]
          rfl
        refine one_ (i := 14) (N := some 66) #[true, true, true, true, true, true, true, true, true, true, true, true, true, true, true, false, false, false] rfl rfl (by kernel_rfl) (by decide) (fun K hK => ?_)
        refine step_append_lies _ (by rfl) _ _ _ (by rfl) base 42 i0 _ 2 32 Try.underlying23 hi hz0 hz1 hz2 rfl (by decide) _ fs.length (fcells fs) (by rfl) (HO'.out.drew_alloc _) ⟨wq.heap.size, 0, none⟩ 1 1 [.string (s.extract 0 m), .string (s.extract (m + 1) s.size)] (by rfl) (by rfl) (World.news_of_block (cs := #[.string (s.extract 0 m), .string (s.extract (m + 1) s.size)]) (t := 42) (fr := (0, 0)) (heap_alloc_new wq.drew _)) (by simp [Value.oneCell']) (by decide) hmx1 hmx2 hbw1 (wq.heap.size + 1) (by simp) ?_
        intro g cap w1 hown1 hgrow hat hlt
        have hblk := rd_app_block HR'.out hgrow
        have hfz : w1.frozen? ⟨b, 3, none⟩ = false := by simp [World.frozen?, hblk]
        have hc3 : w1.cell? ⟨b, 3, none⟩ = some (.slice A fs.length c) := by simp [World.cell?, hblk]
        refine hK.out _ _ hc3 (fun hHeld => ?_)
        clear hK K
        refine norm_ (a' := ?_) ?_ ?_
        rotate_left
        · show Act.put _ (some 66) _ = _
          simp only [Act.put, List.setIfInBounds_toArray, List.set_cons_zero, List.set_cons_succ, i64_w, i32_w]
          rfl
        refine pure_ (i := 15) (N := some 67) (v := ?_) (a' := ?_) #[true, true, true, true, true, true, true, true, true, true, true, true, true, true, true, true, false, false] rfl rfl (by kernel_rfl) (fun _ _ _ h => h) (Or.inl ⟨by rfl, ?_⟩) ?_ ?_
        rotate_left
        · intro w'
          go_simp
          with_reducible rfl
        rotate_left
        · simp only [Act.put, List.setIfInBounds_toArray, List.set_cons_zero, List.set_cons_succ, i64_w, i32_w]
          rfl
        refine pure_ (i := 16) (N := some 68) (v := ?_) (a' := ?_) #[true, true, true, true, true, true, true, true, true, true, true, true, true, true, true, true, true, false] rfl rfl (by kernel_rfl) (fun _ _ _ h => h) (Or.inl ⟨by rfl, ?_⟩) ?_ ?_
        rotate_left
        · intro w'
          go_simp
          with_reducible rfl
        rotate_left
        · simp only [Act.put, List.setIfInBounds_toArray, List.set_cons_zero, List.set_cons_succ, i64_w, i32_w]
          rfl
        refine last_ (i := 17) (N := none) #[true, true, true, true, true, true, true, true, true, true, true, true, true, true, true, true, true, true] rfl rfl (by kernel_rfl) (by decide) (fun K hK => ?_)
        refine skip_ (w1 := ?_) (by rfl) rfl ?_ ?_
        rotate_left
        · go_simp
          rfl
        refine hK.out _ _ ?_
        clear hK K
        refine done_ (by kernel_rfl) ?_
        have HEND := rd_app_end (f := ⟨s.extract 0 m, s.extract (m + 1) s.size⟩) HR'.out hbs' hgrow hown1
        go_wp2
        first | go_end0 | refine bodyPost_ret (results_none rfl _ _ _) rfl ?_
        rw [HE.out]
        exact ⟨rfl, _, _, HEND.1, HB'.out.trans HEND.2⟩
end Go.Proofs.Ytodidfdfbanliaa.PAll
