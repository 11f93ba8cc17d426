/- A header's reader: finish. -/
import Derived.Deep.RegionHeld3
import Derived.Deep.DrawnRows
import Derived.StillTailTactics
import Derived.Test.YtodidfdfbanliaaQStpHReader
set_option linter.unusedVariables false
set_option linter.unusedSimpArgs false
namespace Go.Proofs.Ytodidfdfbanliaa.PAll
open Go.RowKit Go.Proofs.YtodidfdfbanliaaW.PrintWords Go.Proofs.YtodidfdfbanliaaW.PrintLast
/-- The fields of which the first i have been trimmed. -/
def finI (fs : List S42) (i : Nat) : List S42 := trimF (fs.take i) ++ fs.drop i
theorem finI_len (fs : List S42) (i : Nat) : (finI fs i).length = fs.length := by simp [finI, trimF]; omega
theorem finI_at (fs : List S42) (i : Nat) (h : i < fs.length) : (finI fs i)[i]? = some fs[i] := by
  have hl : (trimF (fs.take i)).length = i := by simp [trimF]; omega
  rw [finI, List.getElem?_append_right (by omega), hl, Nat.sub_self, List.getElem?_drop, Nat.add_zero, List.getElem?_eq_getElem h]
theorem finI_set (fs : List S42) (i : Nat) (h : i < fs.length) : (finI fs i).set i ⟨fs[i].f0, trimB fs[i].f1⟩ = finI fs (i + 1) := by
  have hl : (trimF (fs.take i)).length = i := by simp [trimF]; omega
  unfold finI
  rw [List.set_append_right _ _ (by omega), hl, Nat.sub_self, List.drop_eq_getElem_cons h, List.set_cons_zero, List.take_succ_eq_append_getElem h]
  simp only [trimF, List.map_append, List.map_cons, List.map_nil, List.append_assoc, List.singleton_append]
theorem finI_all (fs : List S42) : finI fs fs.length = trimF fs := by simp [finI]
theorem fin_cells {w : World} {base : Nat} {A : Option Addr} {c i : Nat} {fs : List S42} (hi : i < fs.length) (h : OwnF w base (.slice A fs.length c) (finI fs i)) :
    ∃ g, A = some ⟨g, 0, none⟩ ∧ w.cell? ⟨g, i * 2 + 1, none⟩ = some (.string fs[i].f1) ∧ w.frozen? ⟨g, i * 2 + 1, none⟩ = false ∧ base ≤ g ∧ fs.length ≤ c ∧ c ≤ maxLen := by
  have h2 := h
  rw [← finI_len fs i] at h2
  obtain ⟨g, hA, h0, h1, hf⟩ := h2.cells i (by rw [finI_len]; exact hi)
  have e := finI_at fs i hi
  obtain ⟨hlt, e⟩ := List.getElem?_eq_some_iff.1 e
  rw [e] at h1
  subst hA
  refine ⟨g, rfl, by rw [show i * 2 + 1 = 2 * i + 1 from by omega]; exact h1, by rw [show i * 2 + 1 = 2 * i + 1 from by omega]; exact hf, ((OwnF.lt h) g (by simp [Value.ownBlock])).1, ?_⟩
  rcases h.2 with ⟨hv, h0⟩ | ⟨g', cap, cur, hv, hb, hg, hn, hm, hc, ht⟩
  · rw [finI_len] at h0; omega
  · injection hv with _ _ h3; rw [finI_len] at hn; exact ⟨by omega, by omega⟩
section
variable {w w1 : World} {base b : Nat} {most n : Int} {vl : Value} {L : List Int} {fs : List S42} {done : Bool} {why : Int}
theorem OwnL.setFar {g t : Nat} (h : OwnL w base vl L) {cs : Array Value} {fr : Nat × Nat} (hg : w.heap[g]? = some (.cells cs t fr)) (ht : t ≠ 5) (j : Nat) (u : Value) : OwnL (w.setCell ⟨g, j, none⟩ u) base vl L :=
  h.setOther (h.ne hg (fun cs' fr' e => ht (by injection e))) j u
theorem RdAt.setField {g c i : Nat} (h : RdAt w base b most n vl L (.slice (some ⟨g, 0, none⟩) fs.length c) (finI fs i) done why) (hi : i < fs.length) : RdAt (w.setCell ⟨g, i * 2 + 1, none⟩ (.string (trimB fs[i].f1))) base b most n vl L (.slice (some ⟨g, 0, none⟩) fs.length c) (finI fs (i + 1)) done why := by
  have hgb : b ≠ g := fun e => h.neF (by simp [Value.ownBlock, e])
  obtain ⟨cells, hc⟩ := own_typed h.2.2.2 g (by simp [Value.ownBlock])
  refine ⟨h.1, ?_, h.2.2.1.setFar hc (by decide) _ _, ?_⟩
  · rw [Below.heap_setCell _ _ _ _ hgb]; exact h.2.1
  · have h2 := h.2.2.2
    rw [← finI_len fs i] at h2
    have := h2.setLast i (by rw [finI_len]; exact hi) (trimB fs[i].f1)
    obtain ⟨hlt, e⟩ := List.getElem?_eq_some_iff.1 (finI_at fs i hi)
    rw [e, finI_set fs i hi, finI_len, show 2 * i + 1 = i * 2 + 1 from by omega] at this
    exact this
theorem RdAt.below {vf : Value} (h : RdAt w base b most n vl L vf fs done why) (hb : Below w.heap.size w w1) : RdAt w1 base b most n vl L vf fs done why :=
  ⟨h.1, (hb.block b h.lt).trans h.2.1, h.2.2.1.below hb, h.2.2.2.below hb⟩
end
theorem trim_calls (s : ByteArray) (hs : s.size ≤ 9223372036854775807) (w : World) : Calls Try.prog 29 #[.string s] w fun e w' => e = .returned (.string (trimB s)) ∧ Below w.heap.size w w' :=
  header_Trim.calls s _ w (by unfold header_Trim.f; rw [if_pos hs])
set_option maxHeartbeats 4000000 in
set_option maxRecDepth 100000 in
theorem finish_calls (base b : Nat) (most n : Int) (vl : Value) (L : List Int) (vf : Value) (fs : List S42) (d : Bool) (why : Int) (w : World) (hR : RdAt w base b most n vl L vf fs d why) (hsz : ∀ f ∈ fs, f.f1.size ≤ 9223372036854775807) :
    Calls Try.prog 65 #[.pointer (some ⟨b, 0, none⟩)] w fun e w' => e = .returned (.tuple #[]) ∧ RdAt w' base b most n vl L vf (trimF fs) true why ∧ Below base w w' := by
  obtain ⟨A, c, hv⟩ := hR.2.2.2.form
  subst hv
  have c4 := hR.cell4
  have f4 := hR.frozen 4
  have c3 : (w.setCell ⟨b, 4, none⟩ (.bool true)).cell? ⟨b, 3, none⟩ = _ := (hR.setDone true).cell3
  have H1 := Lib.hid (hR.setDone true)
  have HB1 := Lib.hid (rd_below_set (w := w) hR.1 4 (.bool true))
  have hbase : base ≤ b := hR.1
  clear hR
  go_enter Try.func65, Try.ntmps65
  go_wp2
  generalize w.setCell ⟨b, 4, none⟩ (.bool true) = ws at *
  clear c4 f4
  go_loopw [11] (fun v wr => ∃ i : Nat, v = .int .i64 (i : Int) ∧ i ≤ fs.length ∧ Hid (RdAt wr base b most n vl L (.slice A fs.length c) (finI fs i) true why) ∧ Hid (Below base w wr)) (fun v _ => fs.length - (intOf v).toNat)
  case atStart => exact ⟨0, rfl, by omega, H1, HB1⟩
  case round =>
    obtain ⟨i, rfl, hil, HR, HB⟩ := hrel
    by_cases hlt : i < fs.length
    · have hp0 : (0 : Int) ≤ (i : Int) := by omega
      have hp1 : (i : Int) < (fs.length : Int) := by omega
      obtain ⟨g, rfl, k1, f1, hbg, hlc, hcm⟩ := fin_cells hlt HR.out.2.2.2
      unfold maxLen at hcm
      have c3 := HR.out.cell3
      have HT := Lib.hid (trim_calls fs[i].f1 (hsz _ (List.getElem_mem _)))
      have HS := Lib.hid (fun (w1 : World) (hb : Below wr.heap.size wr w1) => ((HR.out.below hb).setField hlt))
      have hbs : base ≤ wr.heap.size := Nat.le_trans hbase (Nat.le_of_lt HR.out.lt)
      have hw1 : IntKind.i64.wrap ((i : Int) + 1) = (i : Int) + 1 := IntWalk.i64_in _ (by omega)
      have hfz := fun (w1 : World) (hb : Below wr.heap.size wr w1) => (hb.frozen (p := ⟨g, i * 2 + 1, none⟩) (World.block_lt_of_cell? wr _ k1)).trans f1
      have HFZ := Lib.hid hfz
      clear hfz H1 HB1
      generalize hx : fs[i].f1 = x at *
      generalize trimB x = tx at *
      go_wp2
      refine start_ (n := 17) (S := (fun w' => w'.cell? ⟨b, 3, none⟩ = some (.slice (some ⟨g, 0, none⟩) fs.length c) ∧ w'.cell? ⟨g, i * 2 + 1, none⟩ = some (.string x))) (ds := [16]) #[false, false, false, false, false, false, false, false, false, false, false, false, false, false, false, false, false] (by kernel_rfl) rfl rfl ?_ (fun hHeld => ?_)
      · exact ⟨c3, k1⟩
      refine pure_ (i := 0) (N := some 14) (v := ?_) (a' := ?_) #[true, false, false, false, false, false, false, false, false, false, false, false, false, false, false, false, false] rfl rfl (by kernel_rfl) (fun _ _ _ h => h) (Or.inl ⟨by rfl, ?_⟩) ?_ ?_
      rotate_left
      · intro w'
        go_simp
        with_reducible rfl
      rotate_left
      · simp only [Act.put, List.setIfInBounds_toArray, List.set_cons_zero, List.set_cons_succ, i64_w, i32_w]
        rfl
      refine pure_ (i := 1) (N := some 15) (v := ?_) (a' := ?_) #[true, true, false, false, false, false, false, false, false, false, false, false, false, false, false, false, false] rfl rfl (by kernel_rfl) (fun _ _ _ h => h) (Or.inl ⟨by rfl, ?_⟩) ?_ ?_
      rotate_left
      · intro w'
        go_simp
        with_reducible rfl
      rotate_left
      · simp only [Act.put, List.setIfInBounds_toArray, List.set_cons_zero, List.set_cons_succ, i64_w, i32_w]
        rfl
      refine pure_ (i := 2) (N := some 16) (v := ?_) (a' := ?_) #[true, true, true, false, false, false, false, false, false, false, false, false, false, false, false, false, false] rfl rfl (by kernel_rfl) (fun _ _ _ h => h) (Or.inl ⟨by rfl, ?_⟩) ?_ ?_
      rotate_left
      · intro w'
        go_simp
        with_reducible rfl
      rotate_left
      · simp only [Act.put, List.setIfInBounds_toArray, List.set_cons_zero, List.set_cons_succ, i64_w, i32_w]
        rfl
      refine take_ (i := 3) (N := some 17) (v := ?_) (a' := ?_) #[true, true, true, true, false, false, false, false, false, false, false, false, false, false, false, false, false] rfl rfl (by kernel_rfl) (fun _ _ _ h => h) (Or.inl ⟨by rfl, ?_⟩) hHeld ?_ ?_
      rotate_left
      · rintro w' ⟨s0, s1⟩
        go_simp
        with_reducible rfl
      rotate_left
      · simp only [Act.put, List.setIfInBounds_toArray, List.set_cons_zero, List.set_cons_succ, i64_w, i32_w]
        rfl
      refine pure_ (i := 4) (N := some 18) (v := ?_) (a' := ?_) #[true, true, true, true, true, false, false, false, false, false, false, false, false, false, false, false, false] rfl rfl (by kernel_rfl) (fun _ _ _ h => h) (Or.inl ⟨by rfl, ?_⟩) ?_ ?_
      rotate_left
      · intro w'
        go_simp
        with_reducible rfl
      rotate_left
      · simp only [Act.put, List.setIfInBounds_toArray, List.set_cons_zero, List.set_cons_succ, i64_w, i32_w]
        rfl
      refine pure_ (i := 5) (N := some 19) (v := ?_) (a' := ?_) #[true, true, true, true, true, true, false, false, false, false, false, false, false, false, false, false, false] rfl rfl (by kernel_rfl) (fun _ _ _ h => h) (Or.inl ⟨by rfl, ?_⟩) ?_ ?_
      rotate_left
      · intro w'
        go_simp
        with_reducible rfl
      rotate_left
      · simp only [Act.put, List.setIfInBounds_toArray, List.set_cons_zero, List.set_cons_succ, i64_w, i32_w]
        rfl
      refine pure_ (i := 6) (N := some 20) (v := ?_) (a' := ?_) #[true, true, true, true, true, true, true, false, false, false, false, false, false, false, false, false, false] rfl rfl (by kernel_rfl) (fun _ _ _ h => h) (Or.inl ⟨by rfl, ?_⟩) ?_ ?_
      rotate_left
      · intro w'
        go_simp
        with_reducible rfl
      rotate_left
      · simp only [Act.put, List.setIfInBounds_toArray, List.set_cons_zero, List.set_cons_succ, i64_w, i32_w]
        rfl
      refine pure_ (i := 7) (N := some 21) (v := ?_) (a' := ?_) #[true, true, true, true, true, true, true, true, false, false, false, false, false, false, false, false, false] rfl rfl (by kernel_rfl) (fun _ _ _ h => h) (Or.inl ⟨by rfl, ?_⟩) ?_ ?_
      rotate_left
      · intro w'
        go_simp
        with_reducible rfl
      rotate_left
      · simp only [Act.put, List.setIfInBounds_toArray, List.set_cons_zero, List.set_cons_succ, i64_w, i32_w]
        rfl
      refine take_ (i := 8) (N := some 22) (v := ?_) (a' := ?_) #[true, true, true, true, true, true, true, true, true, false, false, false, false, false, false, false, false] rfl rfl (by kernel_rfl) (fun _ _ _ h => h) (Or.inl ⟨by rfl, ?_⟩) hHeld ?_ ?_
      rotate_left
      · rintro w' ⟨s0, s1⟩
        go_simp
        with_reducible rfl
      rotate_left
      · simp only [Act.put, List.setIfInBounds_toArray, List.set_cons_zero, List.set_cons_succ, i64_w, i32_w]
        rfl
      refine pure_ (i := 9) (N := some 23) (v := ?_) (a' := ?_) #[true, true, true, true, true, true, true, true, true, true, false, false, false, false, false, false, false] rfl rfl (by kernel_rfl) (fun _ _ _ h => h) (Or.inl ⟨by rfl, ?_⟩) ?_ ?_
      rotate_left
      · intro w'
        go_simp
        with_reducible rfl
      rotate_left
      · simp only [Act.put, List.setIfInBounds_toArray, List.set_cons_zero, List.set_cons_succ, i64_w, i32_w]
        rfl
      refine pure_ (i := 10) (N := some 24) (v := ?_) (a' := ?_) #[true, true, true, true, true, true, true, true, true, true, true, false, false, false, false, false, false] rfl rfl (by kernel_rfl) (fun _ _ _ h => h) (Or.inl ⟨by rfl, ?_⟩) ?_ ?_
      rotate_left
      · intro w'
        go_simp
        with_reducible rfl
      rotate_left
      · simp only [Act.put, List.setIfInBounds_toArray, List.set_cons_zero, List.set_cons_succ, i64_w, i32_w]
        rfl
      refine pure_ (i := 11) (N := some 25) (v := ?_) (a' := ?_) #[true, true, true, true, true, true, true, true, true, true, true, true, false, false, false, false, false] rfl rfl (by kernel_rfl) (fun _ _ _ h => h) (Or.inl ⟨by rfl, ?_⟩) ?_ ?_
      rotate_left
      · intro w'
        go_simp
        with_reducible rfl
      rotate_left
      · simp only [Act.put, List.setIfInBounds_toArray, List.set_cons_zero, List.set_cons_succ, i64_w, i32_w]
        rfl
      refine take_ (i := 12) (N := some 26) (v := ?_) (a' := ?_) #[true, true, true, true, true, true, true, true, true, true, true, true, true, false, false, false, false] rfl rfl (by kernel_rfl) (fun _ _ _ h => h) (Or.inl ⟨by rfl, ?_⟩) hHeld ?_ ?_
      rotate_left
      · rintro w' ⟨s0, s1⟩
        go_simp
        with_reducible rfl
      rotate_left
      · simp only [Act.put, List.setIfInBounds_toArray, List.set_cons_zero, List.set_cons_succ, i64_w, i32_w]
        rfl
      refine one_ (i := 13) (N := some 27) #[true, true, true, true, true, true, true, true, true, true, true, true, true, true, false, false, false] rfl rfl (by kernel_rfl) (by decide) (fun K hK => ?_)
      refine goes_ Try.func29 (by kernel_rfl) rfl #[.string x] (by rfl) rfl rfl (by (try simp only [List.map_toArray, List.map_cons, List.map_nil]); first | done | rfl) ?_
      refine (HT.out _).mono ?_
      rintro e w1 ⟨rfl, hb⟩
      have HBt := Lib.hid (((Below.refl wr.heap.size wr).drew).trans hb)
      have fz1 := HFZ.out w1 HBt.out
      clear hb
      refine ⟨_, rfl, ?_⟩
      refine hK.out _ _ ⟨pw_cell_below HBt.out hHeld.1, pw_cell_below HBt.out hHeld.2⟩ (fun hHeld => ?_)
      clear hK K
      refine norm_ (a' := ?_) ?_ ?_
      rotate_left
      · show Act.put _ (some 27) _ = _
        simp only [Act.put, List.setIfInBounds_toArray, List.set_cons_zero, List.set_cons_succ, i64_w, i32_w]
        rfl
      refine pure_ (i := 14) (N := some 28) (v := ?_) (a' := ?_) #[true, true, true, true, true, true, true, true, true, true, true, true, true, true, true, false, false] rfl rfl (by kernel_rfl) (fun _ _ _ h => h) (Or.inl ⟨by rfl, ?_⟩) ?_ ?_
      rotate_left
      · intro w'
        go_simp
        with_reducible rfl
      rotate_left
      · simp only [Act.put, List.setIfInBounds_toArray, List.set_cons_zero, List.set_cons_succ, i64_w, i32_w]
        rfl
      refine pure_ (i := 15) (N := some 29) (v := ?_) (a' := ?_) #[true, true, true, true, true, true, true, true, true, true, true, true, true, true, true, true, false] rfl rfl (by kernel_rfl) (fun _ _ _ h => h) (Or.inl ⟨by rfl, ?_⟩) ?_ ?_
      rotate_left
      · intro w'
        go_simp
        with_reducible rfl
      rotate_left
      · simp only [Act.put, List.setIfInBounds_toArray, List.set_cons_zero, List.set_cons_succ, i64_w, i32_w]
        rfl
      refine last_ (i := 16) (N := none) #[true, true, true, true, true, true, true, true, true, true, true, true, true, true, true, true, true] rfl rfl (by kernel_rfl) (by decide) (fun K hK => ?_)
      refine skip_ (w1 := ?_) (by rfl) rfl ?_ ?_
      rotate_left
      · go_simp
        rfl
      refine hK.out _ _ ?_
      clear hK K
      refine done_ (by kernel_rfl) ?_
      have HN := Lib.hid (HS.out w1 HBt.out)
      have HN2 := Lib.hid ((HB.out.trans (HBt.out.mono hbs)).trans (rd_below_set (b := g) hbg (i * 2 + 1) (.string tx)))
      clear HS HT HFZ
      go_wp2
      go_roundw
      case rel => exact ⟨i + 1, by go_num, by omega, HN, HN2⟩
      case measure => simp [intOf]; omega
    · have e : i = fs.length := by omega
      subst e
      have HE := HR.out
      rw [finI_all] at HE
      have HE2 := Lib.hid HE
      clear HE
      go_wp2
      first | go_end0 | refine bodyPost_ret (results_none rfl _ _ _) rfl ?_
      exact ⟨rfl, HE2.out, HB.out⟩
end Go.Proofs.Ytodidfdfbanliaa.PAll
