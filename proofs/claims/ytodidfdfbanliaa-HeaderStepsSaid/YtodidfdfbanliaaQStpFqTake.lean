/- The reader's contracts once more, with blocks that stay as they are (HFrame); copied by mk_fq.py out of HTake. -/
import Derived.Lib.SliceRun
import Derived.Deep.RegionHeld3
import Derived.Deep.AppendLies
import Derived.Deep.DrawnRows
import Derived.StillTailTactics
import Derived.Test.YtodidfdfbanliaaQStpFqFinish
import Derived.Test.YtodidfdfbanliaaQStpHTake
set_option linter.unusedVariables false
set_option linter.unusedSimpArgs false
namespace Go.Proofs.Ytodidfdfbanliaa.PAll.Fq
open Go.RowKit Go.Proofs.YtodidfdfbanliaaW.PrintWords Go.Proofs.YtodidfdfbanliaaW.PrintLast Go.Proofs.Ytodidfdfbanliaa.PAll
set_option maxHeartbeats 4000000 in
set_option maxRecDepth 100000 in
theorem take_calls {ps : List (Nat × Obj)} (base b : Nat) (most n : Int) (vl : Value) (L : List Int) (vf : Value) (fs : List S42) (d : Bool) (w : World) (hL : L ≠ []) (hmx : L.length ≤ 9223372036854775807) (hR : RdQ ps w base b most n vl L vf fs d 0) (h64 : fs.length ≤ 64) (hsz : fs ≠ [] → (fs.getD (fs.length - 1) zS).f1.size + L.length ≤ 9223372036854775807) :
    Calls Try.prog 66 #[.pointer (some ⟨b, 0, none⟩)] w fun e w' => e = .returned (.tuple #[]) ∧ ∃ vl' vf', RdQ ps w' base b most n vl' [] vf' (lineR fs (strOfNums L)).1 d (lineR fs (strOfNums L)).2 ∧ Below base w w' := by
  have c2 := hR.cell2
  have hcv : (convert 22 9 vl).run Try.prog w = .ok (.string (strOfNums L)) w := own_string Try.underlying22 Try.underlying5 Try.underlying9 hR.2.2.1
  obtain ⟨g, c0, wc, hv, hlc, hclr, c2', f2', hR2, hB2⟩ := take_pre hR hL
  have hsl : ∀ W : World, (Instr.slice 22 vl none (some (.int .i64 0)) none).run Try.prog W = .ok (.slice (some ⟨g, 0, none⟩) 0 c0) W := by
    obtain ⟨i0, hi5, _, hsz5, _⟩ := info_parts info5
    rw [hv]; exact cut_to 22 5 .i64 Try.underlying22 hi5 _ _ _ 0 (by omega) (by omega) hlc
  have hss : (strOfNums L).size = L.length := strOfNums_size L
  have hs0 : 0 < (strOfNums L).size := by rw [hss]; cases L with | nil => exact absurd rfl hL | cons _ _ => simp
  rw [← hss] at hsz hmx
  have hbase : base ≤ w.heap.size := Nat.le_trans hR.1 (Nat.le_of_lt hR.lt)
  clear hR hv hss hL
  generalize strOfNums L = s at *
  have hi0 : (0 : Int) < (s.size : Int) := by omega
  have HK := Lib.hid (blank_calls s[0])
  have HR2 := Lib.hid hR2
  have HB2 := Lib.hid hB2
  have HFB := Lib.hid (firstBl_at s hs0)
  clear hR2 hB2
  go_enter Try.func66, Try.ntmps66
  go_wp2_with (fail)
  refine (HK.out _).mono ?_
  rintro e w' ⟨rfl, ⟨nd, rfl⟩⟩
  have HR3 := Lib.hid (HR2.out.drewN nd)
  have HB3 := Lib.hid (show Below base w ((wc.setCell ⟨b, 2, none⟩ (.slice (some ⟨g, 0, none⟩) 0 c0)).drewN nd) from pw_below_drewN HB2.out nd)
  have hfb := HFB.out
  clear HR2 HB2 HFB HK hclr c2' f2' hsl hcv c2
  generalize isBl s[0] = bb at *
  generalize hwq : (wc.setCell ⟨b, 2, none⟩ (.slice (some ⟨g, 0, none⟩) 0 c0)).drewN nd = wq at *
  clear hwq
  obtain ⟨A, c, hvf⟩ := HR3.out.2.2.2.form
  subst hvf
  have c3 := HR3.out.cell3
  have c5 := HR3.out.cell5
  have f5 := HR3.out.frozen 5
  have hbq : base ≤ wq.heap.size := Nat.le_trans HR3.out.1 (Nat.le_of_lt HR3.out.lt)
  have hbb : base ≤ b := HR3.out.1
  cases bb with
  | true =>
    by_cases hfs : fs = []
    · subst hfs
      have HE : Hid (lineR [] s = ([], 30)) := Lib.hid (by unfold lineR; rw [hfb]; rfl)
      clear hfb hsz h64
      have HW := Lib.hid (HR3.out.setWhy 30)
      clear HR3
      go_wp2
      first | go_end0 | refine bodyPost_ret (results_none rfl _ _ _) rfl ?_
      rw [HE.out]
      exact ⟨rfl, _, _, HW.out, HB3.out.trans (rd_below_set hbb 5 _)⟩
    · have HE : Hid (lineR fs s = (addLast fs s, 0)) := Lib.hid (by unfold lineR; rw [hfb, if_pos rfl, if_neg hfs])
      have hsz2 := hsz hfs
      obtain ⟨m, hm⟩ : ∃ m, fs.length = m + 1 := ⟨fs.length - 1, by have : fs.length ≠ 0 := fun e => hfs (List.eq_nil_of_length_eq_zero e); omega⟩
      obtain ⟨g2, rfl, k1, fz1, hmc, _⟩ := last_cells hm HR3.out.2.2.2
      have hbg : base ≤ g2 := (HR3.out.2.2.2.lt g2 (by simp [Value.ownBlock])).1
      have HG := Lib.hid (fun x (hx : x = (fs.getD (fs.length - 1) zS).f1 ++ s) => show RdQ ps (wq.drew.setCell ⟨g2, m * 2 + 1, none⟩ (.string x)) base b most n (.slice (some ⟨g, 0, none⟩) 0 c0) [] (.slice (some ⟨g2, 0, none⟩) fs.length c) (addLast fs s) d 0 ∧ Below base w (wq.drew.setCell ⟨g2, m * 2 + 1, none⟩ (.string x)) from by
        rw [hx]; exact ⟨rd_more hm HR3.out.drew s, HB3.out.drew.trans (rd_below_set hbg _ _)⟩)
      rw [hm] at c3
      clear HR3 HB3 hfs hsz hfb
      have hp1 : (0 : Int) ≤ (m : Int) := by omega
      have hw1 : IntKind.i64.wrap (m : Int) = (m : Int) := IntWalk.i64_in _ (by omega)
      have hw2 : IntKind.i64.wrap ((m : Int) + 1 - 1) = (m : Int) := by rw [show (m : Int) + 1 - 1 = (m : Int) from by omega]; exact hw1
      have hp2 : (m : Int) < (m : Int) + 1 := by omega
      generalize (fs.getD (fs.length - 1) zS).f1 = val at *
      have hsz3 : ¬ 9223372036854775807 < val.size + s.size := by omega
      go_wp2
      go_still_tail 17, (by kernel_rfl)
      change wpList _ _ _ _ _ wq.drew
      go_wp2
      first | go_end0 | refine bodyPost_ret (results_none rfl _ _ _) rfl ?_
      rw [HE.out]
      have := HG.out _ rfl
      exact ⟨rfl, _, _, this.1, this.2⟩
  | false =>
    by_cases hn : nameL s.data.toList = 0
    · have HE : Hid (lineR fs s = (fs, 30)) := Lib.hid (by unfold lineR; rw [hfb, if_neg (by simp), if_pos hn])
      obtain ⟨r, hr, hcol⟩ := colon_none s hmx hn
      have HC := Lib.hid hcol
      clear hcol hn hfb hsz
      go_wp2_with (fail)
      refine (HC.out _).mono ?_
      rintro e w' ⟨rfl, ⟨nd2, rfl⟩⟩
      have HW := Lib.hid ((HR3.out.drewN nd2).setWhy 30)
      have HB4 := Lib.hid (show Below base w (wq.drewN nd2) from pw_below_drewN HB3.out nd2)
      clear HR3 HB3
      go_wp2
      first | go_end0 | refine bodyPost_ret (results_none rfl _ _ _) rfl ?_
      rw [HE.out]
      exact ⟨rfl, _, _, HW.out, HB4.out.trans (rd_below_set hbb 5 _)⟩
    · have HC := Lib.hid (colon_some s hmx hn)
      obtain ⟨m, hm⟩ : ∃ m, nameL s.data.toList = m := ⟨_, rfl⟩
      have hml : m < s.size := by have := nameL_lt s.data.toList hn; rw [toList_size] at this; omega
      rw [hm] at HC
      have h1 : ¬ (m : Int) < 1 := by omega
      by_cases h64' : fs.length = 64
      · have HE : Hid (lineR fs s = (fs, 31)) := Lib.hid (by unfold lineR; rw [hfb, if_neg (by simp), if_neg hn, if_pos h64'])
        rw [h64'] at c3
        have HR4 := Lib.hid HR3.out
        clear hfb hsz hn hm HR3
        go_wp2_with (fail)
        refine (HC.out _).mono ?_
        rintro e w' ⟨rfl, ⟨nd2, rfl⟩⟩
        have HW := Lib.hid ((HR4.out.drewN nd2).setWhy 31)
        have HB4 := Lib.hid (show Below base w (wq.drewN nd2) from pw_below_drewN HB3.out nd2)
        clear HR4 HB3
        go_wp2
        first | go_end0 | refine bodyPost_ret (results_none rfl _ _ _) rfl ?_
        rw [HE.out]
        exact ⟨rfl, _, _, HW.out, HB4.out.trans (rd_below_set hbb 5 _)⟩
      · have HE : Hid (lineR fs s = (fs ++ [⟨s.extract 0 m, s.extract (m + 1) s.size⟩], 0)) := Lib.hid (by unfold lineR; rw [hfb, if_neg (by simp), if_neg hn, if_neg h64', hm])
        have t64 : ((fs.length : Int) == 64) = false := beq_eq_false_iff_ne.2 (by omega)
        clear hfb hsz hn hm
        go_wp2_with (fail)
        refine (HC.out _).mono ?_
        rintro e w' ⟨rfl, ⟨nd2, rfl⟩⟩
        have c3' : (wq.drewN nd2).cell? ⟨b, 3, none⟩ = some (.slice A fs.length c) := c3
        have HR' := Lib.hid (HR3.out.drewN nd2)
        have HB' := Lib.hid (show Below base w (wq.drewN nd2) from pw_below_drewN HB3.out nd2)
        have hbs' : base ≤ (wq.drewN nd2).heap.size := hbq
        clear c3 c5 f5 HR3 HB3 hbq
        generalize wq.drewN nd2 = wq at *
        have HO' := Lib.hid HR'.out.2.2.2
        obtain ⟨i0, hi, hz0, hz1, hz2⟩ := info_parts info42
        have hq1 : m ≤ s.size := by omega
        have hq2 : 0 ≤ (m : Int) + 1 ∧ (m : Int) + 1 ≤ (s.size : Int) := by omega
        have hw1 : IntKind.i64.wrap ((m : Int) + 1) = (m : Int) + 1 := IntWalk.i64_in _ (by omega)
        have hmx1 : fs.length + 1 ≤ maxLen := by unfold maxLen; omega
        have hmx2 : (fs.length + 1) * 32 ≤ 140737488355328 := by omega
        have hbw1 : base ≤ (wq.drew.alloc (.cells #[.string (s.extract 0 m), .string (s.extract (m + 1) s.size)] 42)).heap.size := by simp; omega
        go_wp2
        refine start_ (n := 18) (S := (fun w' => w'.cell? ⟨b, 3, none⟩ = some (.slice A fs.length c))) (ds := [17]) #[false, false, false, false, false, false, false, false, false, false, false, false, false, false, false, false, false, false] (by kernel_rfl) rfl rfl ?_ (fun hHeld => ?_)
        · exact c3'
        refine pure_ (i := 0) (N := some 52) (v := ?_) (a' := ?_) #[true, false, false, false, false, false, false, false, false, false, false, false, false, false, false, false, false, false] rfl rfl (by kernel_rfl) (fun _ _ _ h => h) (Or.inl ⟨by rfl, ?_⟩) ?_ ?_
        rotate_left
        · intro w'
          go_simp
          with_reducible rfl
        rotate_left
        · simp only [Act.put, List.setIfInBounds_toArray, List.set_cons_zero, List.set_cons_succ, i64_w, i32_w]
          rfl
        refine pure_ (i := 1) (N := some 53) (v := ?_) (a' := ?_) #[true, true, false, false, false, false, false, false, false, false, false, false, false, false, false, false, false, false] rfl rfl (by kernel_rfl) (fun _ _ _ h => h) (Or.inl ⟨by rfl, ?_⟩) ?_ ?_
        rotate_left
        · intro w'
          go_simp
          with_reducible rfl
        rotate_left
        · simp only [Act.put, List.setIfInBounds_toArray, List.set_cons_zero, List.set_cons_succ, i64_w, i32_w]
          rfl
        refine pure_ (i := 2) (N := some 54) (v := ?_) (a' := ?_) #[true, true, true, false, false, false, false, false, false, false, false, false, false, false, false, false, false, false] rfl rfl (by kernel_rfl) (fun _ _ _ h => h) (Or.inl ⟨by rfl, ?_⟩) ?_ ?_
        rotate_left
        · intro w'
          go_simp
          with_reducible rfl
        rotate_left
        · simp only [Act.put, List.setIfInBounds_toArray, List.set_cons_zero, List.set_cons_succ, i64_w, i32_w]
          rfl
        refine pure_ (i := 3) (N := some 55) (v := ?_) (a' := ?_) #[true, true, true, true, false, false, false, false, false, false, false, false, false, false, false, false, false, false] rfl rfl (by kernel_rfl) (fun _ _ _ h => h) (Or.inl ⟨by rfl, ?_⟩) ?_ ?_
        rotate_left
        · intro w'
          go_simp
          with_reducible rfl
        rotate_left
        · simp only [Act.put, List.setIfInBounds_toArray, List.set_cons_zero, List.set_cons_succ, i64_w, i32_w]
          rfl
        refine take_ (i := 4) (N := some 56) (v := ?_) (a' := ?_) #[true, true, true, true, true, false, false, false, false, false, false, false, false, false, false, false, false, false] rfl rfl (by kernel_rfl) (fun _ _ _ h => h) (Or.inl ⟨by rfl, ?_⟩) hHeld ?_ ?_
        rotate_left
        · rintro w' s0
          go_simp
          with_reducible rfl
        rotate_left
        · simp only [Act.put, List.setIfInBounds_toArray, List.set_cons_zero, List.set_cons_succ, i64_w, i32_w]
          rfl
        refine pure_ (i := 5) (N := some 57) (v := ?_) (a' := ?_) #[true, true, true, true, true, true, false, false, false, false, false, false, false, false, false, false, false, false] rfl rfl (by kernel_rfl) (fun _ _ _ h => h) (Or.inl ⟨by rfl, ?_⟩) ?_ ?_
        rotate_left
        · intro w'
          go_simp
          with_reducible rfl
        rotate_left
        · simp only [Act.put, List.setIfInBounds_toArray, List.set_cons_zero, List.set_cons_succ, i64_w, i32_w]
          rfl
        refine pure_ (i := 6) (N := some 58) (v := ?_) (a' := ?_) #[true, true, true, true, true, true, true, false, false, false, false, false, false, false, false, false, false, false] rfl rfl (by kernel_rfl) (fun _ _ _ h => h) (Or.inl ⟨by rfl, ?_⟩) ?_ ?_
        rotate_left
        · intro w'
          go_simp
          with_reducible rfl
        rotate_left
        · simp only [Act.put, List.setIfInBounds_toArray, List.set_cons_zero, List.set_cons_succ, i64_w, i32_w]
          rfl
        refine pure_ (i := 7) (N := some 59) (v := ?_) (a' := ?_) #[true, true, true, true, true, true, true, true, false, false, false, false, false, false, false, false, false, false] rfl rfl (by kernel_rfl) (fun _ _ _ h => h) (Or.inl ⟨by rfl, ?_⟩) ?_ ?_
        rotate_left
        · intro w'
          go_simp
          with_reducible rfl
        rotate_left
        · simp only [Act.put, List.setIfInBounds_toArray, List.set_cons_zero, List.set_cons_succ, i64_w, i32_w]
          rfl
        refine pure_ (i := 8) (N := some 60) (v := ?_) (a' := ?_) #[true, true, true, true, true, true, true, true, true, false, false, false, false, false, false, false, false, false] rfl rfl (by kernel_rfl) (fun _ _ _ h => h) (Or.inl ⟨by rfl, ?_⟩) ?_ ?_
        rotate_left
        · intro w'
          go_simp
          with_reducible rfl
        rotate_left
        · simp only [Act.put, List.setIfInBounds_toArray, List.set_cons_zero, List.set_cons_succ, i64_w, i32_w]
          rfl
        refine pure_ (i := 9) (N := some 61) (v := ?_) (a' := ?_) #[true, true, true, true, true, true, true, true, true, true, false, false, false, false, false, false, false, false] rfl rfl (by kernel_rfl) (fun _ _ _ h => h) (Or.inl ⟨by rfl, ?_⟩) ?_ ?_
        rotate_left
        · intro w'
          go_simp
          with_reducible rfl
        rotate_left
        · simp only [Act.put, List.setIfInBounds_toArray, List.set_cons_zero, List.set_cons_succ, i64_w, i32_w]
          rfl
        refine pure_ (i := 10) (N := some 62) (v := ?_) (a' := ?_) #[true, true, true, true, true, true, true, true, true, true, true, false, false, false, false, false, false, false] rfl rfl (by kernel_rfl) (fun _ _ _ h => h) (Or.inl ⟨by rfl, ?_⟩) ?_ ?_
        rotate_left
        · intro w'
          go_simp
          with_reducible rfl
        rotate_left
        · simp only [Act.put, List.setIfInBounds_toArray, List.set_cons_zero, List.set_cons_succ, i64_w, i32_w]
          rfl
        refine pure_ (i := 11) (N := some 63) (v := ?_) (a' := ?_) #[true, true, true, true, true, true, true, true, true, true, true, true, false, false, false, false, false, false] rfl rfl (by kernel_rfl) (fun _ _ _ h => h) (Or.inl ⟨by rfl, ?_⟩) ?_ ?_
        rotate_left
        · intro w'
          go_simp
          with_reducible rfl
        rotate_left
        · simp only [Act.put, List.setIfInBounds_toArray, List.set_cons_zero, List.set_cons_succ, i64_w, i32_w]
          rfl
        refine pure_ (i := 12) (N := some 64) (v := ?_) (a' := ?_) #[true, true, true, true, true, true, true, true, true, true, true, true, true, false, false, false, false, false] rfl rfl (by kernel_rfl) (fun _ _ _ h => h) (Or.inl ⟨by rfl, ?_⟩) ?_ ?_
        rotate_left
        · intro w'
          go_simp
          with_reducible rfl
        rotate_left
        · simp only [Act.put, List.setIfInBounds_toArray, List.set_cons_zero, List.set_cons_succ, i64_w, i32_w]
          rfl
        refine one_ (i := 13) (N := some 65) #[true, true, true, true, true, true, true, true, true, true, true, true, true, true, false, false, false, false] rfl rfl (by kernel_rfl) (by decide) (fun K hK => ?_)
        refine value_ (v := ?_) (w1 := ?_) (by rfl) rfl ?_ ?_
        rotate_left 2
        · go_simp
          refine ⟨?_, ?_⟩ <;> rfl
        refine hK.out _ _ (cell_alloc_drew hHeld) (fun hHeld => ?_)
        clear hK K
        refine norm_ (a' := ?_) ?_ ?_
        rotate_left
        · show Act.put _ (some 65) _ = _
          simp only [Act.put, List.setIfInBounds_toArray, List.set_cons_zero, List.set_cons_succ, i64_w, i32_w]
          rfl
        refine one_ (i := 14) (N := some 66) #[true, true, true, true, true, true, true, true, true, true, true, true, true, true, true, false, false, false] rfl rfl (by kernel_rfl) (by decide) (fun K hK => ?_)
        refine step_append_lies _ (by rfl) _ _ _ (by rfl) base 42 i0 _ 2 32 Try.underlying23 hi hz0 hz1 hz2 rfl (by decide) _ fs.length (fcells fs) (by rfl) (HO'.out.drew_alloc _) ⟨wq.heap.size, 0, none⟩ 1 1 [.string (s.extract 0 m), .string (s.extract (m + 1) s.size)] (by rfl) (by rfl) (World.news_of_block (cs := #[.string (s.extract 0 m), .string (s.extract (m + 1) s.size)]) (t := 42) (fr := (0, 0)) (heap_alloc_new wq.drew _)) (by simp [Value.oneCell']) (by decide) hmx1 hmx2 hbw1 (wq.heap.size + 1) (by simp) ?_
        intro g cap w1 hown1 hgrow hat hlt
        have hblk := rd_app_block HR'.out hgrow
        have hfz : w1.frozen? ⟨b, 3, none⟩ = false := by simp [World.frozen?, hblk]
        have hc3 : w1.cell? ⟨b, 3, none⟩ = some (.slice A fs.length c) := by simp [World.cell?, hblk]
        refine hK.out _ _ hc3 (fun hHeld => ?_)
        clear hK K
        refine norm_ (a' := ?_) ?_ ?_
        rotate_left
        · show Act.put _ (some 66) _ = _
          simp only [Act.put, List.setIfInBounds_toArray, List.set_cons_zero, List.set_cons_succ, i64_w, i32_w]
          rfl
        refine pure_ (i := 15) (N := some 67) (v := ?_) (a' := ?_) #[true, true, true, true, true, true, true, true, true, true, true, true, true, true, true, true, false, false] rfl rfl (by kernel_rfl) (fun _ _ _ h => h) (Or.inl ⟨by rfl, ?_⟩) ?_ ?_
        rotate_left
        · intro w'
          go_simp
          with_reducible rfl
        rotate_left
        · simp only [Act.put, List.setIfInBounds_toArray, List.set_cons_zero, List.set_cons_succ, i64_w, i32_w]
          rfl
        refine pure_ (i := 16) (N := some 68) (v := ?_) (a' := ?_) #[true, true, true, true, true, true, true, true, true, true, true, true, true, true, true, true, true, false] rfl rfl (by kernel_rfl) (fun _ _ _ h => h) (Or.inl ⟨by rfl, ?_⟩) ?_ ?_
        rotate_left
        · intro w'
          go_simp
          with_reducible rfl
        rotate_left
        · simp only [Act.put, List.setIfInBounds_toArray, List.set_cons_zero, List.set_cons_succ, i64_w, i32_w]
          rfl
        refine last_ (i := 17) (N := none) #[true, true, true, true, true, true, true, true, true, true, true, true, true, true, true, true, true, true] rfl rfl (by kernel_rfl) (by decide) (fun K hK => ?_)
        refine skip_ (w1 := ?_) (by rfl) rfl ?_ ?_
        rotate_left
        · go_simp
          rfl
        refine hK.out _ _ ?_
        clear hK K
        refine done_ (by kernel_rfl) ?_
        have HEND := rd_app_end (f := ⟨s.extract 0 m, s.extract (m + 1) s.size⟩) HR'.out hbs' hgrow hown1 (hat.imp id (fun e => by rw [e]; simp))
        go_wp2
        first | go_end0 | refine bodyPost_ret (results_none rfl _ _ _) rfl ?_
        rw [HE.out]
        exact ⟨rfl, _, _, HEND.1, HB'.out.trans HEND.2⟩
end Go.Proofs.Ytodidfdfbanliaa.PAll.Fq
