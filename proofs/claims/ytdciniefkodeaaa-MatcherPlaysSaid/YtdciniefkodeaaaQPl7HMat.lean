/- The matcher's methods, walked. -/
import Derived.Deep.RegionHeld3
import Derived.Test.YtdciniefkodeaaaQPl7HRun6
set_option linter.unusedVariables false
set_option linter.unusedSimpArgs false
namespace Go.Proofs.Ytdciniefkodeaaa.PAll
open Go.Sort Go.RowKit Go.Proofs.YtdciniefkodeaaaW.PrintWords Go.Proofs.YtdciniefkodeaaaW.PrintLast Go.Proofs.YtdciniefkodeaaaW.PrintMore
/-- Block bm is a matcher over the machine of block pa, at state s, behind t bytes. -/
def MatAt (w : World) (bm pa : Nat) (s t : Int) : Prop := w.heap[bm]? = some (.cells #[.pointer (some ⟨pa, 0, none⟩), .int .i64 s, .int .i64 t] 91 (0, 0))
theorem MatAt.cells {w : World} {bm pa : Nat} {s t : Int} (h : MatAt w bm pa s t) : w.cell? ⟨bm, 0, none⟩ = some (.pointer (some ⟨pa, 0, none⟩)) ∧ w.cell? ⟨bm, 1, none⟩ = some (.int .i64 s) ∧ w.cell? ⟨bm, 2, none⟩ = some (.int .i64 t) ∧ ∀ j, w.frozen? ⟨bm, j, none⟩ = false := by
  unfold MatAt at h
  refine ⟨?_, ?_, ?_, fun j => frozen_of_row _ _ _ _ _ h⟩
  · rw [cell_of_row _ _ _ _ _ _ h]; rfl
  · rw [cell_of_row _ _ _ _ _ _ h]; rfl
  · rw [cell_of_row _ _ _ _ _ _ h]; rfl
theorem MatAt.below {w w1 : World} {bm pa : Nat} {s t : Int} (h : MatAt w bm pa s t) (hb : Below w.heap.size w w1) : MatAt w1 bm pa s t := (hb.block bm (Array.getElem?_eq_some_iff.1 h).1).trans h
theorem MatAt.set1 {w : World} {bm pa : Nat} {s t : Int} (h : MatAt w bm pa s t) (z : Int) : MatAt (w.setCell ⟨bm, 1, none⟩ (.int .i64 z)) bm pa z t := by
  have := heap_setCell_same w bm 1 _ _ (.int .i64 z) h
  unfold MatAt
  simpa using this
theorem MatAt.set2 {w : World} {bm pa : Nat} {s t : Int} (h : MatAt w bm pa s t) (z : Int) : MatAt (w.setCell ⟨bm, 2, none⟩ (.int .i64 z)) bm pa s z := by
  have := heap_setCell_same w bm 2 _ _ (.int .i64 z) h
  unfold MatAt
  simpa using this
theorem new_calls (w : World) (pa : Nat) : Calls Try.prog 42 #[.pointer (some ⟨pa, 0, none⟩)] w fun e w' => ∃ bm, e = .returned (.tuple #[.pointer (some ⟨bm, 0, none⟩), .int .i64 0]) ∧ bm = w.heap.size ∧ MatAt w' bm pa 0 0 ∧ Below w.heap.size w w' := by
  go_enter Try.func42, Try.ntmps42
  go_wp2
  go_ret2
  exact ⟨_, rfl, rfl, heap_alloc_new w _, (Below.refl _ w).alloc (Nat.le_refl _) _⟩
theorem new_none (w : World) : Calls Try.prog 42 #[.pointer none] w fun e w' => e = .returned (.tuple #[.pointer none, .int .i64 1]) ∧ ∃ q, w' = w.drewN q := by
  go_enter Try.func42, Try.ntmps42
  go_wp2
  go_ret2
  first | exact ⟨rfl, 0, rfl⟩ | exact ⟨rfl, 1, rfl⟩
theorem state_calls (w : World) (bm pa : Nat) (s t : Int) (h : MatAt w bm pa s t) : Calls Try.prog 46 #[.pointer (some ⟨bm, 0, none⟩)] w fun e w' => e = .returned (.int .i64 s) ∧ ∃ q, w' = w.drewN q := by
  obtain ⟨c0, c1, c2, cf⟩ := h.cells
  go_enter Try.func46, Try.ntmps46
  go_wp2
  go_ret
  first | exact ⟨rfl, 0, rfl⟩ | exact ⟨rfl, 1, rfl⟩
theorem at_calls (w : World) (bm pa : Nat) (s t : Int) (h : MatAt w bm pa s t) : Calls Try.prog 44 #[.pointer (some ⟨bm, 0, none⟩)] w fun e w' => e = .returned (.int .i64 t) ∧ ∃ q, w' = w.drewN q := by
  obtain ⟨c0, c1, c2, cf⟩ := h.cells
  go_enter Try.func44, Try.ntmps44
  go_wp2
  go_ret
  first | exact ⟨rfl, 0, rfl⟩ | exact ⟨rfl, 1, rfl⟩
theorem MachAt.set {w : World} {pa : Nat} {ps : List Wd} (h : MachAt w pa ps) {bm : Nat} {cells : Array Value} (hb : w.heap[bm]? = some (.cells cells 91 (0, 0))) (j : Nat) (u : Value) : MachAt (w.setCell ⟨bm, j, none⟩ u) pa ps := by
  obtain ⟨base, gn, cn, gx, nds, h1, h2, h3, h4, ⟨cur, h5, h6⟩, h7⟩ := h.auto
  have e : ∀ k, k ≠ bm → (w.setCell ⟨bm, j, none⟩ u).heap[k]? = w.heap[k]? := fun k hk => Below.heap_setCell w ⟨bm, j, none⟩ u k hk
  exact ⟨h.zero, h.bytes, base, gn, cn, gx, nds, (e pa (ne_of_types h1 hb (by decide))).trans h1, h2.keep (KeepN.setCell hb (by decide) (by decide) j u), h3, h4, ⟨cur, (e gx (ne_of_types h5 hb (by decide))).trans h5, h6⟩, h7⟩
theorem MachAt.drewN {w : World} {pa : Nat} {ps : List Wd} (h : MachAt w pa ps) (q : Nat) : MachAt (w.drewN q) pa ps := h.below (below_drewN' (Below.refl _ _) q)
theorem grown_set0 {w : World} (bm j : Nat) (u : Value) : w.grownBy (w.setCell ⟨bm, j, none⟩ u) (some bm) :=
  ⟨rfl, rfl, rfl, by simp [World.setCell], fun k hk hne => Below.heap_setCell w ⟨bm, j, none⟩ u k (fun e => hne (by rw [e]))⟩
theorem grown_setN {w : World} (bm j q : Nat) (u : Value) : w.grownBy ((w.drewN q).setCell ⟨bm, j, none⟩ u) (some bm) :=
  ⟨rfl, rfl, rfl, by simp [World.setCell], fun k hk hne => Below.heap_setCell (w.drewN q) ⟨bm, j, none⟩ u k (fun e => hne (by rw [e]))⟩
/-- The greatest place. -/
def atT (t : Int) : Int := if 4611686018427387904 < t + 1 then 4611686018427387904 else t + 1
set_option maxHeartbeats 2000000 in
set_option maxRecDepth 1000000 in
theorem step_calls (w : World) (bm pa : Nat) (ps : List Wd) (s t b : Int) (h : MatAt w bm pa s t) (hm : MachAt w pa ps) (hb : 0 ≤ b ∧ b ≤ 255) (ht : 0 ≤ t ∧ t ≤ 4611686018427387904) : Calls Try.prog 43 #[.pointer (some ⟨bm, 0, none⟩), .int .u8 b] w fun e w' => ∃ v, e = .returned v ∧ OwnI w' w.heap.size v (outT ps (nextT ps s b)) ∧ MatAt w' bm pa (nextT ps s b) (atT t) ∧ w.grownBy w' (some bm) := by
  obtain ⟨c0, c1, c2, cf⟩ := h.cells
  have HN := Lib.hid (next_calls w.drew pa ps s b (hm.below (below_drewN' (Below.refl _ _) 1)) hb)
  have HM := Lib.hid hm
  have HH := Lib.hid h
  clear hm h
  obtain ⟨s2, hs2⟩ : ∃ s2, nextT ps s b = s2 := ⟨_, rfl⟩
  rw [hs2] at HN ⊢
  clear hs2
  go_enter Try.func43, Try.ntmps43
  go_wp2_with fail
  refine start_ (n := 16) (S := (fun w' => w'.cell? ⟨bm, 0, none⟩ = some (.pointer (some ⟨pa, 0, none⟩)) ∧ w'.cell? ⟨bm, 1, none⟩ = some (.int .i64 s))) (ds := [15]) #[false, false, false, false, false, false, false, false, false, false, false, false, false, false, false, false] (by kernel_rfl) rfl rfl ?_ (fun hHeld => ?_)
  · exact ⟨c0, c1⟩
  refine pure_ (i := 0) (N := some 7) (v := ?_) (a' := ?_) #[true, false, false, false, false, false, false, false, false, false, false, false, false, false, false, false] rfl rfl (by kernel_rfl) (fun _ _ _ h => h) (Or.inl ⟨by rfl, ?_⟩) ?_ ?_
  rotate_left
  · intro w'
    go_simp
    with_reducible rfl
  rotate_left
  · simp only [Act.put, List.setIfInBounds_toArray, List.set_cons_zero, List.set_cons_succ, i64_w, i32_w]
    rfl
  refine pure_ (i := 1) (N := some 8) (v := ?_) (a' := ?_) #[true, true, false, false, false, false, false, false, false, false, false, false, false, false, false, false] rfl rfl (by kernel_rfl) (fun _ _ _ h => h) (Or.inl ⟨by rfl, ?_⟩) ?_ ?_
  rotate_left
  · intro w'
    go_simp
    with_reducible rfl
  rotate_left
  · simp only [Act.put, List.setIfInBounds_toArray, List.set_cons_zero, List.set_cons_succ, i64_w, i32_w]
    rfl
  refine pure_ (i := 2) (N := some 9) (v := ?_) (a' := ?_) #[true, true, true, false, false, false, false, false, false, false, false, false, false, false, false, false] rfl rfl (by kernel_rfl) (fun _ _ _ h => h) (Or.inl ⟨by rfl, ?_⟩) ?_ ?_
  rotate_left
  · intro w'
    go_simp
    with_reducible rfl
  rotate_left
  · simp only [Act.put, List.setIfInBounds_toArray, List.set_cons_zero, List.set_cons_succ, i64_w, i32_w]
    rfl
  refine pure_ (i := 3) (N := some 10) (v := ?_) (a' := ?_) #[true, true, true, true, false, false, false, false, false, false, false, false, false, false, false, false] rfl rfl (by kernel_rfl) (fun _ _ _ h => h) (Or.inl ⟨by rfl, ?_⟩) ?_ ?_
  rotate_left
  · intro w'
    go_simp
    with_reducible rfl
  rotate_left
  · simp only [Act.put, List.setIfInBounds_toArray, List.set_cons_zero, List.set_cons_succ, i64_w, i32_w]
    rfl
  refine take_ (i := 4) (N := some 11) (v := ?_) (a' := ?_) #[true, true, true, true, true, false, false, false, false, false, false, false, false, false, false, false] rfl rfl (by kernel_rfl) (fun _ _ _ h => h) (Or.inl ⟨by rfl, ?_⟩) hHeld ?_ ?_
  rotate_left
  · rintro w' ⟨s0, s1⟩
    go_simp
    with_reducible rfl
  rotate_left
  · simp only [Act.put, List.setIfInBounds_toArray, List.set_cons_zero, List.set_cons_succ, i64_w, i32_w]
    rfl
  refine pure_ (i := 5) (N := some 12) (v := ?_) (a' := ?_) #[true, true, true, true, true, true, false, false, false, false, false, false, false, false, false, false] rfl rfl (by kernel_rfl) (fun _ _ _ h => h) (Or.inl ⟨by rfl, ?_⟩) ?_ ?_
  rotate_left
  · intro w'
    go_simp
    with_reducible rfl
  rotate_left
  · simp only [Act.put, List.setIfInBounds_toArray, List.set_cons_zero, List.set_cons_succ, i64_w, i32_w]
    rfl
  refine pure_ (i := 6) (N := some 13) (v := ?_) (a' := ?_) #[true, true, true, true, true, true, true, false, false, false, false, false, false, false, false, false] rfl rfl (by kernel_rfl) (fun _ _ _ h => h) (Or.inl ⟨by rfl, ?_⟩) ?_ ?_
  rotate_left
  · intro w'
    go_simp
    with_reducible rfl
  rotate_left
  · simp only [Act.put, List.setIfInBounds_toArray, List.set_cons_zero, List.set_cons_succ, i64_w, i32_w]
    rfl
  refine pure_ (i := 7) (N := some 14) (v := ?_) (a' := ?_) #[true, true, true, true, true, true, true, true, false, false, false, false, false, false, false, false] rfl rfl (by kernel_rfl) (fun _ _ _ h => h) (Or.inl ⟨by rfl, ?_⟩) ?_ ?_
  rotate_left
  · intro w'
    go_simp
    with_reducible rfl
  rotate_left
  · simp only [Act.put, List.setIfInBounds_toArray, List.set_cons_zero, List.set_cons_succ, i64_w, i32_w]
    rfl
  refine pure_ (i := 8) (N := some 15) (v := ?_) (a' := ?_) #[true, true, true, true, true, true, true, true, true, false, false, false, false, false, false, false] rfl rfl (by kernel_rfl) (fun _ _ _ h => h) (Or.inl ⟨by rfl, ?_⟩) ?_ ?_
  rotate_left
  · intro w'
    go_simp
    with_reducible rfl
  rotate_left
  · simp only [Act.put, List.setIfInBounds_toArray, List.set_cons_zero, List.set_cons_succ, i64_w, i32_w]
    rfl
  refine take_ (i := 9) (N := some 16) (v := ?_) (a' := ?_) #[true, true, true, true, true, true, true, true, true, true, false, false, false, false, false, false] rfl rfl (by kernel_rfl) (fun _ _ _ h => h) (Or.inl ⟨by rfl, ?_⟩) hHeld ?_ ?_
  rotate_left
  · rintro w' ⟨s0, s1⟩
    go_simp
    with_reducible rfl
  rotate_left
  · simp only [Act.put, List.setIfInBounds_toArray, List.set_cons_zero, List.set_cons_succ, i64_w, i32_w]
    rfl
  refine pure_ (i := 10) (N := some 17) (v := ?_) (a' := ?_) #[true, true, true, true, true, true, true, true, true, true, true, false, false, false, false, false] rfl rfl (by kernel_rfl) (fun _ _ _ h => h) (Or.inl ⟨by rfl, ?_⟩) ?_ ?_
  rotate_left
  · intro w'
    go_simp
    with_reducible rfl
  rotate_left
  · simp only [Act.put, List.setIfInBounds_toArray, List.set_cons_zero, List.set_cons_succ, i64_w, i32_w]
    rfl
  refine one_ (i := 11) (N := some 18) #[true, true, true, true, true, true, true, true, true, true, true, true, false, false, false, false] rfl rfl (by kernel_rfl) (by decide) (fun K hK => ?_)
  refine call_ 21 #[.pointer (some ⟨pa, 0, none⟩), .int .i64 s, .int .u8 b] (by rfl) rfl (by go_simp) ?_
  refine HN.out.mono ?_
  rintro e w1 ⟨rfl, q, rfl⟩
  refine ⟨_, rfl, ?_⟩
  refine hK.out _ _ ⟨c0, c1⟩ (fun hHeld => ?_)
  clear hK K
  refine norm_ (a' := ?_) ?_ ?_
  rotate_left
  · show Act.put _ (some 18) _ = _
    simp only [Act.put, List.setIfInBounds_toArray, List.set_cons_zero, List.set_cons_succ, i64_w, i32_w]
    rfl
  refine pure_ (i := 12) (N := some 19) (v := ?_) (a' := ?_) #[true, true, true, true, true, true, true, true, true, true, true, true, true, false, false, false] rfl rfl (by kernel_rfl) (fun _ _ _ h => h) (Or.inl ⟨by rfl, ?_⟩) ?_ ?_
  rotate_left
  · intro w'
    go_simp
    with_reducible rfl
  rotate_left
  · simp only [Act.put, List.setIfInBounds_toArray, List.set_cons_zero, List.set_cons_succ, i64_w, i32_w]
    rfl
  refine pure_ (i := 13) (N := some 20) (v := ?_) (a' := ?_) #[true, true, true, true, true, true, true, true, true, true, true, true, true, true, false, false] rfl rfl (by kernel_rfl) (fun _ _ _ h => h) (Or.inl ⟨by rfl, ?_⟩) ?_ ?_
  rotate_left
  · intro w'
    go_simp
    with_reducible rfl
  rotate_left
  · simp only [Act.put, List.setIfInBounds_toArray, List.set_cons_zero, List.set_cons_succ, i64_w, i32_w]
    rfl
  refine pure_ (i := 14) (N := some 21) (v := ?_) (a' := ?_) #[true, true, true, true, true, true, true, true, true, true, true, true, true, true, true, false] rfl rfl (by kernel_rfl) (fun _ _ _ h => h) (Or.inl ⟨by rfl, ?_⟩) ?_ ?_
  rotate_left
  · intro w'
    go_simp
    with_reducible rfl
  rotate_left
  · simp only [Act.put, List.setIfInBounds_toArray, List.set_cons_zero, List.set_cons_succ, i64_w, i32_w]
    rfl
  refine last_ (i := 15) (N := none) #[true, true, true, true, true, true, true, true, true, true, true, true, true, true, true, true] rfl rfl (by kernel_rfl) (by decide) (fun K hK => ?_)
  refine skip_ (w1 := ?_) (by rfl) rfl ?_ ?_
  rotate_left
  · go_simp
    rfl
  refine hK.out _ _ ?_
  clear hK K
  refine done_ (by kernel_rfl) ?_
  have HW : Hid (MatAt ((w.drewN (1 + q)).setCell ⟨bm, 1, none⟩ (.int .i64 s2)) bm pa s2 t) := MatAt.set1 (w := w.drewN (1 + q)) HH.out s2
  have HMM : Hid (MachAt ((w.drewN (1 + q)).setCell ⟨bm, 1, none⟩ (.int .i64 s2)) pa ps) := MachAt.set (w := w.drewN (1 + q)) (HM.out.drewN (1 + q)) HH.out 1 _
  have HG : Hid (w.grownBy ((w.drewN (1 + q)).setCell ⟨bm, 1, none⟩ (.int .i64 s2)) (some bm)) := grown_setN bm 1 (1 + q) _
  generalize (w.drewN (1 + q)).setCell ⟨bm, 1, none⟩ (.int .i64 s2) = w2 at HW HMM HG ⊢
  obtain ⟨d0, d1, d2, df⟩ := HW.out.cells
  have hw1 : IntKind.i64.wrap (t + 1) = t + 1 := by rw [IntKind.wrap_i64]; omega
  have hmin : ∀ ats ty, Builtin.min_ ats ty #[.int .i64 (t + 1), .int .i64 4611686018427387904] = pure (.int .i64 (atT t)) := fun ats ty => by
    rw [min_two, min2_int]; rfl
  clear HN c0 c1 c2 cf hHeld HM HH
  go_wp2_with fail
  have HW3 : Hid (MatAt (w2.setCell ⟨bm, 2, none⟩ (.int .i64 (atT t))) bm pa s2 (atT t)) := HW.out.set2 _
  have HM3 : Hid (MachAt (w2.setCell ⟨bm, 2, none⟩ (.int .i64 (atT t))) pa ps) := HMM.out.set HW.out 2 _
  have HG3 : Hid (w.grownBy (w2.setCell ⟨bm, 2, none⟩ (.int .i64 (atT t))) (some bm)) := HG.out.trans (grown_set0 bm 2 _)
  generalize w2.setCell ⟨bm, 2, none⟩ (.int .i64 (atT t)) = w3 at HW3 HM3 HG3 ⊢
  clear HW HMM HG d0 d1 d2 df hmin hw1
  obtain ⟨d0, d1, d2, df⟩ := HW3.out.cells
  have HO := Lib.hid (out_calls w3.drew pa ps s2 (HM3.out.drewN 1))
  refine start_ (n := 11) (S := (fun w' => w'.cell? ⟨bm, 0, none⟩ = some (.pointer (some ⟨pa, 0, none⟩)) ∧ w'.cell? ⟨bm, 1, none⟩ = some (.int .i64 s2))) (ds := []) #[false, false, false, false, false, false, false, false, false, false, false] (by kernel_rfl) rfl rfl ?_ (fun hHeld => ?_)
  · exact ⟨d0, d1⟩
  refine pure_ (i := 0) (N := some 33) (v := ?_) (a' := ?_) #[true, false, false, false, false, false, false, false, false, false, false] rfl rfl (by kernel_rfl) (fun _ _ _ h => h) (Or.inl ⟨by rfl, ?_⟩) ?_ ?_
  rotate_left
  · intro w'
    go_simp
    with_reducible rfl
  rotate_left
  · simp only [Act.put, List.setIfInBounds_toArray, List.set_cons_zero, List.set_cons_succ, i64_w, i32_w]
    rfl
  refine pure_ (i := 1) (N := some 34) (v := ?_) (a' := ?_) #[true, true, false, false, false, false, false, false, false, false, false] rfl rfl (by kernel_rfl) (fun _ _ _ h => h) (Or.inl ⟨by rfl, ?_⟩) ?_ ?_
  rotate_left
  · intro w'
    go_simp
    with_reducible rfl
  rotate_left
  · simp only [Act.put, List.setIfInBounds_toArray, List.set_cons_zero, List.set_cons_succ, i64_w, i32_w]
    rfl
  refine pure_ (i := 2) (N := some 35) (v := ?_) (a' := ?_) #[true, true, true, false, false, false, false, false, false, false, false] rfl rfl (by kernel_rfl) (fun _ _ _ h => h) (Or.inl ⟨by rfl, ?_⟩) ?_ ?_
  rotate_left
  · intro w'
    go_simp
    with_reducible rfl
  rotate_left
  · simp only [Act.put, List.setIfInBounds_toArray, List.set_cons_zero, List.set_cons_succ, i64_w, i32_w]
    rfl
  refine take_ (i := 3) (N := some 36) (v := ?_) (a' := ?_) #[true, true, true, true, false, false, false, false, false, false, false] rfl rfl (by kernel_rfl) (fun _ _ _ h => h) (Or.inl ⟨by rfl, ?_⟩) hHeld ?_ ?_
  rotate_left
  · rintro w' ⟨s0, s1⟩
    go_simp
    with_reducible rfl
  rotate_left
  · simp only [Act.put, List.setIfInBounds_toArray, List.set_cons_zero, List.set_cons_succ, i64_w, i32_w]
    rfl
  refine pure_ (i := 4) (N := some 37) (v := ?_) (a' := ?_) #[true, true, true, true, true, false, false, false, false, false, false] rfl rfl (by kernel_rfl) (fun _ _ _ h => h) (Or.inl ⟨by rfl, ?_⟩) ?_ ?_
  rotate_left
  · intro w'
    go_simp
    with_reducible rfl
  rotate_left
  · simp only [Act.put, List.setIfInBounds_toArray, List.set_cons_zero, List.set_cons_succ, i64_w, i32_w]
    rfl
  refine pure_ (i := 5) (N := some 38) (v := ?_) (a' := ?_) #[true, true, true, true, true, true, false, false, false, false, false] rfl rfl (by kernel_rfl) (fun _ _ _ h => h) (Or.inl ⟨by rfl, ?_⟩) ?_ ?_
  rotate_left
  · intro w'
    go_simp
    with_reducible rfl
  rotate_left
  · simp only [Act.put, List.setIfInBounds_toArray, List.set_cons_zero, List.set_cons_succ, i64_w, i32_w]
    rfl
  refine pure_ (i := 6) (N := some 39) (v := ?_) (a' := ?_) #[true, true, true, true, true, true, true, false, false, false, false] rfl rfl (by kernel_rfl) (fun _ _ _ h => h) (Or.inl ⟨by rfl, ?_⟩) ?_ ?_
  rotate_left
  · intro w'
    go_simp
    with_reducible rfl
  rotate_left
  · simp only [Act.put, List.setIfInBounds_toArray, List.set_cons_zero, List.set_cons_succ, i64_w, i32_w]
    rfl
  refine pure_ (i := 7) (N := some 40) (v := ?_) (a' := ?_) #[true, true, true, true, true, true, true, true, false, false, false] rfl rfl (by kernel_rfl) (fun _ _ _ h => h) (Or.inl ⟨by rfl, ?_⟩) ?_ ?_
  rotate_left
  · intro w'
    go_simp
    with_reducible rfl
  rotate_left
  · simp only [Act.put, List.setIfInBounds_toArray, List.set_cons_zero, List.set_cons_succ, i64_w, i32_w]
    rfl
  refine take_ (i := 8) (N := some 41) (v := ?_) (a' := ?_) #[true, true, true, true, true, true, true, true, true, false, false] rfl rfl (by kernel_rfl) (fun _ _ _ h => h) (Or.inl ⟨by rfl, ?_⟩) hHeld ?_ ?_
  rotate_left
  · rintro w' ⟨s0, s1⟩
    go_simp
    with_reducible rfl
  rotate_left
  · simp only [Act.put, List.setIfInBounds_toArray, List.set_cons_zero, List.set_cons_succ, i64_w, i32_w]
    rfl
  refine one_ (i := 9) (N := some 42) #[true, true, true, true, true, true, true, true, true, true, false] rfl rfl (by kernel_rfl) (by decide) (fun K hK => ?_)
  refine call_ 22 #[.pointer (some ⟨pa, 0, none⟩), .int .i64 s2] (by rfl) rfl (by go_simp) ?_
  refine HO.out.mono ?_
  rintro e w5 ⟨v, rfl, ho, hbo⟩
  refine ⟨_, rfl, ?_⟩
  refine hK.out _ _ ⟨(hbo.cell (World.block_lt_of_cell? _ _ d0)).trans d0, (hbo.cell (World.block_lt_of_cell? _ _ d1)).trans d1⟩ (fun hHeld => ?_)
  clear hK K
  refine norm_ (a' := ?_) ?_ ?_
  rotate_left
  · show Act.put _ (some 42) _ = _
    simp only [Act.put, List.setIfInBounds_toArray, List.set_cons_zero, List.set_cons_succ, i64_w, i32_w]
    rfl
  refine pure_ (i := 10) (N := some 4) (v := ?_) (a' := ?_) #[true, true, true, true, true, true, true, true, true, true, true] rfl rfl (by kernel_rfl) (fun _ _ _ h => h) (Or.inl ⟨by rfl, ?_⟩) ?_ ?_
  rotate_left
  · intro w'
    go_simp
    with_reducible rfl
  rotate_left
  · simp only [Act.put, List.setIfInBounds_toArray, List.set_cons_zero, List.set_cons_succ, i64_w, i32_w]
    rfl
  refine done_ (by kernel_rfl) ?_
  have HO5 := Lib.hid ho
  have HB5 := Lib.hid (show Below w3.heap.size w3 w5 from (Below.refl _ _).drew.trans hbo)
  clear ho hbo HO hHeld
  go_wp2
  go_ret
  have hsz := HG3.out.size
  refine ⟨v, rfl, own_less HO5.out hsz, HW3.out.below HB5.out, HG3.out.trans ⟨HB5.out.os, HB5.out.tape, HB5.out.output, HB5.out.size, fun k hk _ => HB5.out.block k hk⟩⟩
end Go.Proofs.Ytdciniefkodeaaa.PAll
