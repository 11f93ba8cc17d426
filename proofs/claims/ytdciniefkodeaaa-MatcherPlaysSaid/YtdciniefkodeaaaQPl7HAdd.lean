/- The closure of matcher.All, walked. -/
import Derived.Test.YtdciniefkodeaaaQPl7HMat2
set_option linter.unusedVariables false
set_option linter.unusedSimpArgs false
namespace Go.Proofs.Ytdciniefkodeaaa.PAll
open Go.Sort Go.RowKit Go.Proofs.YtdciniefkodeaaaW.PrintWords Go.Proofs.YtdciniefkodeaaaW.PrintLast Go.Proofs.YtdciniefkodeaaaW.PrintMore
/-- A hit: the pattern, where it ends. -/
def hitC (p e : Int) : List Value := [.int .i64 p, .slice none 0 0, .int .i64 e]
def flatH (hs : List (Int × Int)) : List Value := hs.flatMap fun h => hitC h.1 h.2
theorem flatH_snoc (hs : List (Int × Int)) (p e : Int) : flatH (hs ++ [(p, e)]) = flatH hs ++ hitC p e := by unfold flatH; rw [List.flatMap_append]; rfl
theorem infoHit : (Try.prog.info? 49).map (fun i => (i.zero, i.size, i.bytes)) = some (some (.agg #[.int .i64 0, .slice none 0 0, .int .i64 0]), 3, 40) := by kernel_rfl
/-- What the closure sees: the hits so far, how many are asked for, the matcher. -/
structure AddI (w0 w : World) (bo bq bx bm pa : Nat) (v : Value) (hs : List (Int × Int)) (most s t : Int) : Prop where
  out : w.heap[bo]? = some (.cells #[v] 42 (0, 0))
  most : w.heap[bq]? = some (.cells #[.int .i64 most] 3 (0, 0))
  box : w.heap[bx]? = some (.cells #[.pointer (some ⟨bm, 0, none⟩)] 62 (0, 0))
  mat : MatAt w bm pa s t
  own : w.ownsRow w0.heap.size 49 3 v hs.length (flatH hs)
  base : w0.heap.size ≤ w.heap.size
/-- What the closure leaves when it took the hit. -/
def AddEnd (w0 w : World) (bo bq bx bm pa : Nat) (v : Value) (hs : List (Int × Int)) (most s t id : Int) (e : Ending) (w' : World) : Prop :=
  (most ≤ (hs.length : Int) → e = .returned (.bool false) ∧ ∃ q, w' = w.drewN q) ∧
  ((hs.length : Int) < most → e = .returned (.bool true) ∧ ∃ v', AddI w0 w' bo bq bx bm pa v' (hs ++ [(id, t)]) most s t ∧ (∀ k, k < w.heap.size → k ≠ bo → some k ≠ v.ownBlock → w'.heap[k]? = w.heap[k]?) ∧ w'.os = w.os ∧ w'.tape = w.drew.tape ∧ w'.output = w.output ∧ w.heap.size ≤ w'.heap.size)
theorem add_done {w0 w w1 : World} {bo bq bx bm pa : Nat} {v v2 : Value} {hs : List (Int × Int)} {most s t id : Int} (h : AddI w0 w bo bq bx bm pa v hs most s t) (hgrow : (w.drew.alloc (.cells (hitC id t).toArray 49)).grownBy w1 v.ownBlock) (hown1 : w1.ownsRow w0.heap.size 49 3 v2 (hs.length + 1) (flatH hs ++ hitC id t)) :
    AddI w0 (w1.setCell ⟨bo, 0, none⟩ v2) bo bq bx bm pa v2 (hs ++ [(id, t)]) most s t ∧ (∀ k, k < w.heap.size → k ≠ bo → some k ≠ v.ownBlock → (w1.setCell ⟨bo, 0, none⟩ v2).heap[k]? = w.heap[k]?) ∧ (w1.setCell ⟨bo, 0, none⟩ v2).os = w.os ∧ (w1.setCell ⟨bo, 0, none⟩ v2).tape = w.drew.tape ∧ (w1.setCell ⟨bo, 0, none⟩ v2).output = w.output ∧ w.heap.size ≤ (w1.setCell ⟨bo, 0, none⟩ v2).heap.size := by
  have hvb : ∀ k ty (cells : Array Value), w.heap[k]? = some (.cells cells ty (0, 0)) → ty ≠ 49 → some k ≠ v.ownBlock := fun k ty cells hk hne e => by
    obtain ⟨c, hc⟩ := own_typed h.own k e.symm
    exact absurd rfl (ne_of_types hk hc hne)
  have hb0 := blk_kept h.out (hvb bo 42 _ h.out (by decide)) hgrow
  have he : ∀ k, k ≠ bo → (w1.setCell ⟨bo, 0, none⟩ v2).heap[k]? = w1.heap[k]? := fun k hk => Below.heap_setCell w1 ⟨bo, 0, none⟩ v2 k hk
  have hsz : (w1.setCell ⟨bo, 0, none⟩ v2).heap.size = w1.heap.size := by simp [World.setCell]
  have hs1 : w.heap.size ≤ w1.heap.size := by
    have h1 := hgrow.size
    have h2 : (w.drew.alloc (.cells (hitC id t).toArray 49)).heap.size = w.heap.size + 1 := by simp
    omega
  refine ⟨⟨?_, ?_, ?_, ?_, ?_, ?_⟩, fun k hk hne hnv => ?_, hgrow.os, hgrow.tape, hgrow.output, by rw [hsz]; exact hs1⟩
  · have := heap_setCell_same w1 bo 0 _ _ v2 hb0
    simpa using this
  · rw [he bq (ne_of_types h.most h.out (by decide))]
    exact blk_kept h.most (hvb bq 3 _ h.most (by decide)) hgrow
  · rw [he bx (ne_of_types h.box h.out (by decide))]
    exact blk_kept h.box (hvb bx 62 _ h.box (by decide)) hgrow
  · show (w1.setCell ⟨bo, 0, none⟩ v2).heap[bm]? = _
    rw [he bm (ne_of_types h.mat h.out (by decide))]
    exact blk_kept h.mat (hvb bm 91 _ h.mat (by decide)) hgrow
  · rw [List.length_append, flatH_snoc]
    refine own_move hown1 fun k hk => he k ?_
    rintro rfl
    obtain ⟨c, hc⟩ := own_typed hown1 k hk
    exact absurd rfl (ne_of_types hb0 hc (by decide))
  · rw [hsz]; exact Nat.le_trans h.base hs1
  · rw [he k hne, hgrow.block k (by simp; omega) (fun e => hnv e), Below.heap_alloc w.drew _ k hk]
    rfl
set_option maxHeartbeats 3000000 in
set_option maxRecDepth 1000000 in
theorem add_calls (w0 w : World) (bo bq bx bm pa : Nat) (v : Value) (hs : List (Int × Int)) (most s t id : Int) (h : AddI w0 w bo bq bx bm pa v hs most s t) (hl : hs.length ≤ 67108864) :
    Calls Try.prog 56 #[.int .i64 id, .pointer (some ⟨bo, 0, none⟩), .pointer (some ⟨bq, 0, none⟩), .pointer (some ⟨bx, 0, none⟩)] w (AddEnd w0 w bo bq bx bm pa v hs most s t id) := by
  have co : w.cell? ⟨bo, 0, none⟩ = some v := by rw [cell_of_row _ _ _ _ _ _ h.out]; rfl
  have cq : w.cell? ⟨bq, 0, none⟩ = some (.int .i64 most) := by rw [cell_of_row _ _ _ _ _ _ h.most]; rfl
  have cx : w.cell? ⟨bx, 0, none⟩ = some (.pointer (some ⟨bm, 0, none⟩)) := by rw [cell_of_row _ _ _ _ _ _ h.box]; rfl
  obtain ⟨_, _, ct, _⟩ := h.mat.cells
  obtain ⟨Ah, ch, hv⟩ := own_slice h.own
  have HH := Lib.hid h
  have HO := Lib.hid h.own
  have hbase := h.base
  clear h
  by_cases hm : most ≤ (hs.length : Int)
  · subst hv
    go_enter Try.func56, Try.ntmps56
    go_wp2
    go_ret
    exact ⟨fun _ => ⟨rfl, 0, rfl⟩, fun h => absurd h (by omega)⟩
  · have hvb : ∀ k ty (cells : Array Value), w.heap[k]? = some (.cells cells ty (0, 0)) → ty ≠ 49 → some k ≠ v.ownBlock := fun k ty cells hk hne e => by
      obtain ⟨c, hc⟩ := own_typed HO.out k e.symm
      exact absurd rfl (ne_of_types hk hc hne)
    have hbo := hvb bo 42 _ HH.out.out (by decide)
    have KP : Hid (∀ w1, (w.drew.alloc (.cells (hitC id t).toArray 49)).grownBy w1 v.ownBlock → w1.frozen? ⟨bo, 0, none⟩ = false ∧ w1.cell? ⟨bo, 0, none⟩ = some v) := fun w1 hg => by
      have hb := blk_kept HH.out.out hbo hg
      exact ⟨frozen_of_row _ _ _ _ _ hb, by rw [cell_of_row _ _ _ _ _ _ hb]; rfl⟩
    obtain ⟨i0, hi, hz0, hz1, hz2⟩ := info_parts infoHit
    have hmx1 : hs.length + 1 ≤ maxLen := by unfold maxLen; omega
    have hmx2 : (hs.length + 1) * 40 ≤ 140737488355328 := by omega
    have hbw1 : w0.heap.size ≤ (w.drew.alloc (.cells (hitC id t).toArray 49)).heap.size := by simp; omega
    have HVB := Lib.hid hvb
    clear hvb
    subst hv
    go_enter Try.func56, Try.ntmps56
    go_wp2_with fail
    refine start_ (n := 11) (S := (fun w' => w'.cell? ⟨bo, 0, none⟩ = some (.slice Ah hs.length ch) ∧ w'.cell? ⟨bx, 0, none⟩ = some (.pointer (some ⟨bm, 0, none⟩)) ∧ w'.cell? ⟨bm, 2, none⟩ = some (.int .i64 t))) (ds := [9, 10]) #[false, false, false, false, false, false, false, false, false, false, false] (by kernel_rfl) rfl rfl ?_ (fun hHeld => ?_)
    · exact ⟨co, cx, ct⟩
    refine take_ (i := 0) (N := some 10) (v := ?_) (a' := ?_) #[true, false, false, false, false, false, false, false, false, false, false] rfl rfl (by kernel_rfl) (fun _ _ _ h => h) (Or.inl ⟨by rfl, ?_⟩) hHeld ?_ ?_
    rotate_left
    · rintro w' ⟨s0, s1, s2⟩
      go_simp
      with_reducible rfl
    rotate_left
    · simp only [Act.put, List.setIfInBounds_toArray, List.set_cons_zero, List.set_cons_succ, i64_w, i32_w]
      rfl
    refine pure_ (i := 1) (N := some 11) (v := ?_) (a' := ?_) #[true, true, false, false, false, false, false, false, false, false, false] rfl rfl (by kernel_rfl) (fun _ _ _ h => h) (Or.inl ⟨by rfl, ?_⟩) ?_ ?_
    rotate_left
    · intro w'
      go_simp
      with_reducible rfl
    rotate_left
    · simp only [Act.put, List.setIfInBounds_toArray, List.set_cons_zero, List.set_cons_succ, i64_w, i32_w]
      rfl
    refine take_ (i := 2) (N := some 12) (v := ?_) (a' := ?_) #[true, true, true, false, false, false, false, false, false, false, false] rfl rfl (by kernel_rfl) (fun _ _ _ h => h) (Or.inl ⟨by rfl, ?_⟩) hHeld ?_ ?_
    rotate_left
    · rintro w' ⟨s0, s1, s2⟩
      go_simp
      with_reducible rfl
    rotate_left
    · simp only [Act.put, List.setIfInBounds_toArray, List.set_cons_zero, List.set_cons_succ, i64_w, i32_w]
      rfl
    refine pure_ (i := 3) (N := some 13) (v := ?_) (a' := ?_) #[true, true, true, true, false, false, false, false, false, false, false] rfl rfl (by kernel_rfl) (fun _ _ _ h => h) (Or.inl ⟨by rfl, ?_⟩) ?_ ?_
    rotate_left
    · intro w'
      go_simp
      with_reducible rfl
    rotate_left
    · simp only [Act.put, List.setIfInBounds_toArray, List.set_cons_zero, List.set_cons_succ, i64_w, i32_w]
      rfl
    refine pure_ (i := 4) (N := some 14) (v := ?_) (a' := ?_) #[true, true, true, true, true, false, false, false, false, false, false] rfl rfl (by kernel_rfl) (fun _ _ _ h => h) (Or.inl ⟨by rfl, ?_⟩) ?_ ?_
    rotate_left
    · intro w'
      go_simp
      with_reducible rfl
    rotate_left
    · simp only [Act.put, List.setIfInBounds_toArray, List.set_cons_zero, List.set_cons_succ, i64_w, i32_w]
      rfl
    refine pure_ (i := 5) (N := some 15) (v := ?_) (a' := ?_) #[true, true, true, true, true, true, false, false, false, false, false] rfl rfl (by kernel_rfl) (fun _ _ _ h => h) (Or.inl ⟨by rfl, ?_⟩) ?_ ?_
    rotate_left
    · intro w'
      go_simp
      with_reducible rfl
    rotate_left
    · simp only [Act.put, List.setIfInBounds_toArray, List.set_cons_zero, List.set_cons_succ, i64_w, i32_w]
      rfl
    refine take_ (i := 6) (N := some 16) (v := ?_) (a' := ?_) #[true, true, true, true, true, true, true, false, false, false, false] rfl rfl (by kernel_rfl) (fun _ _ _ h => h) (Or.inl ⟨by rfl, ?_⟩) hHeld ?_ ?_
    rotate_left
    · rintro w' ⟨s0, s1, s2⟩
      go_simp
      with_reducible rfl
    rotate_left
    · simp only [Act.put, List.setIfInBounds_toArray, List.set_cons_zero, List.set_cons_succ, i64_w, i32_w]
      rfl
    refine pure_ (i := 7) (N := some 17) (v := ?_) (a' := ?_) #[true, true, true, true, true, true, true, true, false, false, false] rfl rfl (by kernel_rfl) (fun _ _ _ h => h) (Or.inl ⟨by rfl, ?_⟩) ?_ ?_
    rotate_left
    · intro w'
      go_simp
      with_reducible rfl
    rotate_left
    · simp only [Act.put, List.setIfInBounds_toArray, List.set_cons_zero, List.set_cons_succ, i64_w, i32_w]
      rfl
    refine one_ (i := 8) (N := some 18) #[true, true, true, true, true, true, true, true, true, false, false] rfl rfl (by kernel_rfl) (by decide) (fun K hK => ?_)
    refine value_ (v := ?_) (w1 := ?_) (by rfl) rfl ?_ ?_
    rotate_left 2
    · go_simp
      first | rfl | (refine ⟨?_, ?_⟩ <;> rfl)
    refine hK.out _ _ ⟨cell_alloc_drew_ hHeld.1, cell_alloc_drew_ hHeld.2.1, cell_alloc_drew_ hHeld.2.2⟩ (fun hHeld => ?_)
    clear hK K
    refine norm_ (a' := ?_) ?_ ?_
    rotate_left
    · show Act.put _ (some 18) _ = _
      simp only [Act.put, List.setIfInBounds_toArray, List.set_cons_zero, List.set_cons_succ, i64_w, i32_w]
      rfl
    refine last_ (i := 9) (N := some 19) #[true, true, true, true, true, true, true, true, true, true, false] rfl rfl (by kernel_rfl) (by decide) (fun K hK => ?_)
    refine step_append_lies _ (by rfl) _ _ _ (by rfl) w0.heap.size 49 i0 _ 3 40 Try.underlying42 hi hz0 hz1 hz2 rfl (by decide) _ hs.length (flatH hs) (by rfl) (HO.out.drew_alloc_ _) ⟨w.heap.size, 0, none⟩ 1 1 (hitC id t) (by rfl) (by rfl) (World.news_of_block (cs := (hitC id t).toArray) (t := 49) (fr := (0, 0)) (heap_alloc_new w.drew _)) (by simp [Value.oneCell', hitC]) (by decide) hmx1 hmx2 hbw1 (w.heap.size + 1) (by simp) ?_
    intro g2 cap w1 hown1 hgrow hat hlt
    have HK := KP.out w1 hgrow
    have hfz : w1.frozen? ⟨bo, 0, none⟩ = false := HK.1
    have hcp : w1.cell? ⟨bo, 0, none⟩ = some (.slice Ah hs.length ch) := HK.2
    refine hK.out _ _ ?_
    clear hK K
    refine norm_ (a' := ?_) ?_ ?_
    rotate_left
    · show Act.put _ (some 19) _ = _
      simp only [Act.put, List.setIfInBounds_toArray, List.set_cons_zero, List.set_cons_succ, i64_w, i32_w]
      rfl
    refine last_ (i := 10) (N := none) #[true, true, true, true, true, true, true, true, true, true, true] rfl rfl (by kernel_rfl) (by decide) (fun K hK => ?_)
    refine skip_ (w1 := ?_) (by rfl) rfl ?_ ?_
    rotate_left
    · go_simp
      rfl
    refine hK.out _ _ ?_
    clear hK K
    refine done_ (by kernel_rfl) ?_
    have hdone := add_done HH.out hgrow hown1
    have HD := Lib.hid hdone
    clear hdone hgrow hown1 HK hfz hcp KP HVB hHeld
    go_wp2
    go_ret
    exact ⟨fun h => absurd h (by omega), fun _ => ⟨rfl, _, HD.out⟩⟩
end Go.Proofs.Ytdciniefkodeaaa.PAll
