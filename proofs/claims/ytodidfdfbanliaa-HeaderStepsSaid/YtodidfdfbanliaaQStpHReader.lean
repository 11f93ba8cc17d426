/- A header's reader in memory: what its blocks hold, how its stores turn them, and New. -/
import Derived.Lib.Hide
import Derived.Outline
import Derived.Laws.MakeOwn
import Derived.BigRegion
import Derived.Test.YtodidfdfbanliaaQStpHLine
import Derived.Test.YtodidfdfbanliaaQStpHTrim
set_option linter.unusedVariables false
namespace Go.Proofs.Ytodidfdfbanliaa.PAll
open Go.RowKit Go.Proofs.YtodidfdfbanliaaW.PrintWords Go.Proofs.YtodidfdfbanliaaW.PrintLast
/-- The slice v is a row of bytes of the call's own that holds these. -/
def OwnL (w : World) (base : Nat) (v : Value) (L : List Int) : Prop := w.ownsRow base 5 1 v L.length (nums .u8 L)
/-- The reader at block b. -/
def RdAt (w : World) (base b : Nat) (most n : Int) (vl : Value) (L : List Int) (vf : Value) (fs : List S42) (done : Bool) (why : Int) : Prop :=
  base ≤ b ∧ w.heap[b]? = some (.cells #[.int .i64 most, .int .i64 n, vl, vf, .bool done, .int .i64 why] 83 (0, 0)) ∧ OwnL w base vl L ∧ OwnF w base vf fs
section
variable {w w1 : World} {base b : Nat} {most n : Int} {vl vf : Value} {L : List Int} {fs : List S42} {done : Bool} {why : Int}
theorem OwnL.ne (h : OwnL w base vl L) {o : Obj} (hb : w.heap[b]? = some o) (ho : ∀ cs fr, o ≠ .cells cs 5 fr) : vl.ownBlock ≠ some b := by
  intro e
  obtain ⟨cells, hc⟩ := own_typed h b e
  rw [hb] at hc
  injection hc with hc
  exact ho _ _ hc
theorem OwnL.form (h : OwnL w base vl L) : ∃ A c, vl = .slice A L.length c := own_slice h
theorem OwnL.setOther (h : OwnL w base vl L) (hne : vl.ownBlock ≠ some b) (j : Nat) (u : Value) : OwnL (w.setCell ⟨b, j, none⟩ u) base vl L :=
  h.kept (row := some b) ⟨rfl, rfl, rfl, by simp [World.setCell], fun k hk hkb => Below.heap_setCell _ _ _ _ (fun e => hkb (by rw [e]))⟩ (.inr hne)
theorem OwnL.below (h : OwnL w base vl L) (hb : Below w.heap.size w w1) : OwnL w1 base vl L := pw_own_below h hb
theorem RdAt.neL (h : RdAt w base b most n vl L vf fs done why) : vl.ownBlock ≠ some b := h.2.2.1.ne h.2.1 (fun cs fr e => by injection e with _ e2; exact absurd e2 (by decide))
theorem RdAt.neF (h : RdAt w base b most n vl L vf fs done why) : vf.ownBlock ≠ some b := h.2.2.2.ne h.2.1 (fun cs fr e => by injection e with _ e2; exact absurd e2 (by decide))
theorem RdAt.cell0 (h : RdAt w base b most n vl L vf fs done why) : w.cell? ⟨b, 0, none⟩ = some (.int .i64 most) := by simp [World.cell?, h.2.1]
theorem RdAt.cell1 (h : RdAt w base b most n vl L vf fs done why) : w.cell? ⟨b, 1, none⟩ = some (.int .i64 n) := by simp [World.cell?, h.2.1]
theorem RdAt.cell2 (h : RdAt w base b most n vl L vf fs done why) : w.cell? ⟨b, 2, none⟩ = some vl := by simp [World.cell?, h.2.1]
theorem RdAt.cell3 (h : RdAt w base b most n vl L vf fs done why) : w.cell? ⟨b, 3, none⟩ = some vf := by simp [World.cell?, h.2.1]
theorem RdAt.cell4 (h : RdAt w base b most n vl L vf fs done why) : w.cell? ⟨b, 4, none⟩ = some (.bool done) := by simp [World.cell?, h.2.1]
theorem RdAt.cell5 (h : RdAt w base b most n vl L vf fs done why) : w.cell? ⟨b, 5, none⟩ = some (.int .i64 why) := by simp [World.cell?, h.2.1]
theorem RdAt.frozen (h : RdAt w base b most n vl L vf fs done why) (j : Nat) : w.frozen? ⟨b, j, none⟩ = false := by simp [World.frozen?, h.2.1]
theorem RdAt.setN (h : RdAt w base b most n vl L vf fs done why) (x : Int) : RdAt (w.setCell ⟨b, 1, none⟩ (.int .i64 x)) base b most x vl L vf fs done why := by
  refine ⟨h.1, ?_, h.2.2.1.setOther h.neL 1 _, h.2.2.2.setOther h.neF 1 _⟩
  simp [World.setCell, Array.getElem?_modify, h.2.1]
theorem RdAt.setWhy (h : RdAt w base b most n vl L vf fs done why) (x : Int) : RdAt (w.setCell ⟨b, 5, none⟩ (.int .i64 x)) base b most n vl L vf fs done x := by
  refine ⟨h.1, ?_, h.2.2.1.setOther h.neL 5 _, h.2.2.2.setOther h.neF 5 _⟩
  simp [World.setCell, Array.getElem?_modify, h.2.1]
theorem RdAt.setDone (h : RdAt w base b most n vl L vf fs done why) (x : Bool) : RdAt (w.setCell ⟨b, 4, none⟩ (.bool x)) base b most n vl L vf fs x why := by
  refine ⟨h.1, ?_, h.2.2.1.setOther h.neL 4 _, h.2.2.2.setOther h.neF 4 _⟩
  simp [World.setCell, Array.getElem?_modify, h.2.1]
theorem RdAt.setLine (h : RdAt w base b most n vl L vf fs done why) {vl' : Value} {L' : List Int} (hl : OwnL w base vl' L') : RdAt (w.setCell ⟨b, 2, none⟩ vl') base b most n vl' L' vf fs done why := by
  have hn : vl'.ownBlock ≠ some b := hl.ne h.2.1 (fun cs fr e => by injection e with _ e2; exact absurd e2 (by decide))
  refine ⟨h.1, ?_, hl.setOther hn 2 _, h.2.2.2.setOther h.neF 2 _⟩
  simp [World.setCell, Array.getElem?_modify, h.2.1]
theorem RdAt.setFields (h : RdAt w base b most n vl L vf fs done why) {vf' : Value} {fs' : List S42} (hl : OwnF w base vf' fs') : RdAt (w.setCell ⟨b, 3, none⟩ vf') base b most n vl L vf' fs' done why := by
  have hn : vf'.ownBlock ≠ some b := hl.ne h.2.1 (fun cs fr e => by injection e with _ e2; exact absurd e2 (by decide))
  refine ⟨h.1, ?_, h.2.2.1.setOther h.neL 3 _, hl.setOther hn 3 _⟩
  simp [World.setCell, Array.getElem?_modify, h.2.1]
theorem RdAt.drew (h : RdAt w base b most n vl L vf fs done why) : RdAt w.drew base b most n vl L vf fs done why := ⟨h.1, h.2.1, h.2.2.1, h.2.2.2⟩
theorem RdAt.drewN (h : RdAt w base b most n vl L vf fs done why) (m : Nat) : RdAt (w.drewN m) base b most n vl L vf fs done why := ⟨h.1, h.2.1, h.2.2.1, h.2.2.2⟩
theorem RdAt.lt (h : RdAt w base b most n vl L vf fs done why) : b < w.heap.size := (Array.getElem?_eq_some_iff.1 h.2.1).1
theorem rd_below_set (hb : base ≤ b) (j : Nat) (u : Value) : Below base w (w.setCell ⟨b, j, none⟩ u) := (Below.refl _ _).setCell (p := ⟨b, j, none⟩) hb u
end
theorem rd_line_mk (m : Nat) (hm : m ≤ 65536) : ∀ W : World, (Instr.makeSlice 22 (.int .i64 0) (.int .i64 (m : Int))).run Try.prog W = .ok (.slice (some ⟨W.heap.size, 0, none⟩) 0 m) (W.alloc (.cells (madeCells #[.int .u8 0] m) 5)) := by
  intro W
  obtain ⟨i0, hi, hz0, hz1, hz2⟩ := info_parts info5
  have h := run_makeSlice (P := Try.prog) W 22 5 i0 (.int .u8 0) Try.underlying22 hi hz0 .i64 .i64 0 (m : Int) (by omega) (by omega) (by rw [hz1]; simp; omega) (by rw [hz2]; omega) (by omega)
  simpa [hz1, Value.cells] using h
theorem rd_fields_mk : ∃ cs : Array Value, cs.size = 64 * 2 ∧ ∀ W : World, (Instr.makeSlice 23 (.int .i64 0) (.int .i64 64)).run Try.prog W = .ok (.slice (some ⟨W.heap.size, 0, none⟩) 0 64) (W.alloc (.cells cs 42)) := by
  obtain ⟨i0, hi, hz0, hz1, hz2⟩ := info_parts info42
  refine ⟨_, ?_, fun W => run_makeSlice (P := Try.prog) W 23 42 i0 _ Try.underlying23 hi hz0 .i64 .i64 0 64 (by omega) (by omega) (by rw [hz1]; decide) (by rw [hz2]; decide) (by omega)⟩
  rw [size_madeCells, hz1]; rfl
theorem rd_heap_two (w : World) (o p : Obj) : ((w.alloc o).alloc p).heap[w.heap.size]? = some o ∧ ((w.alloc o).alloc p).heap[w.heap.size + 1]? = some p := by
  constructor
  · rw [Below.heap_alloc _ _ _ (by simp)]; exact heap_alloc_new w o
  · have := heap_alloc_new (w.alloc o) p
    simpa using this
theorem owns_start {W : World} {base g size c : Nat} {e : TypeId} {cs : Array Value} (hb : base ≤ g) (hg : W.heap[g]? = some (.cells cs e (0, 0))) (hc : c ≤ maxLen) (hs : cs.size = c * size) : W.ownsRow base e size (.slice (some ⟨g, 0, none⟩) 0 c) 0 [] :=
  ⟨by simp, .inr ⟨g, c, cs, rfl, hb, hg, by omega, hc, hs, by simp⟩⟩
theorem heap_three (w : World) (o p q : Obj) : (((w.alloc o).alloc p).alloc q).heap[w.heap.size]? = some o ∧ (((w.alloc o).alloc p).alloc q).heap[w.heap.size + 1]? = some p ∧ (((w.alloc o).alloc p).alloc q).heap[w.heap.size + 1 + 1]? = some q := by
  have h1 := rd_heap_two w o p
  have hs : ((w.alloc o).alloc p).heap.size = w.heap.size + 1 + 1 := by simp
  refine ⟨?_, ?_, ?_⟩
  · rw [Below.heap_alloc _ _ _ (by rw [hs]; omega)]; exact h1.1
  · rw [Below.heap_alloc _ _ _ (by rw [hs]; omega)]; exact h1.2
  · rw [← hs]; exact heap_alloc_new _ q
theorem below_three (w : World) (o p q : Obj) : Below w.heap.size w (((w.alloc o).alloc p).alloc q) := (((Below.refl _ w).alloc (Nat.le_refl _) o).alloc (by simp) p).alloc (by simp; omega) q
set_option maxHeartbeats 1000000 in
theorem new_bad (most : Int) (w : World) (h : most < 1 ∨ 65536 < most) : Calls Try.prog 33 #[.int .i64 most] w fun e w' => e = .returned (.tuple #[.pointer none, .int .i64 2]) ∧ Below w.heap.size w w' := by
  by_cases h1 : most < 1
  · clear h
    go_enter Try.func33, Try.ntmps33
    go_wp2
    go_ret2
    exact ⟨rfl, Below.refl _ _⟩
  · have h2 : 65536 < most := by omega
    clear h
    go_enter Try.func33, Try.ntmps33
    go_wp2
    go_ret2
    exact ⟨rfl, Below.refl _ _⟩
set_option maxHeartbeats 1000000 in
theorem new_ok (m : Nat) (w : World) (h1 : 1 ≤ m) (h2 : m ≤ 65536) : Calls Try.prog 33 #[.int .i64 (m : Int)] w fun e w' => ∃ b vl vf, e = .returned (.tuple #[.pointer (some ⟨b, 0, none⟩), .int .i64 0]) ∧ RdAt w' w.heap.size b m 0 vl [] vf [] false 0 ∧ Below w.heap.size w w' := by
  have hk := rd_line_mk m h2
  obtain ⟨cs, hcs, hf⟩ := rd_fields_mk
  have hm : m ≤ maxLen := by unfold maxLen; omega
  have g1 : ¬ (m : Int) < 1 := by omega
  have g2 : ¬ 65536 < (m : Int) := by omega
  clear h1 h2
  go_enter Try.func33, Try.ntmps33
  go_wp2
  go_region
  · go_wp2
    go_ret2
    have h := heap_three w (.cells (madeCells #[Value.int IntKind.u8 0] m) 5) (.cells cs 42) (.cells #[.int .i64 (m : Int), .int .i64 0, .slice (some ⟨w.heap.size, 0, none⟩) 0 m, .slice (some ⟨w.heap.size + 1, 0, none⟩) 0 64, .bool false, .int .i64 0] 83)
    exact ⟨_, _, _, rfl, RdAt.drew ⟨by omega, h.2.2, owns_start (Nat.le_refl _) h.1 hm (by simp [size_madeCells]), owns_start (by omega) h.2.1 (by decide) hcs⟩, (below_three w _ _ _).drew⟩
  · go_wp2
    go_ret2
    have h := heap_three w (.cells cs 42) (.cells (madeCells #[Value.int IntKind.u8 0] m) 5) (.cells #[.int .i64 (m : Int), .int .i64 0, .slice (some ⟨w.heap.size + 1, 0, none⟩) 0 m, .slice (some ⟨w.heap.size, 0, none⟩) 0 64, .bool false, .int .i64 0] 83)
    exact ⟨_, _, _, rfl, RdAt.drew ⟨by omega, h.2.2, owns_start (by omega) h.2.1 hm (by simp [size_madeCells]), owns_start (Nat.le_refl _) h.1 (by decide) hcs⟩, (below_three w _ _ _).drew⟩
end Go.Proofs.Ytodidfdfbanliaa.PAll
