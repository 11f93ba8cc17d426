/- The matcher's Set and Reset, walked. -/
import Derived.Test.YtdciniefkodeaaaQPl7HMat
set_option linter.unusedVariables false
set_option linter.unusedSimpArgs false
namespace Go.Proofs.Ytdciniefkodeaaa.PAll
open Go.Sort Go.RowKit Go.Proofs.YtdciniefkodeaaaW.PrintWords Go.Proofs.YtdciniefkodeaaaW.PrintLast Go.Proofs.YtdciniefkodeaaaW.PrintMore
theorem MatAt.set12 {w : World} {bm pa : Nat} {s t : Int} (h : MatAt w bm pa s t) (z y : Int) : MatAt ((w.setCell ⟨bm, 1, none⟩ (.int .i64 z)).setCell ⟨bm, 2, none⟩ (.int .i64 y)) bm pa z y := (h.set1 z).set2 y
/-- May the matcher be set so? -/
def setT (ps : List Wd) (s t : Int) : Bool := isT (trie ps) s && decide (0 ≤ t ∧ t ≤ 4611686018427387904)
set_option maxHeartbeats 2000000 in
set_option maxRecDepth 1000000 in
theorem set_calls (w : World) (bm pa : Nat) (ps : List Wd) (s0 t0 s t : Int) (h : MatAt w bm pa s0 t0) (hm : MachAt w pa ps) : Calls Try.prog 45 #[.pointer (some ⟨bm, 0, none⟩), .int .i64 s, .int .i64 t] w fun e w' => e = .returned (.bool (setT ps s t)) ∧ MatAt w' bm pa (if setT ps s t = true then s else s0) (if setT ps s t = true then t else t0) ∧ w.grownBy w' (some bm) := by
  obtain ⟨c0, c1, c2, cf⟩ := h.cells
  have HS := Lib.hid (states_calls w pa ps hm)
  have HM := Lib.hid hm
  have HH := Lib.hid h
  have hg0 : ∀ q, w.grownBy (w.drewN q) (some bm) := fun q => ⟨rfl, rfl, rfl, Nat.le_refl _, fun _ _ _ => rfl⟩
  have HG0 := Lib.hid hg0
  clear hm h hg0
  by_cases h1 : s < 0
  · have hf : setT ps s t = false := by unfold setT isT; rw [decide_eq_false (by omega)]; rfl
    rw [hf]
    go_enter Try.func45, Try.ntmps45
    go_wp2
    go_ret
    exact ⟨rfl, HH.out, HG0.out 0⟩
  · by_cases h2 : s < ((trie ps).length : Int)
    · have hi : isT (trie ps) s = true := by unfold isT; exact decide_eq_true ⟨by omega, h2⟩
      by_cases h3 : t < 0
      · have hf : setT ps s t = false := by unfold setT; rw [hi, decide_eq_false (by omega)]; rfl
        rw [hf]
        clear hi hf
        go_enter Try.func45, Try.ntmps45
        go_wp2_with fail
        refine HS.out.mono ?_
        rintro e w1 ⟨rfl, q, rfl⟩
        go_wp2
        go_ret
        exact ⟨rfl, HH.out, HG0.out q⟩
      · by_cases h4 : 4611686018427387904 < t
        · have hf : setT ps s t = false := by unfold setT; rw [hi, decide_eq_false (by omega)]; rfl
          rw [hf]
          clear hi hf
          go_enter Try.func45, Try.ntmps45
          go_wp2_with fail
          refine HS.out.mono ?_
          rintro e w1 ⟨rfl, q, rfl⟩
          go_wp2
          go_ret
          exact ⟨rfl, HH.out, HG0.out q⟩
        · have hf : setT ps s t = true := by unfold setT; rw [hi, decide_eq_true (by omega)]; rfl
          rw [hf]
          clear hi hf
          go_enter Try.func45, Try.ntmps45
          go_wp2_with fail
          refine HS.out.mono ?_
          rintro e w1 ⟨rfl, q, rfl⟩
          go_wp2
          go_ret
          refine ⟨rfl, MatAt.set12 (w := w.drewN q) HH.out s t, ?_⟩
          exact (grown_setN bm 1 q _).trans (grown_set0 bm 2 _)
    · have hi : isT (trie ps) s = false := by unfold isT; exact decide_eq_false (fun h => h2 h.2)
      have hf : setT ps s t = false := by unfold setT; rw [hi]; rfl
      rw [hf]
      clear hi hf
      go_enter Try.func45, Try.ntmps45
      go_wp2_with fail
      refine HS.out.mono ?_
      rintro e w1 ⟨rfl, q, rfl⟩
      go_wp2
      go_ret
      exact ⟨rfl, HH.out, HG0.out q⟩
set_option maxHeartbeats 2000000 in
set_option maxRecDepth 1000000 in
theorem reset_calls (w : World) (bm pa : Nat) (s0 t0 : Int) (h : MatAt w bm pa s0 t0) : Calls Try.prog 48 #[.pointer (some ⟨bm, 0, none⟩)] w fun e w' => e = .returned (.tuple #[]) ∧ MatAt w' bm pa 0 0 ∧ w.grownBy w' (some bm) := by
  obtain ⟨c0, c1, c2, cf⟩ := h.cells
  have HH := Lib.hid h
  clear h
  go_enter Try.func48, Try.ntmps48
  go_wp2
  go_end0
  exact ⟨rfl, HH.out.set12 0 0, (grown_set0 bm 1 _).trans (grown_set0 bm 2 _)⟩
end Go.Proofs.Ytdciniefkodeaaa.PAll
