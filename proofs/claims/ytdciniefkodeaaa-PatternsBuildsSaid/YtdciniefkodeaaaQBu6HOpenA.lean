/- An argument that is a slice of pairs of numbers, opened. -/
import Derived.Deep.Slices
import Derived.OpenShut
import Derived.Test.YtdciniefkodeaaaQBu6HOpenP
set_option linter.unusedVariables false
namespace Go.Proofs.Ytdciniefkodeaaa.PAll
open Go.ChangeShapes Go.WideShapes Go.RowKit Go.Proofs.YtdciniefkodeaaaW.PrintWords
theorem und51 : Try.prog.underlying 51 = some (.slice 59) := by kernel_rfl
theorem und59 : Try.prog.underlying 59 = some (.array 2 3) := by kernel_rfl
/-- A slice of pairs that is read. -/
def PairsAt (w : World) (A : Option Addr) (ask : List (Int × Int)) : Prop := ∀ i (h : i < ask.length), ∃ ad, A = some ad ∧ w.cell? (ad.add (i * 2)) = some (.int .i64 ask[i].1) ∧ w.cell? (ad.add (i * 2 + 1)) = some (.int .i64 ask[i].2)
set_option maxRecDepth 100000 in
theorem open_pairs {H : Type} {enc : TypeId × Value → H} {W : World} {base : Nat} {held : Bool} {a : Option Addr} {len cap : Nat} {d : DataW H} {pl : List MemPlace}
    (h : DataW.Trod enc Try.prog W base (fun _ => true) held 51 (.slice a len cap) d pl) : ∃ ask : List (Int × Int), len = ask.length ∧ PairsAt W a ask ∧ ask.length ≤ cap ∧ ask.length ≤ 9223372036854775807 := by
  obtain ⟨fuel, hf⟩ := h
  have ce : Try.prog.cellsOf 59 = 2 := by kernel_rfl
  have c3 : Try.prog.cellsOf 3 = 1 := by kernel_rfl
  rcases Deep.open_slice und51 hf with ⟨hcs, _⟩ | ⟨x, l, c, m, n, D, Pl, hcs, hb, hl, hm, hmm, _, hx⟩
  · simp [Value.cells] at hcs
    obtain ⟨rfl, rfl, rfl⟩ := hcs
    exact ⟨[], rfl, fun i hi => absurd hi (Nat.not_lt_zero i), Nat.le_refl _, by simp⟩
  · simp [Value.cells] at hcs
    obtain ⟨rfl, rfl, rfl⟩ := hcs
    have hlm : len ≤ m := by rw [hmm]; split <;> omega
    have each : ∀ i, i < len → ∃ q : Int × Int, W.cell? (x.add (i * 2)) = some (.int .i64 q.1) ∧ W.cell? (x.add (i * 2 + 1)) = some (.int .i64 q.2) := by
      intro i hi
      obtain ⟨cs', h1, h2⟩ := hx i (by omega)
      rw [ce] at h1
      obtain ⟨_, hlen, hcell⟩ := World.cells?_some h1
      obtain ⟨xs, k, _, _, _, hxl, hf⟩ := DataW.trod_array und59 h2
      match xs, hxl, cs', hlen with
      | [y0, y1], _, [v0, v1], _ =>
        have g0 := hf 0 (by omega)
        have g1 := hf 1 (by omega)
        rw [c3] at g0 g1
        simp at g0 g1
        obtain ⟨z0, e0, _⟩ := DataW.trod_int Try.underlying3 g0
        obtain ⟨z1, e1, _⟩ := DataW.trod_int Try.underlying3 g1
        simp at e0 e1
        subst e0
        subst e1
        have q0 := hcell 0 (by omega)
        have q1 := hcell 1 (by omega)
        rw [Deep.add_add] at q0 q1
        exact ⟨(z0, z1), by simpa using q0, by simpa using q1⟩
    obtain ⟨Y, hY⟩ := Deep.choose_lt each
    have hlen : ((List.range len).map Y).length = len := by simp
    refine ⟨(List.range len).map Y, hlen.symm, fun i hi => ?_, by rw [hlen]; exact hl, by rw [hlen]; unfold maxLen at hm; omega⟩
    rw [hlen] at hi
    obtain ⟨h1, h2⟩ := hY i hi
    refine ⟨x, rfl, ?_, ?_⟩
    · rw [List.getElem_map, List.getElem_range]; exact h1
    · rw [List.getElem_map, List.getElem_range]; exact h2
end Go.Proofs.Ytdciniefkodeaaa.PAll
