/- An argument that is a slice of acts, opened. -/
import Derived.Deep.Slices
import Derived.OpenShut
import Derived.Test.YtdciniefkodeaaaQPl7HOpenP
set_option linter.unusedVariables false
namespace Go.Proofs.Ytdciniefkodeaaa.PAll
open Go.ChangeShapes Go.WideShapes Go.RowKit Go.Proofs.YtdciniefkodeaaaW.PrintWords
theorem und69 : Try.prog.underlying 69 = some (.slice 71) := Try.underlying69
structure Act4 where
  kd : Int
  b : Int
  st : Int
  t : Int
instance : Inhabited Act4 := ⟨⟨0, 0, 0, 0⟩⟩
def Act4.ok (a : Act4) : Prop := (0 ≤ a.kd ∧ a.kd ≤ 255) ∧ 0 ≤ a.b ∧ a.b ≤ 255
/-- A slice of acts that is read. -/
def ActsAt (w : World) (A : Option Addr) (acts : List Act4) : Prop := ∀ i (h : i < acts.length), acts[i].ok ∧ ∃ ad, A = some ad ∧ w.cell? (ad.add (i * 4)) = some (.int .u8 acts[i].kd) ∧ w.cell? (ad.add (i * 4 + 1)) = some (.int .u8 acts[i].b) ∧ w.cell? (ad.add (i * 4 + 2)) = some (.int .i64 acts[i].st) ∧ w.cell? (ad.add (i * 4 + 3)) = some (.int .i64 acts[i].t)
set_option maxRecDepth 100000 in
theorem open_acts {H : Type} {enc : TypeId × Value → H} {W : World} {base : Nat} {held : Bool} {a : Option Addr} {len cap : Nat} {d : DataW H} {pl : List MemPlace}
    (h : DataW.Trod enc Try.prog W base (fun _ => true) held 69 (.slice a len cap) d pl) : ∃ acts : List Act4, len = acts.length ∧ ActsAt W a acts ∧ acts.length ≤ cap ∧ acts.length ≤ 9223372036854775807 := by
  obtain ⟨fuel, hf⟩ := h
  have ce : Try.prog.cellsOf 71 = 4 := by kernel_rfl
  have c3 : Try.prog.cellsOf 3 = 1 := by kernel_rfl
  have c5 : Try.prog.cellsOf 5 = 1 := by kernel_rfl
  rcases Deep.open_slice Try.underlying69 hf with ⟨hcs, _⟩ | ⟨x, l, c, m, n, D, Pl, hcs, hb, hl, hm, hmm, _, hx⟩
  · simp [Value.cells] at hcs
    obtain ⟨rfl, rfl, rfl⟩ := hcs
    exact ⟨[], rfl, fun i hi => absurd hi (Nat.not_lt_zero i), Nat.le_refl _, by simp⟩
  · simp [Value.cells] at hcs
    obtain ⟨rfl, rfl, rfl⟩ := hcs
    have hlm : len ≤ m := by rw [hmm]; split <;> omega
    have each : ∀ i, i < len → ∃ q : Act4, q.ok ∧ W.cell? (x.add (i * 4)) = some (.int .u8 q.kd) ∧ W.cell? (x.add (i * 4 + 1)) = some (.int .u8 q.b) ∧ W.cell? (x.add (i * 4 + 2)) = some (.int .i64 q.st) ∧ W.cell? (x.add (i * 4 + 3)) = some (.int .i64 q.t) := by
      intro i hi
      obtain ⟨cs', h1, h2⟩ := hx i (by omega)
      rw [ce] at h1
      obtain ⟨_, hlen, hcell⟩ := World.cells?_some h1
      obtain ⟨xs, k, _, _, _, hxl, hf⟩ := DataW.trod_struct Try.underlying71 h2
      match xs, hxl, cs', hlen with
      | [y0, y1, y2, y3], _, [v0, v1, v2, v3], _ =>
        have g0 : DataW.trod enc Try.prog W base (fun _ => true) held k 5 (([v0, v1, v2, v3].drop 0).take (Try.prog.cellsOf 5)) = some y0 := hf 0 _ rfl
        rw [c5] at g0
        have g1 : DataW.trod enc Try.prog W base (fun _ => true) held k 5 (([v0, v1, v2, v3].drop 1).take (Try.prog.cellsOf 5)) = some y1 := hf 1 _ rfl
        rw [c5] at g1
        have g2 : DataW.trod enc Try.prog W base (fun _ => true) held k 3 (([v0, v1, v2, v3].drop 2).take (Try.prog.cellsOf 3)) = some y2 := hf 2 _ rfl
        rw [c3] at g2
        have g3 : DataW.trod enc Try.prog W base (fun _ => true) held k 3 (([v0, v1, v2, v3].drop 3).take (Try.prog.cellsOf 3)) = some y3 := hf 3 _ rfl
        rw [c3] at g3
        obtain ⟨z0, e0, _, r0⟩ := DataW.trod_int Try.underlying5 g0
        obtain ⟨z1, e1, _, r1⟩ := DataW.trod_int Try.underlying5 g1
        obtain ⟨z2, e2, _⟩ := DataW.trod_int Try.underlying3 g2
        obtain ⟨z3, e3, _⟩ := DataW.trod_int Try.underlying3 g3
        simp at e0 e1 e2 e3
        subst e0
        subst e1
        subst e2
        subst e3
        have q0 := hcell 0 (by omega)
        have q1 := hcell 1 (by omega)
        have q2 := hcell 2 (by omega)
        have q3 := hcell 3 (by omega)
        rw [Deep.add_add] at q0 q1 q2 q3
        exact ⟨⟨z0, z1, z2, z3⟩, ⟨wf_byte r0, wf_byte r1⟩, by simpa using q0, by simpa using q1, by simpa using q2, by simpa using q3⟩
    obtain ⟨Y, hY⟩ := Deep.choose_lt each
    have hlen : ((List.range len).map Y).length = len := by simp
    refine ⟨(List.range len).map Y, hlen.symm, fun i hi => ?_, by rw [hlen]; exact hl, by rw [hlen]; unfold maxLen at hm; omega⟩
    rw [hlen] at hi
    obtain ⟨h0, h1, h2, h3, h4⟩ := hY i hi
    have e : ((List.range len).map Y)[i]'(by rw [hlen]; exact hi) = Y i := by rw [List.getElem_map, List.getElem_range]
    rw [e]
    exact ⟨h0, x, rfl, h1, h2, h3, h4⟩
end Go.Proofs.Ytdciniefkodeaaa.PAll
