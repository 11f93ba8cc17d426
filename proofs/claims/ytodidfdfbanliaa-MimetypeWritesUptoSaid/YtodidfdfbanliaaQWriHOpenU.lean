/- An argument that is a slice of fields, opened where its bulk is small. -/
import Derived.Test.YtodidfdfbanliaaQWriHOpenF
import Derived.Test.YtodidfdfbanliaaQWriHBulk
set_option linter.unusedVariables false
namespace Go.Proofs.Ytodidfdfbanliaa.PAll
open Go.ChangeShapes Go.WideShapes Go.RowKit Go.Proofs.YtodidfdfbanliaaW.PrintWords
theorem open_fieldsB {H : Type} {enc : TypeId × Value → H} {W : World} {base : Nat} {spare : Nat → Bool} {held : Bool} {a : Option Addr} {len cap : Nat} {d : DataW H} {ps : List MemPlace}
    (hd : Rows.uptoBulk d ≤ 1048576) (h : DataW.Trod enc Try.prog W base spare held 23 (.slice a len cap) d ps) :
    ∃ fs : List S42, len = fs.length ∧ Kd.C k42 W a fs.length fs ∧ fs.length ≤ cap ∧ (∀ f ∈ fs, f.f0.size ≤ 1048576 ∧ f.f1.size ≤ 1048576) ∧ fs.length ≤ 1048576 := by
  obtain ⟨fuel, hf⟩ := h
  rcases Deep.open_slice_pairs Try.underlying23 Try.underlying42 (by kernel_rfl) rfl rfl (by kernel_rfl) (by kernel_rfl) hf with ⟨hcs, _⟩ | ⟨x, l, c, m, n, V0, V1, D0, D1, P0, P1, hcs, _, hl, hm, hmm, hx, hV⟩
  · simp [Value.cells] at hcs
    obtain ⟨rfl, rfl, rfl⟩ := hcs
    exact ⟨[], rfl, Kd.C_nil _ _, Nat.le_refl _, (fun f hf => by cases hf), by simp⟩
  · simp [Value.cells] at hcs
    obtain ⟨rfl, rfl, rfl⟩ := hcs
    obtain ⟨hx, _⟩ := Prod.mk.inj hx
    subst hx
    have hlm : len ≤ m := by rw [hmm]; split <;> omega
    simp only [Rows.uptoBulk] at hd
    have hs : ∀ i, i < len → V0 i = .string (strV (V0 i)) ∧ V1 i = .string (strV (V1 i)) ∧ (strV (V0 i)).size ≤ 1048576 ∧ (strV (V1 i)).size ≤ 1048576 := by
      intro i hi
      obtain ⟨_, _, h0, h1⟩ := hV i (by omega)
      obtain ⟨s0, e0, g0, z0⟩ := DataW.trod_string Try.underlying9 h0
      obtain ⟨s1, e1, g1, z1⟩ := DataW.trod_string Try.underlying9 h1
      simp only [List.cons.injEq, and_true] at e0 e1
      have hp := Bulk.part_le (d := .agg [D0 i, D1 i]) (l := (List.range len).map fun i => .agg [D0 i, D1 i]) (List.mem_map.2 ⟨i, List.mem_range.2 hi, rfl⟩)
      have q0 := (Prod.mk.inj g0).1
      have q1 := (Prod.mk.inj g1).1
      rw [q0, q1] at hp
      simp only [Rows.uptoBulk, Rows.uptoBulkAll, Array.length_toList] at hp
      have t0 : s0.data.size = s0.size := rfl
      have t1 : s1.data.size = s1.size := rfl
      rw [e0, e1]
      exact ⟨rfl, rfl, by simp only [strV]; omega, by simp only [strV]; omega⟩
    have z := Bulk.length_le ((List.range len).map fun i => (DataW.agg [D0 i, D1 i] : DataW H))
    simp only [List.length_map, List.length_range] at z
    have hlen : ((List.range len).map fun i => (⟨strV (V0 i), strV (V1 i)⟩ : S42)).length = len := by simp
    have hml : len ≤ 9223372036854775807 := by unfold maxLen at hm; omega
    refine ⟨(List.range len).map fun i => ⟨strV (V0 i), strV (V1 i)⟩, hlen.symm, ⟨rfl, by rw [hlen]; exact hml, fun hpos => ⟨x, rfl, fun j p hj => ?_⟩⟩, by rw [hlen]; exact hl, ?_, ?_⟩
    · rw [List.getElem?_map] at hj
      by_cases hjl : j < len
      · rw [List.getElem?_eq_getElem (by simpa using hjl)] at hj
        simp at hj
        subst hj
        obtain ⟨e0, e1, _, _⟩ := hs j hjl
        obtain ⟨c0, c1, _, _⟩ := hV j (by omega)
        refine ⟨[.string (strV (V0 j)), .string (strV (V1 j))], rfl, k42_mk _ _, fun i u hu => ?_⟩
        match i, hu with
        | 0, hu => simp at hu; subst hu; rw [← e0]; exact c0
        | 1, hu => simp at hu; subst hu; rw [← e1]; exact c1
      · rw [List.getElem?_eq_none (by simpa using hjl)] at hj
        simp at hj
    · intro f hf
      obtain ⟨i, hi, rfl⟩ := List.mem_map.1 hf
      have := hs i (by simpa using hi)
      exact ⟨this.2.2.1, this.2.2.2⟩
    · rw [hlen]; omega
end Go.Proofs.Ytodidfdfbanliaa.PAll
