/- An argument that is a slice of byte slices, opened. -/
import Derived.Deep.Matrix
import Derived.Test.YtodidfdfbanliaaQBckHBackP
set_option linter.unusedVariables false
namespace Go.Proofs.Ytodidfdfbanliaa.PAll
open Go.ChangeShapes Go.WideShapes Go.RowKit Go.Proofs.YtodidfdfbanliaaW.PrintWords
theorem nI_of (l : List Int) (h : ∀ x ∈ l, (Lit.int .u8 x).wf = true) : ∃ u : List UInt8, l = nI u := by
  refine ⟨l.map fun x => UInt8.ofNat x.toNat, ?_⟩
  unfold nI
  rw [List.map_map]
  conv => lhs; rw [← List.map_id l]
  apply List.map_congr_left
  intro x hx
  have h_ := h x hx
  have e1 : IntKind.u8.min = 0 := rfl
  have e2 : IntKind.u8.max = 255 := rfl
  simp [Lit.wf] at h_
  show x = ((UInt8.ofNat x.toNat).toNat : Int)
  rw [UInt8.toNat_ofNat']
  omega
theorem open_byteRows {H : Type} {enc : TypeId × Value → H} {W : World} {base : Nat} {held : Bool} {a : Option Addr} {len cap : Nat} {d : DataW H} {ps : List MemPlace}
    (h : DataW.Trod enc Try.prog W base (fun _ => true) held 39 (.slice a len cap) d ps) :
    ∃ U : List (List UInt8), len = (U.map nI).length ∧ Kd.C (Kd.slice 5 (Kd.int .u8)) W a (U.map nI).length (U.map nI) ∧ (U.map nI).length ≤ cap ∧ (∀ u ∈ U, u.length ≤ 9223372036854775807) := by
  obtain ⟨fuel, hf⟩ := h
  rcases Deep.open_int_rows Try.underlying39 Try.underlying22 Try.underlying5 (by kernel_rfl) (by kernel_rfl) hf with ⟨hcs, _⟩ | ⟨x, l, c, A, L, C, Z, hcs, _, hl, hm, _, hr⟩
  · simp [Value.cells] at hcs
    obtain ⟨rfl, rfl, rfl⟩ := hcs
    exact ⟨[], rfl, Kd.C_nil _ _, Nat.le_refl _, (fun f hf => by cases hf)⟩
  · simp [Value.cells] at hcs
    obtain ⟨rfl, rfl, rfl⟩ := hcs
    have each : ∀ r, r < len → ∃ u : List UInt8, W.cell? (x.add r) = some (.slice (A r) u.length (C r)) ∧ u.length ≤ C r ∧ Kd.C (Kd.int .u8) W (A r) u.length (nI u) ∧ u.length ≤ 9223372036854775807 := by
      intro r hlt
      obtain ⟨h1, h2, h3, h4, h5, h6, h7⟩ := hr r (by omega)
      have hrow : (A r = none ∧ L r = 0 ∧ C r = 0 ∧ Z r = []) ∨ ∃ y, A r = some y ∧ L r ≤ C r ∧ C r ≤ maxLen ∧ (Z r).length = C r ∧ (∀ i, i < (Z r).length → W.cell? (y.add i) = some (.int .u8 ((Z r).getD i 0))) ∧ ∀ n ∈ Z r, (Lit.int .u8 n).wf = true := by
        cases hA : A r with
        | none =>
          have hc := h6 hA
          exact .inl ⟨rfl, by omega, hc, List.eq_nil_of_length_eq_zero (by omega)⟩
        | some y => exact .inr ⟨y, rfl, h2, h3, h4, fun i hi => (h7 y hA).2 i (by omega), h5⟩
      obtain ⟨l, e, hl, hml, hwl, hcl⟩ := ReadsInt.ofRowC hrow
      obtain ⟨u, rfl⟩ := nI_of l hwl
      rw [nI_len] at e hl hml hcl
      refine ⟨u, by rw [h1, e], hcl, Kd.C_of_reads (d := (0 : Int)) (h1 := fun _ => rfl) hl, by unfold maxLen at hml; omega⟩
    obtain ⟨Y, hY⟩ := Deep.choose_lt each
    have hlen : (((List.range len).map Y).map nI).length = len := by simp
    refine ⟨(List.range len).map Y, hlen.symm, ⟨rfl, by rw [hlen]; unfold maxLen at hm; omega, fun hpos => ⟨x, rfl, fun j p hj => ?_⟩⟩, by rw [hlen]; exact hl, ?_⟩
    · rw [List.getElem?_map, List.getElem?_map] at hj
      by_cases hjl : j < len
      · rw [List.getElem?_eq_getElem (by simpa using hjl)] at hj
        simp at hj
        subst hj
        obtain ⟨c1, c2, c3, c4⟩ := hY j hjl
        refine ⟨[.slice (A j) (Y j).length (C j)], rfl, ⟨A j, C j, by rw [nI_len], by rw [nI_len]; exact c2, by rw [nI_len]; exact c3⟩, fun i u hu => ?_⟩
        match i, hu with
        | 0, hu => simp at hu; subst hu; rw [show j * (Kd.slice 5 (Kd.int .u8)).sz + 0 = j from Nat.mul_one j]; exact c1
        | i + 1, hu => simp at hu
      · rw [List.getElem?_eq_none (by simpa using hjl)] at hj
        simp at hj
    · intro u hu
      obtain ⟨i, hi, rfl⟩ := List.mem_map.1 hu
      exact (hY i (by simpa using hi)).2.2.2
end Go.Proofs.Ytodidfdfbanliaa.PAll
