/- An argument that is a slice of byte slices, opened; its sizes. -/
import Derived.Deep.Matrix
import Derived.SizedLaws
import Derived.Test.YtdciniefkodeaaaQPl7HAwake6
set_option linter.unusedVariables false
namespace Go.Proofs.Ytdciniefkodeaaa.PAll
open Go.ChangeShapes Go.WideShapes Go.RowKit Go.Proofs.YtdciniefkodeaaaW.PrintWords
theorem wf_byte {x : Int} (h : (Lit.int .u8 x).wf = true) : 0 ≤ x ∧ x ≤ 255 := by
  have e1 : IntKind.u8.min = 0 := rfl
  have e2 : IntKind.u8.max = 255 := rfl
  simp [Lit.wf] at h
  omega
theorem weights_all_mem {H : Type} {P : Program} {e : TypeId} : ∀ {l : List (DataW H)} {d : DataW H}, d ∈ l → ∀ n ∈ d.weights P e, n ∈ DataW.weightsAll P e l
  | x :: l, d, hd, n, hn => by
    rw [DataW.weightsAll, List.mem_append]
    rcases List.mem_cons.1 hd with rfl | hd
    · exact .inl hn
    · exact .inr (weights_all_mem hd n hn)
theorem open_byteRows {H : Type} {enc : TypeId × Value → H} {W : World} {base : Nat} {held : Bool} {a : Option Addr} {len cap : Nat} {d : DataW H} {pl : List MemPlace}
    (h : DataW.Trod enc Try.prog W base (fun _ => true) held 22 (.slice a len cap) d pl) (hsz : ∀ n ∈ d.weights Try.prog 22, n ≤ reachBytes) :
    ∃ ps : List Wd, len = ps.length ∧ Kd.C (Kd.slice 5 (Kd.int .u8)) W a ps.length ps ∧ ps.length ≤ cap ∧ BytesOk ps ∧ ps.length * 24 ≤ reachBytes ∧ ∀ p ∈ ps, p.length ≤ reachBytes := by
  obtain ⟨fuel, hf⟩ := h
  rcases Deep.open_int_rows Try.underlying22 Try.underlying32 Try.underlying5 (by kernel_rfl) (by kernel_rfl) hf with ⟨hcs, _⟩ | ⟨x, l, c, A, L, C, Z, hcs, _, hl, hm, hd, hr⟩
  · simp [Value.cells] at hcs
    obtain ⟨rfl, rfl, rfl⟩ := hcs
    exact ⟨[], rfl, Kd.C_nil _ _, Nat.le_refl _, (fun f hf => by cases hf), by simp, (fun f hf => by cases hf)⟩
  · simp [Value.cells] at hcs
    obtain ⟨rfl, rfl, rfl⟩ := hcs
    obtain ⟨hd, _⟩ := Prod.mk.inj hd
    subst hd
    have hw : ∀ n, (n = (((List.range len).map fun r => Deep.intRow (H := H) .u8 (A r) (L r) (Z r)).length + ((List.range (cap - len)).map fun j => Deep.intRow (H := H) .u8 (A (len + j)) (L (len + j)) (Z (len + j))).length) * Try.prog.bytesOf 32 ∨ ∃ r, r < len ∧ n ∈ (Deep.intRow (H := H) .u8 (A r) (L r) (Z r)).weights Try.prog 32) → n ≤ reachBytes := by
      intro n hn
      refine hsz n ?_
      rw [DataW.weights, Try.underlying22]
      rcases hn with hn | ⟨r, hr, hn⟩
      · rw [hn]; exact List.mem_cons_self
      · refine List.mem_cons_of_mem _ (List.mem_append_left _ (weights_all_mem (d := Deep.intRow (H := H) .u8 (A r) (L r) (Z r)) ?_ n hn))
        exact List.mem_map.2 ⟨r, List.mem_range.2 hr, rfl⟩
    have hb32 : Try.prog.bytesOf 32 = 24 := by kernel_rfl
    have hb5 : Try.prog.bytesOf 5 = 1 := by kernel_rfl
    have hout : cap * 24 ≤ reachBytes := by
      have := hw _ (.inl rfl)
      rw [List.length_map, List.length_map, List.length_range, List.length_range, hb32] at this
      have e : len + (cap - len) = cap := by omega
      rwa [e] at this
    have each : ∀ r, r < len → ∃ u : Wd, W.cell? (x.add r) = some (.slice (A r) u.length (C r)) ∧ u.length ≤ C r ∧ Kd.C (Kd.int .u8) W (A r) u.length u ∧ u.length ≤ reachBytes ∧ ∀ b ∈ u, 0 ≤ b ∧ b ≤ 255 := by
      intro r hlt
      obtain ⟨h1, h2, h3, h4, h5, h6, h7⟩ := hr r (by omega)
      have hrow : (A r = none ∧ L r = 0 ∧ C r = 0 ∧ Z r = []) ∨ ∃ y, A r = some y ∧ L r ≤ C r ∧ C r ≤ maxLen ∧ (Z r).length = C r ∧ (∀ i, i < (Z r).length → W.cell? (y.add i) = some (.int .u8 ((Z r).getD i 0))) ∧ ∀ n ∈ Z r, (Lit.int .u8 n).wf = true := by
        cases hA : A r with
        | none =>
          have hc := h6 hA
          exact .inl ⟨rfl, by omega, hc, List.eq_nil_of_length_eq_zero (by omega)⟩
        | some y => exact .inr ⟨y, rfl, h2, h3, h4, fun i hi => (h7 y hA).2 i (by omega), h5⟩
      have hsized : L r ≤ reachBytes := by
        cases hA : A r with
        | none => have hc := h6 hA; omega
        | some y =>
          have := hw ((Z r).length * 1) (.inr ⟨r, hlt, by
            unfold Deep.intRow
            rw [hA]
            show (Z r).length * 1 ∈ DataW.weights Try.prog 32 (.slice (lits .u8 ((Z r).take (L r))) (lits .u8 ((Z r).drop (L r))))
            rw [DataW.weights, Try.underlying32]
            have e : ((lits (H := H) .u8 ((Z r).take (L r))).length + (lits (H := H) .u8 ((Z r).drop (L r))).length) * Try.prog.bytesOf 5 = (Z r).length * 1 := by
              rw [hb5]; simp [lits]; omega
            show (Z r).length * 1 ∈ ((lits (H := H) .u8 ((Z r).take (L r))).length + (lits (H := H) .u8 ((Z r).drop (L r))).length) * Try.prog.bytesOf 5 :: _
            rw [e]
            exact List.mem_cons_self⟩)
          omega
      obtain ⟨l, e, hl, hml, hwl, hcl⟩ := ReadsInt.ofRowC hrow
      refine ⟨l, by rw [h1, e], hcl, Kd.C_of_reads (d := (0 : Int)) (h1 := fun _ => rfl) hl, by omega, fun b hb => wf_byte (hwl b hb)⟩
    obtain ⟨Y, hY⟩ := Deep.choose_lt each
    have hlen : ((List.range len).map Y).length = len := by simp
    have hmem : ∀ p ∈ (List.range len).map Y, ∃ i, i < len ∧ Y i = p := fun p hp => by
      obtain ⟨i, hi, rfl⟩ := List.mem_map.1 hp
      exact ⟨i, List.mem_range.1 hi, rfl⟩
    refine ⟨(List.range len).map Y, hlen.symm, ⟨rfl, by rw [hlen]; unfold maxLen at hm; omega, fun hpos => ⟨x, rfl, fun j p hj => ?_⟩⟩, by rw [hlen]; exact hl, fun p hp => ?_, by rw [hlen]; omega, fun p hp => ?_⟩
    · rw [List.getElem?_map] at hj
      by_cases hjl : j < len
      · rw [List.getElem?_eq_getElem (by simpa using hjl)] at hj
        simp at hj
        subst hj
        obtain ⟨c1, c2, c3, c4, c5⟩ := hY j hjl
        refine ⟨[.slice (A j) (Y j).length (C j)], rfl, ⟨A j, C j, rfl, c2, c3⟩, fun i u hu => ?_⟩
        match i, hu with
        | 0, hu => simp at hu; subst hu; rw [show j * (Kd.slice 5 (Kd.int .u8)).sz + 0 = j from Nat.mul_one j]; exact c1
        | i + 1, hu => simp at hu
      · rw [List.getElem?_eq_none (by simpa using hjl)] at hj
        simp at hj
    · obtain ⟨i, hi, rfl⟩ := hmem p hp
      exact (hY i hi).2.2.2.2
    · obtain ⟨i, hi, rfl⟩ := hmem p hp
      exact (hY i hi).2.2.2.1
end Go.Proofs.Ytdciniefkodeaaa.PAll
