/- What may stand between, capital letters: how the plain reader reads over them. -/
import Derived.Test.YtodidfdfbanliaaQCapHForms
import Derived.Test.YtodidfdfbanliaaQCapHMixed
import Derived.Test.YtodidfdfbanliaaQCapPAllx0
set_option linter.unusedVariables false
set_option linter.unusedSimpArgs false
namespace Go.Proofs.Ytodidfdfbanliaa.PAll
open Go.RowKit Go.Proofs.YtodidfdfbanliaaW.PrintWords Go.Proofs.YtodidfdfbanliaaW.PrintLast Go.Proofs.YtodidfdfbanliaaW.PrintMore
structure Gap (p : List UInt8) : Prop where
  skip : ∀ (s : ByteArray) (k : Nat) (r : List UInt8), s.data.toList.drop k = p ++ r → betP s k = betP s (k + p.length)
  head : ∀ c, p.head? = some c → markC c = false
  short : p.length ≤ 10
theorem betP_bl {s : ByteArray} {k : Nat} {c : UInt8} {r : List UInt8} (h : s.data.toList.drop k = c :: r) (hb : isBl c = true) : betP s k = betP s (k + 1) := by
  obtain ⟨hk, hc, _⟩ := at_drop h
  rw [betP_step s k hk, hc, if_pos hb]
theorem gap0 : Gap [] := ⟨fun s k r h => rfl, fun c h => (by cases h), by decide⟩
theorem gap1 : Gap [32] := ⟨fun s k r h => betP_bl h (by decide), fun c h => by simp at h; subst h; decide, by decide⟩
def bytesI (l : List Int) : Prop := ∀ x ∈ l, 0 ≤ x ∧ x ≤ 255
theorem up_byte (c : UInt8) (h1 : 97 ≤ c) (h2 : c ≤ 122) : markC (c - 32) = true ∧ markC c = true ∧ lowC (c - 32) = c ∧ lowC c = c := by
  have := by_bytes (p := fun i c => 97 ≤ c → c ≤ 122 → markC (c - 32) = true ∧ markC c = true ∧ lowC (c - 32) = c ∧ lowC c = c) (by decide +kernel) c
  exact this h1 h2
theorem mixC_mark (l : List Int) (i : Nat) (c : UInt8) : markC (mixC l i c) = markC c ∧ lowC (mixC l i c) = lowC c := by
  unfold mixC
  by_cases h : capAt l i = true ∧ 97 ≤ c ∧ c ≤ 122
  · rw [if_pos h]
    obtain ⟨h1, h2, h3, h4⟩ := up_byte c h.2.1 h.2.2
    rw [h1, h2, h3, h4]; exact ⟨rfl, rfl⟩
  · rw [if_neg h]; exact ⟨rfl, rfl⟩
theorem mixL_tok (w : List UInt8) (l : List Int) : tokL (mixL w l) = tokL w ∧ lowL (mixL w l) = lowL w ∧ (mixL w l).length = w.length := by
  have hlen : (mixL w l).length = w.length := by simp [mixL]
  refine ⟨?_, ?_, hlen⟩
  · unfold tokL
    have e1 : (mixL w l).isEmpty = w.isEmpty := by cases w <;> simp [mixL]
    have e2 : (mixL w l).all markC = w.all markC := by
      rw [Bool.eq_iff_iff, List.all_eq_true, List.all_eq_true]
      constructor
      · intro h x hx
        obtain ⟨i, hi, rfl⟩ := List.mem_iff_getElem.1 hx
        have := h ((mixL w l)[i]'(by omega)) (List.getElem_mem _)
        simp only [mixL, List.getElem_mapIdx] at this
        rw [(mixC_mark l i w[i]).1] at this
        exact this
      · intro h x hx
        obtain ⟨i, hi, rfl⟩ := List.mem_iff_getElem.1 hx
        have := h (w[i]'(by omega)) (List.getElem_mem _)
        simp only [mixL, List.getElem_mapIdx]
        rw [(mixC_mark l i (w[i]'(by omega))).1]
        exact this
    rw [e1, e2]
  · apply List.ext_getElem
    · simp [lowL, hlen]
    · intro i h1 h2
      simp only [lowL, List.getElem_map, mixL, List.getElem_mapIdx]
      exact (mixC_mark l i _).2
/-- What stands behind a gap begins no gap and no token. -/
def Stop (r : List UInt8) : Prop := ∀ c, r.head? = some c → isBl c = false ∧ c ≠ 40
def Cut (r : List UInt8) : Prop := ∀ c, r.head? = some c → markC c = false
theorem gap_bet {p : List UInt8} (g : Gap p) {s : ByteArray} {k : Nat} {r : List UInt8} (h : s.data.toList.drop k = p ++ r) (hr : Stop r) : betP s k = some (k + p.length) := by
  rw [g.skip s k r h]
  exact betP_stay (drop_app h) hr
theorem gap_cut {p r : List UInt8} (g : Gap p) (hr : Cut r) : Cut (p ++ r) := by
  intro c h
  cases p with
  | nil => exact hr c h
  | cons x p => exact g.head c h
theorem tok_gap {s : ByteArray} {k : Nat} {w p r : List UInt8} (h : s.data.toList.drop k = w ++ (p ++ r)) (hw : tokL w = true) (g : Gap p) (hr : Stop r) (hc : Cut r) : tokGo s k = some (⟨w.toArray⟩, k + w.length + p.length) := by
  rw [tokGo_word h hw (gap_cut g hc), gap_bet g (drop_app h) hr]; rfl
theorem exp_gap {s : ByteArray} {k : Nat} {c : UInt8} {p r : List UInt8} (h : s.data.toList.drop k = c :: (p ++ r)) (g : Gap p) (hr : Stop r) : expGo s k c = some (k + 1 + p.length) := by
  rw [expGo_sign h, gap_bet g (at_drop h).2.2 hr]
theorem val_gap {s : ByteArray} {k : Nat} {p r : List UInt8} (v : ByteArray) (h : s.data.toList.drop k = writtenL v.data.toList ++ (p ++ r)) (g : Gap p) (hr : Stop r) (hc : Cut r) : valGo s k = some (v, k + (writtenL v.data.toList).length + p.length) := by
  rw [valGo_written v h (gap_cut g hc), gap_bet g (drop_app h) hr]; rfl
theorem tok_stop {w : List UInt8} (h : tokL w = true) (r : List UInt8) : Stop (w ++ r) := by
  obtain ⟨c, t, e, h1, h2⟩ := tok_head h
  intro d hd
  rw [e] at hd; simp at hd; subst hd; exact ⟨h1, h2⟩
end Go.Proofs.Ytodidfdfbanliaa.PAll
