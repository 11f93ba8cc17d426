/- The reference's Of: what stands at the head of its loop, in plain words. -/
import Derived.Test.YtodidfdfbanliaaQStpHLine
import Derived.Test.YtodidfdfbanliaaQStpHSem2
set_option linter.unusedVariables false
namespace Go.Proofs.Ytodidfdfbanliaa.PAll
open Go.RowKit Go.Proofs.YtodidfdfbanliaaW.PrintWords Go.Proofs.YtodidfdfbanliaaW.PrintLast
theorem cut_text {w : World} {A : Option Addr} {c : Nat} {l : List Int} (hC : Kd.C (Kd.int .u8) w A l.length l) (hc : l.length ≤ c) (lo hi : Nat) (h1 : lo ≤ hi) (h2 : hi ≤ l.length) :
    ∃ A' n', (∀ W, (Instr.slice 22 (.slice A l.length c) (some (.int .i64 (lo : Int))) (some (.int .i64 (hi : Int))) none).run Try.prog W = .ok (.slice A' n' (c - lo)) W) ∧ (∀ W, Below w.heap.size w W → (convert 22 9 (.slice A' n' (c - lo))).run Try.prog W = .ok (.string (strOfNums ((l.take hi).drop lo))) W) := by
  obtain ⟨i0, hi0, _, hsz, _⟩ := info_parts info5
  have hs := fun W => cut_mid (P := Try.prog) 22 5 .i64 .i64 Try.underlying22 hi0 1 hsz A l.length c (lo : Int) (hi : Int) (by omega) (by omega) (by omega) hc W
  have hM := Kd.C_mid hC h1 h2 hc
  have hl : ((l.take hi).drop lo).length = hi - lo := by rw [List.length_drop, List.length_take]; omega
  refine ⟨_, _, hs, fun W hb => ?_⟩
  have hM2 := Kd.C_below hM hb
  have := Kd.C_string (P := Try.prog) (c := c - lo) Try.underlying22 Try.underlying5 Try.underlying9 hM2
  rw [hl] at this
  exact this
theorem cut_rest {w : World} {A : Option Addr} {c : Nat} {l : List Int} (hC : Kd.C (Kd.int .u8) w A l.length l) (hc : l.length ≤ c) (lo : Nat) (h1 : lo ≤ l.length) :
    ∃ A' n', (∀ W, (Instr.slice 22 (.slice A l.length c) (some (.int .i64 (lo : Int))) none none).run Try.prog W = .ok (.slice A' n' (c - lo)) W) ∧ (∀ W, Below w.heap.size w W → (convert 22 9 (.slice A' n' (c - lo))).run Try.prog W = .ok (.string (strOfNums (l.drop lo))) W) := by
  obtain ⟨i0, hi0, _, hsz, _⟩ := info_parts info5
  have hs := fun W => cut_from (P := Try.prog) 22 5 .i64 Try.underlying22 hi0 1 hsz A l.length c (lo : Int) (by omega) (by omega) W
  have hM := Kd.C_drop hC h1 hc
  have hl : (l.drop lo).length = l.length - lo := by rw [List.length_drop]
  refine ⟨_, _, hs, fun W hb => ?_⟩
  have hM2 := Kd.C_below hM hb
  have := Kd.C_string (P := Try.prog) (c := c - lo) Try.underlying22 Try.underlying5 Try.underlying9 hM2
  rw [hl] at this
  exact this
section
variable (most : Int) (l : List Int)
/-- The line that was begun at place frm. -/
def seg (frm i : Nat) : List Int := (l.take i).drop frm
theorem seg_len (frm i : Nat) (hi : i ≤ l.length) : (seg l frm i).length = i - frm := by unfold seg; rw [List.length_drop, List.length_take]; omega
theorem seg_succ (frm i : Nat) (hi : i < l.length) (hf : frm ≤ i) : seg l frm (i + 1) = seg l frm i ++ [l[i]] := by
  unfold seg
  rw [List.take_succ_eq_append_getElem hi, List.drop_append_of_le_length (by rw [List.length_take]; omega)]
theorem seg_self (i : Nat) : seg l i i = [] := by unfold seg; simp
theorem drop_at (i : Nat) (hi : i < l.length) : l.drop i = l[i] :: l.drop (i + 1) := List.drop_eq_getElem_cons hi
theorem seg_strip (frm i : Nat) (hi : i ≤ l.length) (h : frm < i) (h13 : l[i - 1]'(by omega) = 13) : stripCR (seg l frm i) = seg l frm (i - 1) := by
  obtain ⟨j, rfl⟩ : ∃ j, i = j + 1 := ⟨i - 1, by omega⟩
  rw [seg_succ l frm j (by omega) (by omega)]
  have : l[j] = 13 := h13
  simp [stripCR, this]
theorem seg_keep (frm i : Nat) (hi : i ≤ l.length) (h : ¬ (∃ hlt : frm < i, l[i - 1]'(by omega) = 13)) : stripCR (seg l frm i) = seg l frm i := by
  by_cases hlt : frm < i
  · obtain ⟨j, rfl⟩ : ∃ j, i = j + 1 := ⟨i - 1, by omega⟩
    rw [seg_succ l frm j (by omega) (by omega)]
    have h13 : l[j] ≠ 13 := fun e => h ⟨hlt, e⟩
    simp [stripCR, h13]
  · have : seg l frm i = [] := List.eq_nil_of_length_eq_zero (by rw [seg_len l frm i hi]; omega)
    rw [this]; rfl
theorem seg_nil (frm i : Nat) (hi : i ≤ l.length) (hf : frm ≤ i) : seg l frm i = [] ↔ i = frm := by
  constructor
  · intro h; have := congrArg List.length h; rw [seg_len l frm i hi] at this; simp at this; omega
  · rintro rfl; exact seg_self l i
end
theorem lineR_le (fs : List S42) (s : ByteArray) (h : fs.length ≤ 64) : (lineR fs s).1.length ≤ 64 := by
  unfold lineR
  split
  · split
    · exact h
    · simpa [addLast] using h
  · split
    · exact h
    · split
      · exact h
      · simp; omega
end Go.Proofs.Ytodidfdfbanliaa.PAll
