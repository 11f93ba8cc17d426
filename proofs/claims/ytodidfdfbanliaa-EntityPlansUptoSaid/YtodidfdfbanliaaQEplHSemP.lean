/- The plain reader of places: how far it comes. -/
import Derived.Lib.Hide
import Derived.Test.YtodidfdfbanliaaQEplHType
import Derived.Test.YtodidfdfbanliaaQEplHSem1
set_option linter.unusedVariables false
set_option linter.unusedSimpArgs false
namespace Go.Proofs.Ytodidfdfbanliaa.PAll
open Go.RowKit Go.Proofs.YtodidfdfbanliaaW.PrintWords Go.Proofs.YtodidfdfbanliaaW.PrintLast Go.Proofs.YtodidfdfbanliaaW.PrintMore
theorem cmt_shift (n : Nat) : ∀ (l : List UInt8) (d : Int) (k a : Nat), l.length ≤ n → cmtGo l d (k + a) = (cmtGo l d k).map (· + a) := by
  induction n with
  | zero =>
    intro l d k a hl
    have : l = [] := List.eq_nil_of_length_eq_zero (by omega)
    subst this; simp [cmtGo]
  | succ n ih =>
    intro l d k a hl
    cases l with
    | nil => simp [cmtGo]
    | cons c r =>
      rw [cmt_step, cmt_step]
      split
      · split <;> (rw [Option.map_some]; congr 1; omega)
      · split
        · rfl
        · split
          · rw [show k + a + 2 = k + 2 + a from by omega]; exact ih _ _ _ _ (by simp at hl ⊢; omega)
          · rw [show k + a + 1 = k + 1 + a from by omega]; exact ih _ _ _ _ (by simp at hl; omega)
theorem cmt_le (n : Nat) : ∀ (l : List UInt8) (d : Int) (k j : Nat), l.length ≤ n → 0 ≤ d → (d = 0 → l.head? = some 40) → cmtGo l d k = some j → j ≤ k + l.length := by
  induction n with
  | zero =>
    intro l d k j hl h0 h1 h
    have : l = [] := List.eq_nil_of_length_eq_zero (by omega)
    subst this; simp [cmtGo] at h
  | succ n ih =>
    intro l d k j hl h0 h1 h
    cases l with
    | nil => simp [cmtGo] at h
    | cons c r =>
      rw [cmt_step] at h
      simp only [List.length_cons] at hl ⊢
      have hd : 0 ≤ deepR c d ∧ (c = 92 → deepR c d = 0 → False) := by
        unfold deepR
        split
        · subst c; constructor
          · omega
          · intro e; cases e
        · split
          · subst c
            by_cases e : d = 0
            · have := h1 e; simp at this
            · exact ⟨by omega, fun e => by cases e⟩
          · refine ⟨h0, fun e e2 => ?_⟩
            have := h1 e2; subst c; simp at this
      by_cases hz : deepR c d = 0
      · rw [if_pos hz] at h
        injection h with h
        by_cases h92 : c = 92
        · exact (hd.2 h92 hz).elim
        · rw [if_neg h92] at h; omega
      · rw [if_neg hz] at h
        split at h
        · cases h
        · split at h
          · have := ih r.tail _ _ _ (by simp; omega) hd.1 (fun e => absurd e hz) h
            cases r with
            | nil => simp [cmtGo] at h
            | cons x t => simp at this ⊢; omega
          · have := ih r _ _ _ (by omega) hd.1 (fun e => absurd e hz) h; omega
def fromB (s : ByteArray) (k : Nat) : ByteArray := s.extract k s.size
theorem fromB_list (s : ByteArray) (k : Nat) : (fromB s k).data.toList = s.data.toList.drop k := by
  unfold fromB; rw [extract_toList, List.take_of_length_le (by simp)]
theorem fromB_size (s : ByteArray) (k : Nat) : (fromB s k).size = s.size - k := by unfold fromB; simp
theorem fromB_zero (s : ByteArray) : fromB s 0 = s := by apply ext_toList; rw [fromB_list, List.drop_zero]
theorem fromB_from (s : ByteArray) (k a : Nat) : (fromB s k).extract a (fromB s k).size = fromB s (k + a) := by
  apply ext_toList
  rw [extract_toList, List.take_of_length_le (by simp), fromB_list, fromB_list, List.drop_drop]
theorem fromB_take (s : ByteArray) (k a : Nat) (h : k + a ≤ s.size) : (fromB s k).extract 0 a = s.extract k (k + a) := by
  apply ext_toList
  rw [extract_toList, extract_toList, fromB_list, List.drop_zero, List.take_drop, Nat.add_comm]
theorem fromB_at (s : ByteArray) (k i : Nat) (h : k + i < s.size) : (fromB s k)[i]'(by rw [fromB_size]; omega) = s[k + i] := by
  have h1 : (fromB s k).data.toList[i]? = s.data.toList[k + i]? := by rw [fromB_list, List.getElem?_drop]
  rw [List.getElem?_eq_getElem (by simpa [fromB_size] using (show i < s.size - k by omega)), List.getElem?_eq_getElem (by simpa using h)] at h1
  exact Option.some.inj h1
theorem fromB_bt (s : ByteArray) (k i : Nat) (h : k + i < s.size) : bt (fromB s k) (i : Int) = (s[k + i].toNat : Int) := by
  rw [bt_nat _ i (by rw [fromB_size]; omega), fromB_at s k i h]
theorem betGo_fuel (m : Nat) : ∀ (n n' : Nat) (s : ByteArray) (k : Nat), s.size - k ≤ m → s.size + 1 ≤ n + k → s.size + 1 ≤ n' + k → betGo n s k = betGo n' s k := by
  induction m with
  | zero =>
    intro n n' s k hm h h'
    have : ∀ n, betGo n s k = some k := fun n => by
      cases n with
      | zero => rfl
      | succ n => rw [betGo, dif_neg (by omega)]
    rw [this, this]
  | succ m ih =>
    intro n n' s k hm h h'
    by_cases hk : k < s.size
    · obtain ⟨n, rfl⟩ : ∃ x, n = x + 1 := ⟨n - 1, by omega⟩
      obtain ⟨n', rfl⟩ : ∃ x, n' = x + 1 := ⟨n' - 1, by omega⟩
      rw [betGo, betGo, dif_pos hk, dif_pos hk]
      split
      · exact ih _ _ _ _ (by omega) (by omega) (by omega)
      · split
        · cases hc : cmtGo (s.data.toList.drop k) 0 k with
          | none => rfl
          | some j =>
            have := cmt_past _ _ _ _ _ (Nat.le_refl _) hc
            exact ih _ _ _ _ (by omega) (by omega) (by omega)
        · rfl
    · have : ∀ n, betGo n s k = some k := fun n => by
        cases n with
        | zero => rfl
        | succ n => rw [betGo, dif_neg hk]
      rw [this, this]
theorem betP_end (s : ByteArray) (k : Nat) (h : ¬ k < s.size) : betP s k = some k := by
  unfold betP
  cases s.size + 1 - k with
  | zero => rfl
  | succ n => rw [betGo, dif_neg h]
theorem betP_step (s : ByteArray) (k : Nat) (h : k < s.size) : betP s k = if isBl s[k] then betP s (k + 1) else if s[k] = 40 then (cmtGo (s.data.toList.drop k) 0 k).bind (betP s) else some k := by
  have e : betP s k = betGo (s.size - k + 1) s k := betGo_fuel (s.size - k) _ _ s k (by omega) (by omega) (by omega)
  rw [e, betGo, dif_pos h]
  split
  · exact betGo_fuel (s.size - k) _ _ s _ (by omega) (by omega) (by omega)
  · split
    · cases hc : cmtGo (s.data.toList.drop k) 0 k with
      | none => rfl
      | some j =>
        have := cmt_past _ _ _ _ _ (Nat.le_refl _) hc
        exact betGo_fuel (s.size - k) _ _ s _ (by omega) (by omega) (by omega)
    · rfl
theorem betGo_le (n : Nat) : ∀ (s : ByteArray) (k j : Nat), k ≤ s.size → betGo n s k = some j → j ≤ s.size := by
  induction n with
  | zero => intro s k j hk h; simp [betGo] at h; omega
  | succ n ih =>
    intro s k j hk h
    rw [betGo] at h
    split at h
    · rename_i hlt
      split at h
      · exact ih _ _ _ (by omega) h
      · split at h
        · rename_i h40
          split at h
          · rename_i hc
            have h2 := cmt_le _ _ _ _ _ (Nat.le_refl _) (by omega) (fun _ => by rw [drop_cons_at s k hlt, List.head?_cons, h40]) hc
            simp only [List.length_drop, toList_size] at h2
            exact ih _ _ _ (by omega) h
          · cases h
        · injection h with h; omega
    · injection h with h; omega
theorem betP_le {s : ByteArray} {k j : Nat} (hk : k ≤ s.size) (h : betP s k = some j) : j ≤ s.size := betGo_le _ _ _ _ hk h
theorem expGo_le {s : ByteArray} {k j : Nat} {c : UInt8} (h : expGo s k c = some j) : j ≤ s.size := by
  unfold expGo at h
  split at h
  · split at h
    · exact betP_le (by omega) h
    · cases h
  · cases h
theorem tokGo_le {s : ByteArray} {k : Nat} {r : ByteArray × Nat} (hk : k ≤ s.size) (h : tokGo s k = some r) : r.2 ≤ s.size := by
  unfold tokGo at h
  split at h
  · cases h
  · obtain ⟨j, hj, rfl⟩ := Option.map_eq_some_iff.1 h
    exact betP_le (tokEnd_le s k hk) hj
theorem quoGo_le (n : Nat) : ∀ (s : ByteArray) (k : Nat) (acc : List UInt8) (r : List UInt8 × Nat), quoGo n s k acc = some r → r.2 ≤ s.size := by
  induction n with
  | zero => intro s k acc r h; simp [quoGo] at h
  | succ n ih =>
    intro s k acc r h
    rw [quoGo] at h
    split at h
    · split at h
      · obtain ⟨j, hj, rfl⟩ := Option.map_eq_some_iff.1 h
        exact betP_le (by omega) hj
      · split at h
        · split at h
          · exact ih _ _ _ _ h
          · cases h
        · exact ih _ _ _ _ h
    · cases h
theorem valGo_le {s : ByteArray} {k : Nat} {r : ByteArray × Nat} (h : valGo s k = some r) : r.2 ≤ s.size := by
  unfold valGo at h
  split at h
  · split at h
    · obtain ⟨j, hj, rfl⟩ := Option.map_eq_some_iff.1 h
      exact quoGo_le _ _ _ _ _ hj
    · exact tokGo_le (by omega) h
  · cases h
/-- A parameter. -/
def parOne (s : ByteArray) (k : Nat) : Option (ByteArray × ByteArray × Nat) := (tokGo s k).bind fun nm => (expGo s nm.2 61).bind fun f => (valGo s f).map fun v => (lowB nm.1, v.1, v.2)
theorem parOne_gt {s : ByteArray} {k : Nat} {r : ByteArray × ByteArray × Nat} (h : parOne s k = some r) : k < r.2.2 := by
  unfold parOne at h
  obtain ⟨nm, h1, h⟩ := Option.bind_eq_some_iff.1 h
  obtain ⟨f, h2, h⟩ := Option.bind_eq_some_iff.1 h
  obtain ⟨v, h3, rfl⟩ := Option.map_eq_some_iff.1 h
  have := tokGo_gt h1; have := expGo_gt h2; have := valGo_gt h3; simp only []; omega
theorem parOne_le {s : ByteArray} {k : Nat} {r : ByteArray × ByteArray × Nat} (h : parOne s k = some r) : r.2.2 ≤ s.size := by
  unfold parOne at h
  obtain ⟨nm, h1, h⟩ := Option.bind_eq_some_iff.1 h
  obtain ⟨f, h2, h⟩ := Option.bind_eq_some_iff.1 h
  obtain ⟨v, h3, rfl⟩ := Option.map_eq_some_iff.1 h
  exact valGo_le h3
theorem parGo_step (n : Nat) (s : ByteArray) (k : Nat) (h : k < s.size) : parGo (n + 1) s k = (expGo s k 59).bind fun c => (parOne s c).bind fun p => (parGo n s p.2.2).map fun r => (⟨p.1, p.2.1⟩ : S42) :: r := by
  rw [parGo, if_pos h]
  cases expGo s k 59 with
  | none => rfl
  | some c =>
    simp only [Option.bind_some]
    unfold parOne
    cases tokGo s c with
    | none => rfl
    | some nm =>
      simp only [Option.bind_some]
      cases expGo s nm.2 61 with
      | none => rfl
      | some f =>
        simp only [Option.bind_some]
        cases valGo s f with
        | none => rfl
        | some v => rfl
theorem tokGo_ne {s : ByteArray} {k : Nat} {r : ByteArray × Nat} (hk : k ≤ s.size) (h : tokGo s k = some r) : r.1.data.toList ≠ [] := by
  unfold tokGo at h
  split at h
  · cases h
  · rename_i hn
    obtain ⟨j, hj, rfl⟩ := Option.map_eq_some_iff.1 h
    have h1 := tokEnd_ge s k
    have h2 := tokEnd_le s k hk
    intro e
    have := congrArg List.length e
    rw [extract_toList] at this
    simp at this
    omega
theorem codeOf_chain (x : ByteArray) (h : x.data.toList ≠ []) : codeOf x = if lowL x.data.toList = [98, 97, 115, 101, 54, 52] then 1 else if lowL x.data.toList = [113, 117, 111, 116, 101, 100, 45, 112, 114, 105, 110, 116, 97, 98, 108, 101] then 2 else if lowL x.data.toList = [55, 98, 105, 116] then 0 else if lowL x.data.toList = [56, 98, 105, 116] then 0 else if lowL x.data.toList = [98, 105, 110, 97, 114, 121] then 0 else 3 := by
  have hne : lowL x.data.toList ≠ [] := by simpa [lowL] using h
  unfold codeOf encTab
  simp only [List.find?, sameL]
  generalize lowL x.data.toList = l at *
  rw [show lowL (⟨#[]⟩ : ByteArray).data.toList = [] from rfl, show lowL (⟨#[55, 98, 105, 116]⟩ : ByteArray).data.toList = [55, 98, 105, 116] from rfl, show lowL (⟨#[56, 98, 105, 116]⟩ : ByteArray).data.toList = [56, 98, 105, 116] from rfl, show lowL (⟨#[98, 105, 110, 97, 114, 121]⟩ : ByteArray).data.toList = [98, 105, 110, 97, 114, 121] from rfl, show lowL (⟨#[98, 97, 115, 101, 54, 52]⟩ : ByteArray).data.toList = [98, 97, 115, 101, 54, 52] from rfl, show lowL (⟨#[113, 117, 111, 116, 101, 100, 45, 112, 114, 105, 110, 116, 97, 98, 108, 101]⟩ : ByteArray).data.toList = [113, 117, 111, 116, 101, 100, 45, 112, 114, 105, 110, 116, 97, 98, 108, 101] from rfl]
  by_cases h1 : l = [98, 97, 115, 101, 54, 52]
  · subst h1; rfl
  by_cases h2 : l = [113, 117, 111, 116, 101, 100, 45, 112, 114, 105, 110, 116, 97, 98, 108, 101]
  · subst h2; rfl
  by_cases h3 : l = [55, 98, 105, 116]
  · subst h3; rfl
  by_cases h4 : l = [56, 98, 105, 116]
  · subst h4; rfl
  by_cases h5 : l = [98, 105, 110, 97, 114, 121]
  · subst h5; rfl
  rw [if_neg h1, if_neg h2, if_neg h3, if_neg h4, if_neg h5]
  have nb : ∀ w : List UInt8, l ≠ w → (w == l) = false := fun w hw => by rw [beq_eq_false_iff_ne]; exact fun e => hw e.symm
  rw [nb _ hne, nb _ h1, nb _ h2, nb _ h3, nb _ h4, nb _ h5]
end Go.Proofs.Ytodidfdfbanliaa.PAll
