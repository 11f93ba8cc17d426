/- A type that is written is read back: in plain words; and what Text comes to. -/
import Derived.Test.YtodidfdfbanliaaQCapHSemP
set_option linter.unusedVariables false
set_option linter.unusedSimpArgs false
namespace Go.Proofs.Ytodidfdfbanliaa.PAll
open Go.RowKit Go.Proofs.YtodidfdfbanliaaW.PrintWords Go.Proofs.YtodidfdfbanliaaW.PrintLast Go.Proofs.YtodidfdfbanliaaW.PrintMore
theorem mark_not (c : UInt8) (h : markC c = true) : isBl c = false ∧ c ≠ 40 ∧ c ≠ 34 := by
  have := by_bytes (p := fun i c => markC c = true → isBl c = false ∧ c ≠ 40 ∧ c ≠ 34) (by decide +kernel) c
  exact this h
theorem at_drop {s : ByteArray} {k : Nat} {c : UInt8} {r : List UInt8} (h : s.data.toList.drop k = c :: r) : ∃ hk : k < s.size, s[k] = c ∧ s.data.toList.drop (k + 1) = r := by
  have hk : k < s.size := by
    rcases Nat.lt_or_ge k s.size with h' | h'
    · exact h'
    · rw [List.drop_of_length_le (by simpa using h')] at h; cases h
  rw [drop_cons_at s k hk] at h
  injection h with h1 h2
  exact ⟨hk, h1, h2⟩
theorem drop_nil {s : ByteArray} {k : Nat} (h : s.data.toList.drop k = []) : ¬ k < s.size := by
  intro hk; rw [drop_cons_at s k hk] at h; cases h
theorem drop_app {s : ByteArray} {k : Nat} {w r : List UInt8} (h : s.data.toList.drop k = w ++ r) : s.data.toList.drop (k + w.length) = r := by
  rw [← List.drop_drop, h, List.drop_left]
/-- Nothing stands between. -/
theorem betP_stay {s : ByteArray} {k : Nat} {l : List UInt8} (h : s.data.toList.drop k = l) (hl : ∀ c, l.head? = some c → isBl c = false ∧ c ≠ 40) : betP s k = some k := by
  cases l with
  | nil => exact betP_end s k (drop_nil h)
  | cons c r =>
    obtain ⟨hk, hc, _⟩ := at_drop h
    obtain ⟨h1, h2⟩ := hl c rfl
    rw [betP_step s k hk, hc, if_neg (by simp [h1]), if_neg h2]
theorem tokGo_word {s : ByteArray} {k : Nat} {w r : List UInt8} (h : s.data.toList.drop k = w ++ r) (hw : tokL w = true) (hr : ∀ c, r.head? = some c → markC c = false) :
    tokGo s k = (betP s (k + w.length)).map fun j => (⟨w.toArray⟩, j) := by
  unfold tokL at hw
  simp only [Bool.and_eq_true, Bool.not_eq_true', List.isEmpty_eq_false_iff] at hw
  have ht : (s.data.toList.drop k).takeWhile markC = w := by
    rw [h]
    have hall : ∀ x ∈ w, markC x = true := fun x hx => List.all_eq_true.1 hw.2 x hx
    rw [List.takeWhile_append_of_pos hall]
    cases r with
    | nil => simp
    | cons c t => rw [List.takeWhile_cons_of_neg (by simp [hr c rfl]), List.append_nil]
  have e : tokEnd s k = k + w.length := by unfold tokEnd; rw [ht]
  have hne : w.length ≠ 0 := by cases w with | nil => exact absurd rfl hw.1 | cons _ _ => simp
  have hex : s.extract k (k + w.length) = ⟨w.toArray⟩ := by
    apply ext_toList
    rw [extract_toList, List.drop_take, show k + w.length - k = w.length from by omega, h, List.take_left]
  unfold tokGo
  rw [e, if_neg (by omega), hex]
theorem expGo_sign {s : ByteArray} {k : Nat} {c : UInt8} {r : List UInt8} (h : s.data.toList.drop k = c :: r) : expGo s k c = betP s (k + 1) := by
  obtain ⟨hk, hc, _⟩ := at_drop h
  unfold expGo
  rw [dif_pos hk, if_pos hc]
theorem quoGo_esc {s : ByteArray} {r : List UInt8} (v : List UInt8) : ∀ (n k : Nat) (acc : List UInt8), s.data.toList.drop k = escL v ++ 34 :: r → s.size + 1 ≤ n + k →
    quoGo n s k acc = (betP s (k + (escL v).length + 1)).map fun e => (acc ++ v, e) := by
  induction v with
  | nil =>
    intro n k acc h hn
    simp only [escL, List.flatMap_nil, List.nil_append] at h
    obtain ⟨hk, hc, _⟩ := at_drop h
    obtain ⟨n, rfl⟩ : ∃ m, n = m + 1 := ⟨n - 1, by omega⟩
    rw [quoGo, dif_pos hk, if_pos hc]
    simp [escL]
  | cons c v ih =>
    intro n k acc h hn
    have e : escL (c :: v) = escC c ++ escL v := by simp [escL]
    rw [e, List.append_assoc] at h
    by_cases hc : c = 34 ∨ c = 92
    · have e2 : escC c = [92, c] := by unfold escC; rw [if_pos hc]
      rw [e2] at h
      obtain ⟨hk, h92, h2⟩ := at_drop h
      obtain ⟨hk2, hc2, h3⟩ := at_drop h2
      obtain ⟨n, rfl⟩ : ∃ m, n = m + 1 := ⟨n - 1, by omega⟩
      rw [quoGo, dif_pos hk, if_neg (by rw [h92]; decide), if_pos h92, dif_pos hk2, ih n (k + 2) _ h3 (by omega), hc2, e, e2]
      simp only [List.append_assoc, List.cons_append, List.nil_append, List.length_append, List.length_cons, List.length_nil]
      rw [show k + 2 + (escL v).length + 1 = k + ((escL v).length + 1 + 1) + 1 from by omega]
    · have e2 : escC c = [c] := by unfold escC; rw [if_neg hc]
      rw [e2] at h
      obtain ⟨hk, hc2, h2⟩ := at_drop h
      obtain ⟨n, rfl⟩ : ∃ m, n = m + 1 := ⟨n - 1, by omega⟩
      rw [quoGo, dif_pos hk, if_neg (by rw [hc2]; exact fun h => hc (.inl h)), if_neg (by rw [hc2]; exact fun h => hc (.inr h)), ih n (k + 1) _ h2 (by omega), hc2, e, e2]
      simp only [List.append_assoc, List.cons_append, List.nil_append, List.length_cons]
      rw [show k + 1 + (escL v).length + 1 = k + ((escL v).length + 1) + 1 from by omega]
/-- What is written is read back, up to what stands behind. -/
theorem valGo_written {s : ByteArray} {k : Nat} {r : List UInt8} (v : ByteArray) (h : s.data.toList.drop k = writtenL v.data.toList ++ r) (hr : ∀ c, r.head? = some c → markC c = false) :
    valGo s k = (betP s (k + (writtenL v.data.toList).length)).map fun j => (v, j) := by
  unfold writtenL at h ⊢
  by_cases ht : tokL v.data.toList = true
  · rw [if_pos ht] at h ⊢
    have hw := ht
    unfold tokL at ht
    simp only [Bool.and_eq_true, Bool.not_eq_true', List.isEmpty_eq_false_iff] at ht
    have hg := tokGo_word h hw hr
    obtain ⟨c, t, hc⟩ : ∃ c t, v.data.toList = c :: t := by
      cases hv : v.data.toList with
      | nil => exact absurd hv ht.1
      | cons c t => exact ⟨c, t, rfl⟩
    have hm : markC c = true := List.all_eq_true.1 ht.2 c (by rw [hc]; simp)
    have h2 := h
    rw [hc] at h2
    obtain ⟨hk, hs, _⟩ := at_drop h2
    rw [valGo_tok s k (fun _ => by rw [hs]; exact (mark_not c hm).2.2), hg]
  · rw [if_neg ht] at h ⊢
    simp only [List.cons_append, List.append_assoc] at h
    obtain ⟨hk, hs, h2⟩ := at_drop h
    unfold valGo
    rw [dif_pos hk, if_pos hs]
    unfold quoP
    rw [quoGo_esc v.data.toList _ _ _ h2 (by omega)]
    simp only [List.nil_append, List.length_append, List.length_cons, List.length_nil, List.cons_append]
    rw [show k + 1 + (escL v.data.toList).length + 1 = k + ((escL v.data.toList).length + 1 + 1) from by omega]
    cases betP s (k + ((escL v.data.toList).length + 1 + 1)) <;> rfl
theorem tok_head {l : List UInt8} (h : tokL l = true) : ∃ c t, l = c :: t ∧ isBl c = false ∧ c ≠ 40 := by
  unfold tokL at h
  simp only [Bool.and_eq_true, Bool.not_eq_true', List.isEmpty_eq_false_iff] at h
  cases l with
  | nil => exact absurd rfl h.1
  | cons c t =>
    have hm := List.all_eq_true.1 h.2 c (by simp)
    exact ⟨c, t, rfl, (mark_not c hm).1, (mark_not c hm).2.1⟩
theorem ba_eta (a : ByteArray) : (⟨a.data.toList.toArray⟩ : ByteArray) = a := by cases a; simp
end Go.Proofs.Ytodidfdfbanliaa.PAll
