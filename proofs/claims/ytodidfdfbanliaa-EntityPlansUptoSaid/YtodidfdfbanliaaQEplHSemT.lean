/- What the reference's reader of types comes to: the same as the plain reader of places. -/
import Derived.Test.YtodidfdfbanliaaQEplHSemP
import Derived.Test.YtodidfdfbanliaaQEplFRead
set_option linter.unusedVariables false
set_option linter.unusedSimpArgs false
namespace Go.Proofs.Ytodidfdfbanliaa.PAll
open Go.RowKit Go.Proofs.YtodidfdfbanliaaW.PrintWords Go.Proofs.YtodidfdfbanliaaW.PrintLast Go.Proofs.YtodidfdfbanliaaW.PrintMore
theorem winkleref13_comment.l0_ev (t : ByteArray) (ht : t.size ≤ 140737488355328) (m : Nat) : ∀ (i : Nat) (d : Int), t.size - i ≤ m → 0 ≤ d → d ≤ 32 → (d = 0 → ∃ h : i < t.size, t[i] = 40) → i ≤ t.size + 1 →
    Ev (fun k => winkleref13_comment.l0 k t d (i : Int)) (match cmtGo (t.data.toList.drop i) d i with | some j => (j : Int) | none => 0) := by
  induction m with
  | zero =>
    intro i d hm h0 h32 h1 hi
    have e : cmtGo (t.data.toList.drop i) d i = none := by rw [List.drop_of_length_le (by simp; omega)]; rfl
    rw [e]
    refine Ev.step (f := fun _ => some 0) (fun k => ?_) (Ev.now _)
    simp only [winkleref13_comment.l0]; rw [if_neg (by omega)]
  | succ m ih =>
    intro i d hm h0 h32 h1 hi
    by_cases hlt : i < t.size
    · have hdrop := drop_cons_at t i hlt
      have hb := bt_nat t i hlt
      have hu40 : ((t[i].toNat : Int) = 40) ↔ t[i] = 40 := u8_ofInt t[i] 40
      have hu41 : ((t[i].toNat : Int) = 41) ↔ t[i] = 41 := u8_ofInt t[i] 41
      have hu92 : ((t[i].toNat : Int) = 92) ↔ t[i] = 92 := u8_ofInt t[i] 92
      have hw : wrap64 ((i : Int) + 1) = ((i + 1 : Nat) : Int) := wrap_succ i t.size hlt (by omega)
      have hw2 : wrap64 (((i + 1 : Nat) : Int) + 1) = ((i + 2 : Nat) : Int) := by unfold wrap64; omega
      rw [hdrop, cmt_step]
      by_cases q40 : t[i] = 40
      · have e : deepR t[i] d = d + 1 := by unfold deepR; rw [if_pos q40]
        have hwd : wrap64 (d + 1) = d + 1 := by unfold wrap64; omega
        rw [e, if_neg (by omega)]
        by_cases h3 : d + 1 > 32
        · rw [if_pos h3]
          refine Ev.step (f := fun _ => some 0) (fun k => ?_) (Ev.now _)
          simp only [winkleref13_comment.l0]
          rw [if_pos (by omega), if_pos (by omega), hb, if_pos (hu40.2 q40), hwd, if_pos h3]
        · rw [if_neg h3, if_neg (by rw [q40]; decide)]
          refine Ev.step (f := fun k => winkleref13_comment.l0 k t (d + 1) ((i + 1 : Nat) : Int)) (fun k => ?_) (ih (i + 1) (d + 1) (by omega) (by omega) (by omega) (fun h => by omega) (by omega))
          simp only [winkleref13_comment.l0]
          rw [if_pos (by omega), if_pos (by omega), hb, if_pos (hu40.2 q40), hwd, if_neg h3, if_neg (by omega), hw]
      · have hd : d ≠ 0 := fun h => by obtain ⟨_, h2⟩ := h1 h; exact q40 h2
        by_cases q41 : t[i] = 41
        · have e : deepR t[i] d = d - 1 := by unfold deepR; rw [if_neg q40, if_pos q41]
          have hwd : wrap64 (d - 1) = d - 1 := by unfold wrap64; omega
          rw [e]
          by_cases hz : d - 1 = 0
          · rw [if_pos hz, if_neg (by rw [q41]; decide)]
            refine Ev.step (f := fun _ => some ((i + 1 : Nat) : Int)) (fun k => ?_) (Ev.now _)
            simp only [winkleref13_comment.l0]
            rw [if_pos (by omega), if_pos (by omega), hb, if_neg (fun h => q40 (hu40.1 h)), if_pos (hu41.2 q41), hwd, if_pos hz, hw]
          · rw [if_neg hz, if_neg (by omega), if_neg (by rw [q41]; decide)]
            refine Ev.step (f := fun k => winkleref13_comment.l0 k t (d - 1) ((i + 1 : Nat) : Int)) (fun k => ?_) (ih (i + 1) (d - 1) (by omega) (by omega) (by omega) (fun h => absurd h hz) (by omega))
            simp only [winkleref13_comment.l0]
            rw [if_pos (by omega), if_pos (by omega), hb, if_neg (fun h => q40 (hu40.1 h)), if_pos (hu41.2 q41), hwd, if_neg hz, hw]
        · have e : deepR t[i] d = d := by unfold deepR; rw [if_neg q40, if_neg q41]
          rw [e, if_neg hd, if_neg (by omega)]
          by_cases q92 : t[i] = 92
          · rw [if_pos q92, List.tail_drop]
            refine Ev.step (f := fun k => winkleref13_comment.l0 k t d ((i + 2 : Nat) : Int)) (fun k => ?_) (ih (i + 2) d (by omega) (by omega) (by omega) (fun h => absurd h hd) (by omega))
            simp only [winkleref13_comment.l0]
            rw [if_pos (by omega), if_pos (by omega), hb, if_neg (fun h => q40 (hu40.1 h)), if_neg (fun h => q41 (hu41.1 h)), if_pos (hu92.2 q92), if_neg hd, hw, hw2]
          · rw [if_neg q92]
            refine Ev.step (f := fun k => winkleref13_comment.l0 k t d ((i + 1 : Nat) : Int)) (fun k => ?_) (ih (i + 1) d (by omega) (by omega) (by omega) (fun h => absurd h hd) (by omega))
            simp only [winkleref13_comment.l0]
            rw [if_pos (by omega), if_pos (by omega), hb, if_neg (fun h => q40 (hu40.1 h)), if_neg (fun h => q41 (hu41.1 h)), if_neg (fun h => q92 (hu92.1 h)), if_neg hd, hw]
    · have e : cmtGo (t.data.toList.drop i) d i = none := by rw [List.drop_of_length_le (by simp; omega)]; rfl
      rw [e]
      refine Ev.step (f := fun _ => some 0) (fun k => ?_) (Ev.now _)
      simp only [winkleref13_comment.l0]; rw [if_neg (by omega)]
/-- A text that is read from a place on, or none. -/
def EvT (g : Nat → Option (ByteArray × Bool)) (s : ByteArray) (r : Option Nat) : Prop :=
  match r with
  | some j => Ev g (fromB s j, true)
  | none => ∃ x, Ev g (x, false)
def EvP (g : Nat → Option (ByteArray × ByteArray × Bool)) (s : ByteArray) (r : Option (ByteArray × Nat)) : Prop :=
  match r with
  | some p => Ev g (p.1, fromB s p.2, true)
  | none => ∃ x y, Ev g (x, y, false)
theorem EvT.step {g f : Nat → Option (ByteArray × Bool)} {s : ByteArray} {r : Option Nat} (h : ∀ k, g (k + 1) = f k) (k : EvT f s r) : EvT g s r := by
  cases r with
  | none => obtain ⟨x, hx⟩ := k; exact ⟨x, Ev.step h hx⟩
  | some j => exact Ev.step h k
theorem EvT.congr {g f : Nat → Option (ByteArray × Bool)} {s : ByteArray} {r : Option Nat} (h : ∀ k, g k = f k) (k : EvT f s r) : EvT g s r := by
  cases r with
  | none => obtain ⟨x, hx⟩ := k; exact ⟨x, Ev.congr h hx⟩
  | some j => exact Ev.congr h k
theorem EvP.step {g f : Nat → Option (ByteArray × ByteArray × Bool)} {s : ByteArray} {r : Option (ByteArray × Nat)} (h : ∀ k, g (k + 1) = f k) (k : EvP f s r) : EvP g s r := by
  cases r with
  | none => obtain ⟨x, y, hx⟩ := k; exact ⟨x, y, Ev.step h hx⟩
  | some j => exact Ev.step h k
theorem EvP.congr {g f : Nat → Option (ByteArray × ByteArray × Bool)} {s : ByteArray} {r : Option (ByteArray × Nat)} (h : ∀ k, g k = f k) (k : EvP f s r) : EvP g s r := by
  cases r with
  | none => obtain ⟨x, y, hx⟩ := k; exact ⟨x, y, Ev.congr h hx⟩
  | some j => exact Ev.congr h k
theorem EvP.ofT {g : Nat → Option (ByteArray × Bool)} {s : ByteArray} {r : Option Nat} (h : EvT g s r) (x : ByteArray) (f : ByteArray × Bool → Option (ByteArray × ByteArray × Bool)) (hf : ∀ y, f (y, true) = some (x, y, true)) (hn : ∀ y, f (y, false) = some (x, y, false)) : EvP (fun k => (g k).bind f) s (r.map fun j => (x, j)) := by
  cases r with
  | none => obtain ⟨y, hy⟩ := h; exact ⟨x, y, Ev.bind (f := fun _ => f) hy (by rw [show (fun n => f (y, false)) = fun _ => some (x, y, false) from funext fun _ => hn y]; exact Ev.now _)⟩
  | some j => exact Ev.bind (f := fun _ => f) h (by rw [show (fun n => f (fromB s j, true)) = fun _ => some (x, fromB s j, true) from funext fun _ => hf _]; exact Ev.now _)
theorem winkleref13_Between.ev (s : ByteArray) (hs : s.size ≤ 140737488355328) (m : Nat) : ∀ k : Nat, s.size - k ≤ m → EvT (fun n => winkleref13_Between.f n (fromB s k)) s (betP s k) := by
  induction m with
  | zero =>
    intro k hm
    rw [betP_end s k (by omega)]
    refine Ev.step (f := fun _ => some (fromB s k, true)) (fun n => ?_) (Ev.now _)
    show winkleref13_Between.l0 (n + 1) (fromB s k) = _
    rw [winkleref13_Between.l0, if_neg (by rw [fromB_size]; omega)]
  | succ m ih =>
    intro k hm
    by_cases hk : k < s.size
    · have hb := fromB_bt s k 0 hk
      simp only [Nat.add_zero, Int.ofNat_zero, Int.natCast_zero] at hb
      have hsz := fromB_size s k
      have hbl := isBl_int s[k]
      have hu40 : ((s[k].toNat : Int) = 40) ↔ s[k] = 40 := u8_ofInt s[k] 40
      rw [betP_step s k hk]
      have hJ : EvT (fun n => winkleref13_Between.j1 n (fromB s k) (isBl s[k])) s (if isBl s[k] then betP s (k + 1) else if s[k] = 40 then (cmtGo (s.data.toList.drop k) 0 k).bind (betP s) else some k) := by
        by_cases hB : isBl s[k] = true
        · rw [if_pos hB]
          refine EvT.step (f := fun n => winkleref13_Between.f n (fromB s (k + 1))) (fun n => ?_) (ih (k + 1) (by omega))
          rw [hB, winkleref13_Between.j1, if_pos rfl, if_pos (by omega), fromB_from]; rfl
        · rw [if_neg hB]
          have hB2 : isBl s[k] = false := by simpa using hB
          by_cases h40 : s[k] = 40
          · rw [if_pos h40]
            have hc := winkleref13_comment.l0_ev (fromB s k) (by omega) (fromB s k).size 0 0 (by omega) (by omega) (by omega) (fun _ => ⟨by omega, by rw [fromB_at s k 0 hk]; exact h40⟩) (by omega)
            rw [List.drop_zero, fromB_list] at hc
            have hsh := cmt_shift _ (s.data.toList.drop k) 0 0 k (Nat.le_refl _)
            rw [Nat.zero_add] at hsh
            rw [hsh]
            cases hg : cmtGo (s.data.toList.drop k) 0 0 with
            | none =>
              rw [hg] at hc
              refine ⟨fromB s k, Ev.step (f := fun n => (winkleref13_comment.f n (fromB s k)).bind fun t240 => (if t240 = 0 then (some (fromB s k, false)) else (if 0 ≤ t240 then (if t240 ≤ ((fromB s k).size : Int) then (winkleref13_Between.l0 n ((fromB s k).extract (t240 : Int).toNat (fromB s k).size)) else (none)) else (none)))) (fun n => ?_) (Ev.bind hc ?_)⟩
              · rw [hB2, winkleref13_Between.j1, if_neg (by simp), if_pos (by omega), hb, if_pos (hu40.2 h40)]
              · simpa using Ev.now _
            | some j =>
              rw [hg] at hc
              have hj0 := cmt_past _ _ _ _ _ (Nat.le_refl _) hg
              have hjl := cmt_le _ _ _ _ _ (Nat.le_refl _) (by omega) (fun _ => by rw [drop_cons_at s k hk, List.head?_cons, h40]) hg
              simp only [Nat.zero_add, List.length_drop, toList_size] at hjl
              rw [Option.map_some, Option.bind_some]
              have h2 := ih (j + k) (by omega)
              have hX : EvT (fun n => (winkleref13_comment.f n (fromB s k)).bind fun t240 => (if t240 = 0 then (some (fromB s k, false)) else (if 0 ≤ t240 then (if t240 ≤ ((fromB s k).size : Int) then (winkleref13_Between.l0 n ((fromB s k).extract (t240 : Int).toNat (fromB s k).size)) else (none)) else (none)))) s (betP s (j + k)) := by
                have e : ∀ n, (if (j : Int) = 0 then (some (fromB s k, false)) else (if 0 ≤ (j : Int) then (if (j : Int) ≤ ((fromB s k).size : Int) then (winkleref13_Between.l0 n ((fromB s k).extract (j : Int).toNat (fromB s k).size)) else (none)) else (none))) = winkleref13_Between.f n (fromB s (j + k)) := fun n => by
                  rw [if_neg (by omega), if_pos (by omega), if_pos (by omega), Int.toNat_natCast, fromB_from, Nat.add_comm]; rfl
                cases hr : betP s (j + k) with
                | none =>
                  rw [hr] at h2
                  obtain ⟨x, hx⟩ := h2
                  exact ⟨x, Ev.bind hc (Ev.congr e hx)⟩
                | some i =>
                  rw [hr] at h2
                  exact Ev.bind hc (Ev.congr e h2)
              refine EvT.step (fun n => ?_) hX
              rw [hB2, winkleref13_Between.j1, if_neg (by simp), if_pos (by omega), hb, if_pos (hu40.2 h40)]
          · rw [if_neg h40]
            refine Ev.step (f := fun _ => some (fromB s k, true)) (fun n => ?_) (Ev.now _)
            rw [hB2, winkleref13_Between.j1, if_neg (by simp), if_pos (by omega), hb, if_neg (fun h => h40 (hu40.1 h))]
      refine EvT.step (f := fun n => winkleref13_Between.j1 n (fromB s k) (isBl s[k])) (fun n => ?_) hJ
      show winkleref13_Between.l0 (n + 1) (fromB s k) = _
      rw [winkleref13_Between.l0, if_pos (by omega), if_pos (by omega), hb]
      by_cases h9 : (s[k].toNat : Int) = 9
      · rw [if_pos h9, hbl]; simp [h9]
      · rw [if_neg h9, hbl]
        congr 1
        by_cases h32 : (s[k].toNat : Int) = 32
        · simp [h32]
        · simp [h9, h32]
    · rw [betP_end s k hk]
      refine Ev.step (f := fun _ => some (fromB s k, true)) (fun n => ?_) (Ev.now _)
      show winkleref13_Between.l0 (n + 1) (fromB s k) = _
      rw [winkleref13_Between.l0, if_neg (by rw [fromB_size]; omega)]
theorem between_ev (s : ByteArray) (hs : s.size ≤ 140737488355328) (k : Nat) : EvT (fun n => winkleref13_Between.f n (fromB s k)) s (betP s k) := winkleref13_Between.ev s hs _ k (Nat.le_refl _)
def tokAft (t0 : ByteArray) (x5 : Int) (bt242 : ByteArray × Bool) : Option (ByteArray × ByteArray × Bool) := if bt242.2 = true then (some (t0.extract 0 (x5 : Int).toNat, bt242.1, decide (x5 > 0))) else (some (t0.extract 0 (x5 : Int).toNat, bt242.1, false))
theorem token_stop (s : ByteArray) (hs : s.size ≤ 140737488355328) (k i : Nat) (hi : k + i ≤ s.size) (he : tokEnd s k = k + i) :
    EvP (fun n => (winkleref13_Between.f n ((fromB s k).extract ((i : Int)).toNat (fromB s k).size)).bind (tokAft (fromB s k) (i : Int))) s (tokGo s k) := by
  have hb := between_ev s hs (k + i)
  have e : ∀ n, (winkleref13_Between.f n ((fromB s k).extract ((i : Int)).toNat (fromB s k).size)).bind (tokAft (fromB s k) (i : Int)) = (winkleref13_Between.f n (fromB s (k + i))).bind (tokAft (fromB s k) (i : Int)) := fun n => by
    rw [Int.toNat_natCast, fromB_from]
  refine EvP.congr e ?_
  unfold tokGo
  rw [he]
  by_cases h0 : i = 0
  · subst h0
    rw [if_pos (by omega)]
    have aft : ∀ y b, tokAft (fromB s k) ((0 : Nat) : Int) (y, b) = some ((fromB s k).extract 0 0, y, false) := fun y b => by
      unfold tokAft; cases b <;> simp
    cases hr : betP s (k + 0) with
    | none =>
      rw [hr] at hb
      obtain ⟨y, hy⟩ := hb
      exact ⟨_, y, Ev.bind (f := fun _ => tokAft (fromB s k) ((0 : Nat) : Int)) hy (Ev.congr (fun _ => aft y false) (Ev.now _))⟩
    | some j =>
      rw [hr] at hb
      exact ⟨_, fromB s j, Ev.bind (f := fun _ => tokAft (fromB s k) ((0 : Nat) : Int)) hb (Ev.congr (fun _ => aft _ true) (Ev.now _))⟩
  · rw [if_neg (by omega)]
    refine EvP.ofT hb _ _ (fun y => ?_) (fun y => ?_)
    · unfold tokAft; simp only [if_true, Int.toNat_natCast]
      rw [fromB_take s k i hi, decide_eq_true (by omega)]
    · unfold tokAft; simp only [Bool.false_eq_true, if_false, Int.toNat_natCast]
      rw [fromB_take s k i hi]
theorem winkleref13_token.l0_ev (s : ByteArray) (hs : s.size ≤ 140737488355328) (k : Nat) (m : Nat) : ∀ i : Nat, s.size - (k + i) ≤ m → k + i ≤ s.size → tokEnd s (k + i) = tokEnd s k →
    EvP (fun n => winkleref13_token.l0 n (fromB s k) (i : Int)) s (tokGo s k) := by
  induction m with
  | zero =>
    intro i hm hi he
    refine EvP.step (f := fun n => (winkleref13_Between.f n ((fromB s k).extract ((i : Int)).toNat (fromB s k).size)).bind (tokAft (fromB s k) (i : Int))) (fun n => ?_) (token_stop s hs k i hi (by rw [← he, tokEnd_end s _ (by omega)]))
    rw [winkleref13_token.l0, if_neg (by rw [fromB_size]; omega), if_pos (by omega), if_pos (by rw [fromB_size]; omega)]
    rfl
  | succ m ih =>
    intro i hm hi he
    by_cases hlt : k + i < s.size
    · have hsz := fromB_size s k
      have hb := fromB_bt s k i hlt
      have hmk := winkleref13_mark.ev s[k + i]
      have hw := Lib.hid (wrap_succ i s.size (by omega) (by omega))
      have hX : EvP (fun n => (winkleref13_mark.f n (s[k + i].toNat : Int)).bind fun t241 => (if t241 = true then (winkleref13_token.l0 n (fromB s k) ((i + 1 : Nat) : Int)) else ((winkleref13_Between.f n ((fromB s k).extract ((i : Int)).toNat (fromB s k).size)).bind (tokAft (fromB s k) (i : Int))))) s (tokGo s k) := by
        by_cases hc : markC s[k + i] = true
        · rw [hc] at hmk
          have h2 := ih (i + 1) (by omega) (by omega) ((tokEnd_step s (k + i) hlt hc).trans he)
          cases hr : tokGo s k with
          | none => rw [hr] at h2; obtain ⟨x, y, hx⟩ := h2; exact ⟨x, y, Ev.bind hmk (by simpa using hx)⟩
          | some p => rw [hr] at h2; exact Ev.bind hmk (by simpa [EvP] using h2)
        · have hc2 : markC s[k + i] = false := by simpa using hc
          rw [hc2] at hmk
          have h2 := token_stop s hs k i hi (by rw [← he, tokEnd_stop s _ hlt hc2])
          cases hr : tokGo s k with
          | none => rw [hr] at h2; obtain ⟨x, y, hx⟩ := h2; exact ⟨x, y, Ev.bind hmk (by simpa using hx)⟩
          | some p => rw [hr] at h2; exact Ev.bind hmk (by simpa [EvP] using h2)
      refine EvP.step (fun n => ?_) hX
      rw [winkleref13_token.l0, if_pos (by omega), if_pos (by omega), hb, hw.out]
      congr 1
      funext t241
      rw [if_pos (show (i : Int) ≤ ((fromB s k).size : Int) by omega)]; rfl
    · refine EvP.step (f := fun n => (winkleref13_Between.f n ((fromB s k).extract ((i : Int)).toNat (fromB s k).size)).bind (tokAft (fromB s k) (i : Int))) (fun n => ?_) (token_stop s hs k i hi (by rw [← he, tokEnd_end s _ (by omega)]))
      rw [winkleref13_token.l0, if_neg (by rw [fromB_size]; omega), if_pos (by omega), if_pos (by rw [fromB_size]; omega)]
      rfl
theorem token_ev (s : ByteArray) (hs : s.size ≤ 140737488355328) (k : Nat) (hk : k ≤ s.size) : EvP (fun n => winkleref13_token.f n (fromB s k)) s (tokGo s k) :=
  winkleref13_token.l0_ev s hs k _ 0 (Nat.le_refl _) hk rfl
theorem sign_ev (s : ByteArray) (hs : s.size ≤ 140737488355328) (k : Nat) (c : UInt8) : EvT (fun n => winkleref13_sign.f n (fromB s k) (c.toNat : Int)) s (expGo s k c) := by
  have hsz := fromB_size s k
  unfold expGo
  by_cases hk : k < s.size
  · rw [dif_pos hk]
    have hb := fromB_bt s k 0 hk
    simp only [Nat.add_zero, Int.ofNat_zero, Int.natCast_zero] at hb
    by_cases hc : s[k] = c
    · rw [if_pos hc]
      have h2 := between_ev s hs (k + 1)
      have e : ∀ n, winkleref13_sign.f n (fromB s k) (c.toNat : Int) = (winkleref13_Between.f n (fromB s (k + 1))).bind fun bt246 => some (bt246.1, bt246.2) := fun n => by
        unfold winkleref13_sign.f
        rw [if_neg (by omega), if_pos (by omega), hb, if_pos (by rw [hc]), if_pos (by omega), fromB_from]
      refine EvT.congr e ?_
      cases hr : betP s (k + 1) with
      | none => rw [hr] at h2; obtain ⟨x, hx⟩ := h2; exact ⟨x, Ev.bind hx (Ev.now _)⟩
      | some j => rw [hr] at h2; exact Ev.bind h2 (Ev.now _)
    · rw [if_neg hc]
      refine ⟨fromB s k, Ev.congr (fun n => ?_) (Ev.now _)⟩
      unfold winkleref13_sign.f
      rw [if_neg (by omega), if_pos (by omega), hb, if_neg (fun h => hc ((u8_ofInt _ _).1 h))]
  · rw [dif_neg hk]
    refine ⟨fromB s k, Ev.congr (fun n => ?_) (Ev.now _)⟩
    unfold winkleref13_sign.f
    rw [if_pos (by omega)]
def u8s (l : List UInt8) : List Int := l.map fun c => (c.toNat : Int)
theorem quoted_l0_ev (s : ByteArray) (hs : s.size ≤ 140737488350000) (k : Nat) (m : Nat) : ∀ (i : Nat) (acc : List UInt8), s.size + 1 ≤ m + (k + i) → k + i ≤ s.size → acc.length ≤ i →
    EvP (fun n => winkleref13_quoted.l0 n (fromB s k) (u8s acc) (i : Int)) s ((quoGo m s (k + i) acc).map fun r => (⟨r.1.toArray⟩, r.2)) := by
  have hsz := fromB_size s k
  induction m with
  | zero => intro i acc hm hi; omega
  | succ m ih =>
    intro i acc hm hi ha
    by_cases hlt : k + i < s.size
    · have hb := fromB_bt s k i hlt
      have hu34 : ((s[k + i].toNat : Int) = 34) ↔ s[k + i] = 34 := u8_ofInt s[k + i] 34
      have hu92 : ((s[k + i].toNat : Int) = 92) ↔ s[k + i] = 92 := u8_ofInt s[k + i] 92
      have hw := Lib.hid (wrap_succ i s.size (by omega) (by omega))
      have hw2 := Lib.hid (show wrap64 (((i + 1 : Nat) : Int) + 1) = ((i + 2 : Nat) : Int) from by unfold wrap64; omega)
      have hl : ((u8s acc).length : Nat) < 140737488355328 := by simp [u8s]; omega
      have hsn : ∀ c : UInt8, u8s acc ++ [(c.toNat : Int)] = u8s (acc ++ [c]) := fun c => by simp [u8s]
      rw [quoGo, dif_pos hlt]
      by_cases q34 : s[k + i] = 34
      · rw [if_pos q34]
        have h2 := between_ev s (by omega) (k + i + 1)
        refine EvP.step (f := fun n => (winkleref13_Between.f n (fromB s (k + i + 1))).bind fun bt248 => some (strOfNums (u8s acc), bt248.1, bt248.2)) (fun n => ?_) ?_
        · rw [winkleref13_quoted.l0, if_pos (by omega), if_pos (by omega), hb, if_pos (hu34.2 q34), hw.out, if_pos (by omega), if_pos (by omega), Int.toNat_natCast, fromB_from, show k + (i + 1) = k + i + 1 from by omega]
        · have := EvP.ofT h2 (⟨acc.toArray⟩ : ByteArray) (fun bt248 => some (strOfNums (u8s acc), bt248.1, bt248.2)) (fun y => by rw [show strOfNums (u8s acc) = _ from strOfNums_map acc]) (fun y => by rw [show strOfNums (u8s acc) = _ from strOfNums_map acc])
          cases hr : betP s (k + i + 1) with
          | none => rw [hr] at this; exact this
          | some j => rw [hr] at this; exact this
      · rw [if_neg q34]
        by_cases q92 : s[k + i] = 92
        · rw [if_pos q92]
          by_cases h2 : k + i + 1 < s.size
          · rw [dif_pos h2]
            have hb2 := fromB_bt s k (i + 1) h2
            refine EvP.step (f := fun n => winkleref13_quoted.l0 n (fromB s k) (u8s (acc ++ [s[k + (i + 1)]])) ((i + 2 : Nat) : Int)) (fun n => ?_) (ih (i + 2) _ (by omega) (by omega) (by simp; omega))
            rw [winkleref13_quoted.l0, if_pos (by omega), if_pos (by omega), hb, if_neg (fun h => q34 (hu34.1 h)), if_pos (hu92.2 q92), hw.out, if_neg (by omega), if_pos (by omega), if_pos (by omega), if_pos hl, hb2, hw2.out, hsn]
          · rw [dif_neg h2]
            refine ⟨⟨#[]⟩, ⟨#[]⟩, Ev.step (f := fun _ => some (⟨#[]⟩, ⟨#[]⟩, false)) (fun n => ?_) (Ev.now _)⟩
            rw [winkleref13_quoted.l0, if_pos (by omega), if_pos (by omega), hb, if_neg (fun h => q34 (hu34.1 h)), if_pos (hu92.2 q92), hw.out, if_pos (by omega)]
        · rw [if_neg q92]
          refine EvP.step (f := fun n => winkleref13_quoted.l0 n (fromB s k) (u8s (acc ++ [s[k + i]])) ((i + 1 : Nat) : Int)) (fun n => ?_) (ih (i + 1) _ (by omega) (by omega) (by simp; omega))
          rw [winkleref13_quoted.l0, if_pos (by omega), if_pos (by omega), hb, if_neg (fun h => q34 (hu34.1 h)), if_neg (fun h => q92 (hu92.1 h)), if_pos hl, hsn, hw.out]
    · rw [quoGo, dif_neg hlt]
      refine ⟨⟨#[]⟩, ⟨#[]⟩, Ev.step (f := fun _ => some (⟨#[]⟩, ⟨#[]⟩, false)) (fun n => ?_) (Ev.now _)⟩
      rw [winkleref13_quoted.l0, if_neg (by omega)]
theorem quoted_ev (s : ByteArray) (hs : s.size ≤ 140737488350000) (k : Nat) (hk : k < s.size) : EvP (fun n => winkleref13_quoted.f n (fromB s k)) s ((quoP s (k + 1)).map fun r => (⟨r.1.toArray⟩, r.2)) := by
  have := quoted_l0_ev s hs k (s.size + 1 - (k + 1)) 1 [] (by omega) (by omega) (by simp)
  exact this
def EvQ (g : Nat → Option (ByteArray × ByteArray × ByteArray × Bool)) (s : ByteArray) (r : Option (ByteArray × ByteArray × Nat)) : Prop :=
  match r with
  | some p => Ev g (p.1, p.2.1, fromB s p.2.2, true)
  | none => ∃ x y z, Ev g (x, y, z, false)
theorem EvQ.step {g f : Nat → Option (ByteArray × ByteArray × ByteArray × Bool)} {s : ByteArray} {r : Option (ByteArray × ByteArray × Nat)} (h : ∀ k, g (k + 1) = f k) (k : EvQ f s r) : EvQ g s r := by
  cases r with
  | none => obtain ⟨x, y, z, hx⟩ := k; exact ⟨x, y, z, Ev.step h hx⟩
  | some j => exact Ev.step h k
/-- Behind a text and its end. -/
theorem EvQ.ofP {g : Nat → Option (ByteArray × ByteArray × Bool)} {l : Nat → Option ByteArray} {s nm : ByteArray} {r : Option (ByteArray × Nat)} (h : EvP g s r) (hl : Ev l nm) : EvQ (fun k => (g k).bind fun b => (l k).bind fun t => some (t, b.1, b.2.1, b.2.2)) s (r.map fun v => (nm, v.1, v.2)) := by
  cases r with
  | none =>
    obtain ⟨x, y, hx⟩ := h
    exact ⟨nm, x, y, Ev.bind (f := fun k b => (l k).bind fun t => some (t, b.1, b.2.1, b.2.2)) hx (Ev.bind (f := fun _ t => some (t, x, y, false)) hl (Ev.now _))⟩
  | some p => exact Ev.bind (f := fun k b => (l k).bind fun t => some (t, b.1, b.2.1, b.2.2)) h (Ev.bind (f := fun _ t => some (t, p.1, fromB s p.2, true)) hl (Ev.now _))
theorem par_j0_ev (s nm : ByteArray) (hs : s.size ≤ 140737488350000) (hn : nm.size ≤ s.size) (f : Nat) (hf : f ≤ s.size) :
    EvQ (fun n => winkleref13_param.j0 n nm (fromB s f) (((fromB s f).size : Int) == 0)) s ((valGo s f).map fun v => (lowB nm, v.1, v.2)) := by
  have hsz := fromB_size s f
  have hlow := winkleref13_Lower.ev nm (by omega)
  by_cases hlt : f < s.size
  · have hb := fromB_bt s f 0 hlt
    simp only [Nat.add_zero, Int.ofNat_zero, Int.natCast_zero] at hb
    have hu34 : ((s[f].toNat : Int) = 34) ↔ s[f] = 34 := u8_ofInt s[f] 34
    have h0 : (((fromB s f).size : Int) == 0) = false := beq_eq_false_iff_ne.2 (by omega)
    rw [h0]
    unfold valGo
    rw [dif_pos hlt]
    by_cases q : s[f] = 34
    · rw [if_pos q]
      refine EvQ.step (fun n => ?_) (EvQ.ofP (quoted_ev s hs f hlt) hlow)
      rw [winkleref13_param.j0, if_neg (by simp), if_pos (by omega), hb, if_pos (hu34.2 q)]
    · rw [if_neg q]
      refine EvQ.step (fun n => ?_) (EvQ.ofP (token_ev s (by omega) f hf) hlow)
      rw [winkleref13_param.j0, if_neg (by simp), if_pos (by omega), hb, if_neg (fun h => q (hu34.1 h))]
  · have h0 : (((fromB s f).size : Int) == 0) = true := beq_iff_eq.2 (by omega)
    rw [h0, valGo, dif_neg hlt]
    refine ⟨⟨#[]⟩, ⟨#[]⟩, ⟨#[]⟩, Ev.step (f := fun _ => some (⟨#[]⟩, ⟨#[]⟩, ⟨#[]⟩, false)) (fun n => ?_) (Ev.now _)⟩
    rw [winkleref13_param.j0, if_pos rfl]
theorem param_ev (s : ByteArray) (hs : s.size ≤ 140737488350000) (k : Nat) (hk : k ≤ s.size) : EvQ (fun n => winkleref13_param.f n (fromB s k)) s (parOne s k) := by
  have h1 := token_ev s (by omega) k hk
  unfold parOne
  have bad : EvQ (fun _ => some ((⟨#[]⟩ : ByteArray), (⟨#[]⟩ : ByteArray), (⟨#[]⟩ : ByteArray), false)) s none := ⟨_, _, _, Ev.now _⟩
  cases hr : tokGo s k with
  | none =>
    rw [hr] at h1
    obtain ⟨x, y, hx⟩ := h1
    refine ⟨⟨#[]⟩, ⟨#[]⟩, ⟨#[]⟩, ?_⟩
    unfold winkleref13_param.f
    exact Ev.bind (f := fun n bt257 => (if bt257.2.2 = true then ((winkleref13_sign.f n bt257.2.1 61).bind fun bt260 => (if bt260.2 = true then (winkleref13_param.j0 n bt257.1 bt260.1 ((bt260.1.size : Int) == 0)) else (winkleref13_param.j0 n bt257.1 bt260.1 true))) else (some ((⟨#[]⟩ : ByteArray), (⟨#[]⟩ : ByteArray), (⟨#[]⟩ : ByteArray), false)))) hx (by simpa using Ev.now _)
  | some nm =>
    rw [hr] at h1
    have hnm := tokGo_size hr
    have hn2 := tokGo_le hk hr
    have h2 : EvT (fun n => winkleref13_sign.f n (fromB s nm.2) 61) s (expGo s nm.2 61) := sign_ev s (by omega) nm.2 61
    rw [Option.bind_some]
    have hX : EvQ (fun n => (winkleref13_sign.f n (fromB s nm.2) 61).bind fun bt260 => (if bt260.2 = true then (winkleref13_param.j0 n nm.1 bt260.1 ((bt260.1.size : Int) == 0)) else (winkleref13_param.j0 n nm.1 bt260.1 true))) s ((expGo s nm.2 61).bind fun f => (valGo s f).map fun v => (lowB nm.1, v.1, v.2)) := by
      cases hg : expGo s nm.2 61 with
      | none =>
        rw [hg] at h2
        obtain ⟨x, hx⟩ := h2
        refine ⟨⟨#[]⟩, ⟨#[]⟩, ⟨#[]⟩, Ev.bind (f := fun n bt260 => (if bt260.2 = true then (winkleref13_param.j0 n nm.1 bt260.1 ((bt260.1.size : Int) == 0)) else (winkleref13_param.j0 n nm.1 bt260.1 true))) hx ?_⟩
        refine Ev.step (f := fun _ => some (⟨#[]⟩, ⟨#[]⟩, ⟨#[]⟩, false)) (fun n => ?_) (Ev.now _)
        simp only [Bool.false_eq_true, if_false]
        rw [winkleref13_param.j0, if_pos rfl]
      | some f =>
        rw [hg] at h2
        have h3 := par_j0_ev s nm.1 hs hnm f (expGo_le hg)
        rw [Option.bind_some]
        cases hv : valGo s f with
        | none =>
          rw [hv] at h3
          obtain ⟨x, y, z, hx⟩ := h3
          exact ⟨x, y, z, Ev.bind (f := fun n bt260 => (if bt260.2 = true then (winkleref13_param.j0 n nm.1 bt260.1 ((bt260.1.size : Int) == 0)) else (winkleref13_param.j0 n nm.1 bt260.1 true))) h2 (by simpa using hx)⟩
        | some v =>
          rw [hv] at h3
          exact Ev.bind (f := fun n bt260 => (if bt260.2 = true then (winkleref13_param.j0 n nm.1 bt260.1 ((bt260.1.size : Int) == 0)) else (winkleref13_param.j0 n nm.1 bt260.1 true))) h2 (by simpa [EvQ] using h3)
    unfold winkleref13_param.f
    cases hq : ((expGo s nm.2 61).bind fun f => (valGo s f).map fun v => (lowB nm.1, v.1, v.2)) with
    | none =>
      rw [hq] at hX
      obtain ⟨x, y, z, hx⟩ := hX
      exact ⟨x, y, z, Ev.bind (f := fun n bt257 => (if bt257.2.2 = true then ((winkleref13_sign.f n bt257.2.1 61).bind fun bt260 => (if bt260.2 = true then (winkleref13_param.j0 n bt257.1 bt260.1 ((bt260.1.size : Int) == 0)) else (winkleref13_param.j0 n bt257.1 bt260.1 true))) else (some ((⟨#[]⟩ : ByteArray), (⟨#[]⟩ : ByteArray), (⟨#[]⟩ : ByteArray), false)))) h1 (by simpa using hx)⟩
    | some p =>
      rw [hq] at hX
      exact Ev.bind (f := fun n bt257 => (if bt257.2.2 = true then ((winkleref13_sign.f n bt257.2.1 61).bind fun bt260 => (if bt260.2 = true then (winkleref13_param.j0 n bt257.1 bt260.1 ((bt260.1.size : Int) == 0)) else (winkleref13_param.j0 n bt257.1 bt260.1 true))) else (some ((⟨#[]⟩ : ByteArray), (⟨#[]⟩ : ByteArray), (⟨#[]⟩ : ByteArray), false)))) h1 (by simpa [EvQ] using hX)
abbrev noType : ByteArray × ByteArray × List S42 × Bool := (⟨#[]⟩, ⟨#[]⟩, [], false)
def parR (m u : ByteArray) (acc : List S42) (r : Option (List S42)) : ByteArray × ByteArray × List S42 × Bool := match r with | some r => (m, u, acc ++ r, true) | none => noType
abbrev typAft (n : Nat) (m u : ByteArray) (acc : List S42) (b : ByteArray × ByteArray × ByteArray × Bool) : Option (ByteArray × ByteArray × List S42 × Bool) :=
  if b.2.2.2 = true then (if acc.length < 4398046511104 then (winkleref13_Type.l0 n b.2.2.1 m u (acc ++ [(⟨b.1, b.2.1⟩ : S42)])) else (none)) else (some noType)
theorem type_l0_ev (s m u : ByteArray) (hs : s.size ≤ 4398046511104) (N : Nat) : ∀ (k : Nat) (acc : List S42), s.size + 1 ≤ N + k → k ≤ s.size → acc.length ≤ k →
    Ev (fun n => winkleref13_Type.l0 n (fromB s k) m u acc) (parR m u acc (parGo N s k)) := by
  induction N with
  | zero => intro k acc h1 h2; omega
  | succ N ih =>
    intro k acc h1 h2 h3
    have hsz := fromB_size s k
    by_cases hlt : k < s.size
    · rw [parGo_step N s k hlt]
      have he : EvT (fun n => winkleref13_sign.f n (fromB s k) 59) s (expGo s k 59) := sign_ev s (by omega) k 59
      refine Ev.step (f := fun n => (winkleref13_sign.f n (fromB s k) 59).bind fun bt284 => (if bt284.2 = true then ((winkleref13_param.f n bt284.1).bind (typAft n m u acc)) else (some noType))) (fun n => ?_) ?_
      · rw [winkleref13_Type.l0, if_pos (by omega)]
      · cases hg : expGo s k 59 with
        | none =>
          rw [hg] at he
          obtain ⟨x, hx⟩ := he
          exact Ev.bind (f := fun n bt284 => (if bt284.2 = true then ((winkleref13_param.f n bt284.1).bind (typAft n m u acc)) else (some noType))) hx (by simpa [parR] using Ev.now _)
        | some c =>
          rw [hg] at he
          have hc := expGo_gt hg
          have hp := param_ev s (by omega) c (expGo_le hg)
          rw [Option.bind_some]
          refine Ev.bind (f := fun n bt284 => (if bt284.2 = true then ((winkleref13_param.f n bt284.1).bind (typAft n m u acc)) else (some noType))) he ?_
          simp only [if_true]
          cases hq : parOne s c with
          | none =>
            rw [hq] at hp
            obtain ⟨x, y, z, hx⟩ := hp
            exact Ev.bind (f := fun n => typAft n m u acc) hx (by simpa [parR, typAft] using Ev.now _)
          | some p =>
            rw [hq] at hp
            have hg1 := parOne_gt hq
            have hg2 := parOne_le hq
            have hi := ih p.2.2 (acc ++ [⟨p.1, p.2.1⟩]) (by omega) hg2 (by simp; omega)
            refine Ev.bind (f := fun n => typAft n m u acc) hp ?_
            refine Ev.congr (f := fun n => winkleref13_Type.l0 n (fromB s p.2.2) m u (acc ++ [⟨p.1, p.2.1⟩])) (fun n => ?_) ?_
            · show (if true = true then (if acc.length < 4398046511104 then _ else none) else _) = _
              rw [if_pos rfl, if_pos (by omega)]
            · rw [Option.bind_some]
              cases hz : parGo N s p.2.2 with
              | none => rw [hz] at hi; exact hi
              | some r => rw [hz] at hi; simpa [parR] using hi
    · rw [parGo, if_neg hlt]
      refine Ev.step (f := fun _ => some (m, u, acc, true)) (fun n => ?_) (by simpa [parR] using Ev.now _)
      rw [winkleref13_Type.l0, if_neg (by omega)]
theorem type_ev (s : ByteArray) (hs : s.size ≤ 4398046511104) : Ev (fun n => winkleref13_Type.f n s) (typeR s) := by
  have h0 := between_ev s (by omega) 0
  rw [fromB_zero] at h0
  unfold winkleref13_Type.f typeR typeGo
  cases g0 : betP s 0 with
  | none =>
    rw [g0] at h0
    obtain ⟨x, hx⟩ := h0
    refine Ev.bind (f := fun k bt271 => _) hx ?_
    simpa using Ev.now _
  | some a =>
    rw [g0] at h0
    have ha := betP_le (by omega) g0
    refine Ev.bind (f := fun k bt271 => _) h0 ?_
    simp only [if_true, Option.bind_some]
    have h1 := token_ev s (by omega) a ha
    cases g1 : tokGo s a with
    | none =>
      rw [g1] at h1
      obtain ⟨x, y, hx⟩ := h1
      refine Ev.bind (f := fun k bt273 => _) hx ?_
      simpa using Ev.now _
    | some m =>
      rw [g1] at h1
      refine Ev.bind (f := fun k bt273 => _) h1 ?_
      simp only [if_true, Option.bind_some]
      have h2 : EvT (fun n => winkleref13_sign.f n (fromB s m.2) 47) s (expGo s m.2 47) := sign_ev s (by omega) m.2 47
      cases g2 : expGo s m.2 47 with
      | none =>
        rw [g2] at h2
        obtain ⟨x, hx⟩ := h2
        refine Ev.bind (f := fun k bt276 => _) hx ?_
        simpa using Ev.now _
      | some c =>
        rw [g2] at h2
        refine Ev.bind (f := fun k bt276 => _) h2 ?_
        simp only [if_true, Option.bind_some]
        have h3 := token_ev s (by omega) c (expGo_le g2)
        cases g3 : tokGo s c with
        | none =>
          rw [g3] at h3
          obtain ⟨x, y, hx⟩ := h3
          refine Ev.bind (f := fun k bt278 => _) hx ?_
          simpa using Ev.now _
        | some u =>
          rw [g3] at h3
          refine Ev.bind (f := fun k bt278 => _) h3 ?_
          simp only [if_true, Option.bind_some]
          have hm := tokGo_size g1
          have hu := tokGo_size g3
          have hle := tokGo_le (expGo_le g2) g3
          refine Ev.bind (f := fun k t281 => _) (winkleref13_Lower.ev m.1 (by omega)) ?_
          refine Ev.bind (f := fun k t282 => _) (winkleref13_Lower.ev u.1 (by omega)) ?_
          have hi := type_l0_ev s (lowB m.1) (lowB u.1) hs (s.size + 1 - u.2) u.2 [] (by omega) hle (by simp)
          cases hz : parGo (s.size + 1 - u.2) s u.2 with
          | none => rw [hz] at hi; exact hi
          | some r => rw [hz] at hi; exact hi
end Go.Proofs.Ytodidfdfbanliaa.PAll
