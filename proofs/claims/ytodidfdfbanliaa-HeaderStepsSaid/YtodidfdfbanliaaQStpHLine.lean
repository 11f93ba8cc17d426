/- (*Run).line of the reference: one more line of a header (lineR), into a run that the call itself made. -/
import Derived.Lib.Hide
import Derived.Lib.OthersKept
import Derived.Deep.RegionHeld3
import Derived.Deep.AppendLies
import Derived.Deep.DrawnRows
import Derived.StillTailTactics
import Derived.Test.YtodidfdfbanliaaQStpHHead
import Derived.Test.YtodidfdfbanliaaQStpHSem1
import Derived.Test.YtodidfdfbanliaaQStpPAllx0
import Derived.Test.YtodidfdfbanliaaQStpFRun
set_option linter.unusedVariables false
set_option linter.unusedSimpArgs false
namespace Go.Proofs.Ytodidfdfbanliaa.PAll
open Go.RowKit Go.Proofs.YtodidfdfbanliaaW.PrintWords Go.Proofs.YtodidfdfbanliaaW.PrintLast
theorem takeWhile_at (l : List UInt8) (n : Nat) (h : n ≤ l.length) (ha : ∀ i (hi : i < l.length), i < n → okName l[i] = true) (hs : ∀ hn : n < l.length, okName l[n] = false) : (l.takeWhile okName).length = n := by
  induction l generalizing n with
  | nil => simp at h ⊢; omega
  | cons c l ih =>
    cases n with
    | zero => have h0 : okName c = false := hs (by simp); simp [h0]
    | succ n =>
      have h0 : okName c = true := ha 0 (by simp) (by omega)
      rw [List.takeWhile_cons_of_pos h0, List.length_cons]
      rw [ih n (by simpa using h) (fun i hi hin => by have := ha (i + 1) (by simpa using hi) (by omega); simpa using this) (fun hn => by have := hs (by simpa using hn); simpa using this)]
theorem okName_int (c : UInt8) : okName c = (decide ((c.toNat : Int) ≥ 33) && decide ((c.toNat : Int) ≤ 126) && decide ((c.toNat : Int) ≠ 58)) :=
  by_bytes (p := fun i c => okName c = (decide (i ≥ 33) && decide (i ≤ 126) && decide (i ≠ 58))) (by decide +kernel) c
theorem nameL_of (s : ByteArray) (n : Nat) (h : n ≤ s.size) (ha : ∀ i (hi : i < s.size), i < n → okName s[i] = true) (hs : ∀ hn : n < s.size, okName s[n] = false) : nameL s.data.toList = if s.data.toList[n]? = some 58 then n else 0 := by
  have e : (s.data.toList.takeWhile okName).length = n := takeWhile_at _ n (by simpa using h) (fun i hi hin => ha i (by simpa using hi) hin) (fun hn => hs (by simpa using hn))
  unfold nameL; rw [e]
theorem winkleref12_name.l0_ev (s : ByteArray) (hs : s.size ≤ 9223372036854775807) (d : Nat) : ∀ i : Nat, i ≤ s.size → s.size - i = d → (∀ j (hj : j < s.size), j < i → okName s[j] = true) →
    Ev (fun k => winkleref12_name.l0 k s (i : Int)) (nameL s.data.toList : Int) := by
  induction d with
  | zero =>
    intro i hi hd ha
    have e : nameL s.data.toList = 0 := by
      rw [nameL_of s i hi ha (fun hn => by omega), List.getElem?_eq_none (by simp; omega)]; simp
    rw [e]
    refine Ev.step (f := fun _ => some 0) (fun k => ?_) (Ev.now _)
    simp only [winkleref12_name.l0]; rw [if_neg (by omega), if_pos (by omega)]
  | succ d ih =>
    intro i hi hd ha
    have hlt : i < s.size := by omega
    have hok := okName_int s[i]
    have hat : s.data.toList[i]? = some s[i] := by rw [List.getElem?_eq_getElem (by simpa using hlt)]; rfl
    have h58 : ((s[i].toNat : Int) = 58) ↔ s[i] = 58 := u8_ofInt s[i] 58
    have hne : ¬ (i : Int) = (s.size : Int) := by omega
    by_cases h : okName s[i] = true
    · refine Ev.step (f := fun k => winkleref12_name.l0 k s ((i + 1 : Nat) : Int)) (fun k => ?_) (ih (i + 1) (by omega) (by omega) (fun j hj hji => ?_))
      · rw [h] at hok
        simp only [Bool.true_eq, Bool.and_eq_true, decide_eq_true_eq] at hok
        simp only [winkleref12_name.l0]
        rw [if_pos (by omega), if_pos (by omega), bt_nat s i hlt, if_pos hok.1.1, if_pos hok.1.2, if_neg hok.2, wrap_succ i s.size hlt (by omega)]
      · rcases Nat.lt_or_ge j i with h2 | h2
        · exact ha j hj h2
        · obtain rfl : j = i := by omega
          exact h
    · have hf : okName s[i] = false := by simpa using h
      rw [nameL_of s i hi ha (fun _ => hf), hat]
      rw [hf] at hok
      have h2 := hok.symm
      simp only [Bool.and_eq_false_iff, decide_eq_false_iff_not] at h2
      refine Ev.step (f := fun _ => some ((if some s[i] = some 58 then i else 0 : Nat) : Int)) (fun k => ?_) (Ev.now _)
      simp only [winkleref12_name.l0]
      rw [if_pos (by omega), if_pos (by omega), bt_nat s i hlt]
      simp only [Option.some.injEq, ← h58]
      by_cases c58 : (s[i].toNat : Int) = 58
      · rw [if_pos (by omega), if_pos (by omega), if_pos c58, if_neg hne, if_pos c58]
      · rw [if_neg c58]
        by_cases c33 : (s[i].toNat : Int) ≥ 33
        · rw [if_pos c33]
          have : ¬ (s[i].toNat : Int) ≤ 126 := by omega
          rw [if_neg this, if_neg hne]; simp [c58]
        · rw [if_neg c33, if_neg hne]; simp [c58]
theorem name_calls (s : ByteArray) (w : World) (hs : s.size ≤ 9223372036854775807) : Calls Try.prog 88 #[.string s] w fun e w' => e = .returned (.int .i64 (nameL s.data.toList : Int)) ∧ Drawn0 w w' := by
  obtain ⟨k, hk⟩ := (winkleref12_name.l0_ev s hs s.size 0 (by omega) (by omega) (fun j hj h => by omega)).rounds
  exact winkleref12_name.calls k s _ w hk
/-- The run at block b holds these fields, and why it is stopped, and its place. -/
def RunAt (w : World) (base b : Nat) (v : Value) (fs : List S42) (why at_ : Int) : Prop :=
  base ≤ b ∧ w.heap[b]? = some (.cells #[v, .int .i64 why, .int .i64 at_] 30 (0, 0)) ∧ OwnF w base v fs
/-- What line turns: the run's block, and rows of fields of the call's own. -/
def LineKept (base b : Nat) (w w' : World) : Prop := Below base w w' ∧ Lib.OthersKept 42 (some b) w w'
theorem lineKept_why {w : World} {base b : Nat} (hb : base ≤ b) (u : Value) (j : Nat) : LineKept base b w (w.setCell ⟨b, j, none⟩ u) :=
  ⟨(Below.refl _ _).setCell (p := ⟨b, j, none⟩) hb u, (Lib.OthersKept.refl _ _ w).setCell ⟨b, j, none⟩ rfl u⟩
theorem OwnF.setOther {w : World} {base b : Nat} {v : Value} {fs : List S42} (h : OwnF w base v fs) (hne : v.ownBlock ≠ some b) (j : Nat) (u : Value) : OwnF (w.setCell ⟨b, j, none⟩ u) base v fs :=
  h.kept (row := some b) ⟨rfl, rfl, rfl, by simp [World.setCell], fun k hk hkb => Below.heap_setCell _ _ _ _ (fun e => hkb (by rw [e]))⟩ (.inr hne)
theorem RunAt.ne {w : World} {base b : Nat} {v : Value} {fs : List S42} {why at_ : Int} (h : RunAt w base b v fs why at_) : v.ownBlock ≠ some b :=
  h.2.2.ne h.2.1 (fun cs fr e => by injection e with _ e2; exact absurd e2 (by decide))
theorem RunAt.setWhy {w : World} {base b : Nat} {v : Value} {fs : List S42} {why at_ : Int} (h : RunAt w base b v fs why at_) (x : Int) : RunAt (w.setCell ⟨b, 1, none⟩ (.int .i64 x)) base b v fs x at_ := by
  refine ⟨h.1, ?_, h.2.2.setOther h.ne 1 _⟩
  simp [World.setCell, Array.getElem?_modify, h.2.1]
theorem RunAt.cell0 {w : World} {base b : Nat} {v : Value} {fs : List S42} {why at_ : Int} (h : RunAt w base b v fs why at_) : w.cell? ⟨b, 0, none⟩ = some v := by simp [World.cell?, h.2.1]
theorem RunAt.cell1 {w : World} {base b : Nat} {v : Value} {fs : List S42} {why at_ : Int} (h : RunAt w base b v fs why at_) : w.cell? ⟨b, 1, none⟩ = some (.int .i64 why) := by simp [World.cell?, h.2.1]
theorem RunAt.cell2 {w : World} {base b : Nat} {v : Value} {fs : List S42} {why at_ : Int} (h : RunAt w base b v fs why at_) : w.cell? ⟨b, 2, none⟩ = some (.int .i64 at_) := by simp [World.cell?, h.2.1]
theorem RunAt.frozen {w : World} {base b : Nat} {v : Value} {fs : List S42} {why at_ : Int} (h : RunAt w base b v fs why at_) (j : Nat) : w.frozen? ⟨b, j, none⟩ = false := by simp [World.frozen?, h.2.1]
theorem firstBl_at (s : ByteArray) (h : 0 < s.size) : firstBl s = isBl s[0] := by
  unfold firstBl
  have e := drop_cons_at s 0 h
  rw [List.drop_zero] at e
  rw [e]
theorem isBl_int (c : UInt8) : isBl c = (decide ((c.toNat : Int) = 9) || decide ((c.toNat : Int) = 32)) :=
  by_bytes (p := fun i c => isBl c = (decide (i = 9) || decide (i = 32))) (by decide +kernel) c
set_option maxHeartbeats 1000000 in
set_option maxRecDepth 100000 in
/-- A line that goes on, where there is no field. -/
theorem line_first (s : ByteArray) (base b : Nat) (v : Value) (at_ : Int) (w : World) (h0 : 0 < s.size) (hR : RunAt w base b v [] 0 at_) (hb : firstBl s = true) :
    Calls Try.prog 59 #[.pointer (some ⟨b, 0, none⟩), .string s] w fun e w' => e = .returned (.tuple #[]) ∧ RunAt w' base b v [] 30 at_ ∧ LineKept base b w w' := by
  rw [firstBl_at s h0, isBl_int] at hb
  have c0 := hR.cell0
  have c1 := hR.cell1
  have f1 := hR.frozen 1
  obtain ⟨A, c, hv⟩ := hR.2.2.form
  subst hv
  have HR := Lib.hid hR
  have HK := Lib.hid (lineKept_why (w := w) hR.1 (.int .i64 30) 1)
  have hi0 : (0 : Int) < (s.size : Int) := by omega
  clear hR
  by_cases h9 : (s[0].toNat : Int) = 9
  · have t9 : ((s[0].toNat : Int) == 9) = true := beq_iff_eq.2 h9
    clear h9 hb
    go_enter Try.func59, Try.ntmps59
    go_wp2
    first | go_end0 | refine bodyPost_ret (results_none rfl _ _ _) rfl ?_
    exact ⟨rfl, HR.out.setWhy 30, HK.out⟩
  · have t9 : ((s[0].toNat : Int) == 9) = false := beq_eq_false_iff_ne.2 h9
    have t32 : ((s[0].toNat : Int) == 32) = true := by simpa [h9] using hb
    clear h9 hb
    go_enter Try.func59, Try.ntmps59
    go_wp2
    first | go_end0 | refine bodyPost_ret (results_none rfl _ _ _) rfl ?_
    exact ⟨rfl, HR.out.setWhy 30, HK.out⟩
/-- What stands at the last field, for the walk. -/
theorem last_cells {w : World} {base : Nat} {A : Option Addr} {c m : Nat} {fs : List S42} (hm : fs.length = m + 1) (h : OwnF w base (.slice A fs.length c) fs) : ∃ g, A = some ⟨g, 0, none⟩ ∧ w.cell? ⟨g, m * 2 + 1, none⟩ = some (.string (fs.getD (fs.length - 1) zS).f1) ∧ w.frozen? ⟨g, m * 2 + 1, none⟩ = false ∧ m + 1 ≤ c ∧
    ∀ x, OwnF (w.setCell ⟨g, m * 2 + 1, none⟩ (.string x)) base (.slice A fs.length c) (fs.set (fs.length - 1) ⟨(fs.getD (fs.length - 1) zS).f0, x⟩) := by
  obtain ⟨g, hA, h0, h1, hf⟩ := h.cells m (by omega)
  have e : fs.length - 1 = m := by omega
  have e2 : fs.getD m zS = fs[m] := by simp [List.getD_eq_getElem?_getD, show m < fs.length by omega]
  subst hA
  rw [e, e2, show m * 2 + 1 = 2 * m + 1 from by omega]
  refine ⟨g, rfl, h1, hf, ?_, fun x => h.setLast m (by omega) x⟩
  rcases h.2 with ⟨hv, h0⟩ | ⟨g', cap, cur, hv, hb, hg, hn, hm, hc, ht⟩
  · omega
  · injection hv with _ _ h3; omega
set_option maxHeartbeats 2000000 in
set_option maxRecDepth 100000 in
/-- A line that goes on with a field. -/
theorem line_more (s : ByteArray) (base b : Nat) (v : Value) (fs : List S42) (at_ : Int) (w : World) (h0 : 0 < s.size) (hR : RunAt w base b v fs 0 at_) (hb : firstBl s = true) (hfs : fs ≠ []) (hsz : (fs.getD (fs.length - 1) zS).f1.size + s.size ≤ 9223372036854775807) :
    Calls Try.prog 59 #[.pointer (some ⟨b, 0, none⟩), .string s] w fun e w' => e = .returned (.tuple #[]) ∧ RunAt w' base b v (addLast fs s) 0 at_ ∧ LineKept base b w w' := by
  rw [firstBl_at s h0, isBl_int] at hb
  have c0 := hR.cell0
  obtain ⟨A, c, hv⟩ := hR.2.2.form
  subst hv
  obtain ⟨m, hm⟩ : ∃ m, fs.length = m + 1 := ⟨fs.length - 1, by have : fs.length ≠ 0 := fun e => hfs (List.eq_nil_of_length_eq_zero e); omega⟩
  have hmx : m + 1 ≤ maxLen := by
    rcases hR.2.2.2 with ⟨_, h⟩ | ⟨g', cap, cur, hv, _, _, hn, hmx, _⟩
    · omega
    · omega
  unfold maxLen at hmx
  obtain ⟨g, rfl, c1, f1, hmc, hset⟩ := last_cells hm hR.2.2
  have hgb : g ≠ b := by
    intro e; subst e; exact hR.ne (by simp [Value.ownBlock])
  have hbg : base ≤ g := (hR.2.2.lt g (by simp [Value.ownBlock])).1
  have HR := Lib.hid hR
  have HS := Lib.hid (hset ((fs.getD (fs.length - 1) zS).f1 ++ s))
  rw [hm] at c0
  clear hR hset hfs
  have hi0 : (0 : Int) < (s.size : Int) := by omega
  have hp1 : (0 : Int) ≤ (m : Int) := by omega
  have hw1 : IntKind.i64.wrap (m : Int) = (m : Int) := IntWalk.i64_in _ (by omega)
  have hw2 : IntKind.i64.wrap ((m : Int) + 1 - 1) = (m : Int) := by rw [show (m : Int) + 1 - 1 = (m : Int) from by omega]; exact hw1
  have hp2 : (m : Int) < (m : Int) + 1 := by omega
  have hgen : ∀ x : ByteArray, x = (fs.getD (fs.length - 1) zS).f1 ++ s → RunAt ((w.drew).setCell ⟨g, m * 2 + 1, none⟩ (.string x)) base b (.slice (some ⟨g, 0, none⟩) fs.length c) (addLast fs s) 0 at_ ∧ LineKept base b w ((w.drew).setCell ⟨g, m * 2 + 1, none⟩ (.string x)) := by
    rintro x rfl
    refine ⟨⟨HR.out.1, ?_, ?_⟩, ?_, ?_⟩
    · rw [Below.heap_setCell _ _ _ _ (Ne.symm hgb)]; exact HR.out.2.1
    · have := HS.out
      simp only [OwnF, addLast, List.length_set] at this ⊢
      exact this
    · exact (Below.refl _ _).drew.setCell (p := ⟨g, m * 2 + 1, none⟩) hbg _
    · intro k o hk hkb ho
      have hkg : k ≠ g := by
        rintro rfl
        obtain ⟨cells, hc⟩ := own_typed HR.out.2.2 k (by simp [Value.ownBlock])
        rw [hk] at hc
        injection hc with hc
        exact ho _ _ hc
      rw [Below.heap_setCell _ _ _ _ hkg]; exact hk
  have HG := Lib.hid hgen
  clear hgen
  generalize (fs.getD (fs.length - 1) zS).f1 = val at *
  have hsz2 : ¬ 9223372036854775807 < val.size + s.size := by omega
  by_cases h9 : (s[0].toNat : Int) = 9
  · have t9 : ((s[0].toNat : Int) == 9) = true := beq_iff_eq.2 h9
    clear h9 hb
    go_enter Try.func59, Try.ntmps59
    go_wp2
    go_still_tail 17, (by kernel_rfl)
    change wpList _ _ _ _ _ w.drew
    go_wp2
    first | go_end0 | refine bodyPost_ret (results_none rfl _ _ _) rfl ?_
    exact ⟨rfl, HG.out _ rfl⟩
  · have t9 : ((s[0].toNat : Int) == 9) = false := beq_eq_false_iff_ne.2 h9
    have t32 : ((s[0].toNat : Int) == 32) = true := by simpa [h9] using hb
    clear h9 hb
    go_enter Try.func59, Try.ntmps59
    go_wp2
    go_still_tail 17, (by kernel_rfl)
    change wpList _ _ _ _ _ w.drew
    go_wp2
    first | go_end0 | refine bodyPost_ret (results_none rfl _ _ _) rfl ?_
    exact ⟨rfl, HG.out _ rfl⟩
theorem runAt_drewN {w : World} {base b : Nat} {v : Value} {fs : List S42} {why at_ : Int} (h : RunAt w base b v fs why at_) (n : Nat) : RunAt (w.drewN n) base b v fs why at_ :=
  ⟨h.1, h.2.1, h.2.2⟩
theorem lineKept_drewN {w w1 : World} {base b : Nat} (h : LineKept base b w w1) (n : Nat) : LineKept base b w (w1.drewN n) := ⟨pw_below_drewN h.1 n, h.2⟩
set_option maxHeartbeats 1000000 in
set_option maxRecDepth 100000 in
/-- A line that begins no field. -/
theorem line_bad (s : ByteArray) (base b : Nat) (v : Value) (fs : List S42) (at_ : Int) (w : World) (h0 : 0 < s.size) (hs : s.size ≤ 9223372036854775807) (hR : RunAt w base b v fs 0 at_) (hb : firstBl s = false) (hn : nameL s.data.toList = 0) :
    Calls Try.prog 59 #[.pointer (some ⟨b, 0, none⟩), .string s] w fun e w' => e = .returned (.tuple #[]) ∧ RunAt w' base b v fs 30 at_ ∧ LineKept base b w w' := by
  rw [firstBl_at s h0, isBl_int] at hb
  have HN := Lib.hid (name_calls s)
  rw [hn] at HN
  have c1 : w.cell? ⟨b, 1, none⟩ = _ := hR.cell1
  have f1 := hR.frozen 1
  have HR := Lib.hid hR
  have hi0 : (0 : Int) < (s.size : Int) := by omega
  have t9 : ((s[0].toNat : Int) == 9) = false := beq_eq_false_iff_ne.2 (fun e => by simp [e] at hb)
  have t32 : ((s[0].toNat : Int) == 32) = false := beq_eq_false_iff_ne.2 (fun e => by simp [e] at hb)
  clear hR hb hn
  go_enter Try.func59, Try.ntmps59
  go_wp2_with (go_at_call 88; refine (HN.out _ hs).mono ?_; rintro e w' ⟨rfl, ⟨nd, rfl⟩⟩)
  first | go_end0 | refine bodyPost_ret (results_none rfl _ _ _) rfl ?_
  exact ⟨rfl, runAt_drewN (HR.out.setWhy 30) nd, lineKept_drewN (lineKept_why HR.out.1 _ 1) nd⟩
set_option maxHeartbeats 1000000 in
set_option maxRecDepth 100000 in
/-- A field too many. -/
theorem line_full (s : ByteArray) (base b : Nat) (v : Value) (fs : List S42) (at_ : Int) (w : World) (h0 : 0 < s.size) (hs : s.size ≤ 9223372036854775807) (hR : RunAt w base b v fs 0 at_) (hb : firstBl s = false) (n : Nat) (hn : nameL s.data.toList = n) (hn0 : n ≠ 0) (hf : fs.length = 64) :
    Calls Try.prog 59 #[.pointer (some ⟨b, 0, none⟩), .string s] w fun e w' => e = .returned (.tuple #[]) ∧ RunAt w' base b v fs 31 at_ ∧ LineKept base b w w' := by
  rw [firstBl_at s h0, isBl_int] at hb
  have HN := Lib.hid (name_calls s)
  rw [hn] at HN
  have c0 : w.cell? ⟨b, 0, none⟩ = _ := hR.cell0
  have c1 : w.cell? ⟨b, 1, none⟩ = _ := hR.cell1
  have f1 := hR.frozen 1
  obtain ⟨A, c, hv⟩ := hR.2.2.form
  subst hv
  rw [hf] at c0
  have HR := Lib.hid hR
  have hi0 : (0 : Int) < (s.size : Int) := by omega
  have t9 : ((s[0].toNat : Int) == 9) = false := beq_eq_false_iff_ne.2 (fun e => by simp [e] at hb)
  have t32 : ((s[0].toNat : Int) == 32) = false := beq_eq_false_iff_ne.2 (fun e => by simp [e] at hb)
  have tn : ((n : Int) == 0) = false := beq_eq_false_iff_ne.2 (by omega)
  clear hR hb hn hf hn0
  go_enter Try.func59, Try.ntmps59
  go_wp2_with (go_at_call 88; refine (HN.out _ hs).mono ?_; rintro e w' ⟨rfl, ⟨nd, rfl⟩⟩)
  first | go_end0 | refine bodyPost_ret (results_none rfl _ _ _) rfl ?_
  exact ⟨rfl, runAt_drewN (HR.out.setWhy 31) nd, lineKept_drewN (lineKept_why HR.out.1 _ 1) nd⟩
theorem app_cell {w w1 : World} {b : Nat} {v : Value} {x : Value} (h : w.cell? ⟨b, 0, none⟩ = some x) (hg : w.grownBy w1 v.ownBlock) (hne : v.ownBlock ≠ some b) : w1.cell? ⟨b, 0, none⟩ = some x := by
  have hlt := World.block_lt_of_cell? w _ h
  rw [World.cell?_of_block (w := w) (hg.block b hlt (fun e => hne e.symm))]; exact h
theorem cell_alloc_drew {w : World} {p : Addr} {v : Value} {o : Obj} (h : w.drew.cell? p = some v) : ((w.alloc o).drew).cell? p = some v :=
  pw_cell_below (w := w) ((Below.refl _ w).alloc (Nat.le_refl _) o).drew h
theorem app_block {w w1 : World} {base b : Nat} {v : Value} {fs : List S42} {why at_ : Int} {o : Obj} (h : RunAt w base b v fs why at_) (hg : (w.drew.alloc o).grownBy w1 v.ownBlock) (hne : v.ownBlock ≠ some b) : w1.heap[b]? = some (.cells #[v, .int .i64 why, .int .i64 at_] 30 (0, 0)) := by
  have hlt : b < w.heap.size := (Array.getElem?_eq_some_iff.1 h.2.1).1
  have hb : Below w.heap.size w (w.drew.alloc o) := (Below.refl _ w).drew.alloc (Nat.le_refl _) o
  rw [hg.block b (Nat.lt_of_lt_of_le hlt hb.size) (fun e => hne e.symm), hb.block b hlt]; exact h.2.1
/-- What stands behind the append and the store. -/
theorem app_end {w w1 : World} {base b : Nat} {v : Value} {fs : List S42} {f : S42} {why at_ : Int} {o : Obj} {g cap : Nat} (h : RunAt w base b v fs why at_) (hbs : base ≤ w.heap.size) (hg : (w.drew.alloc o).grownBy w1 v.ownBlock) (hown : w1.ownsRow base 42 2 (.slice (some ⟨g, 0, none⟩) (fs.length + 1) cap) (fs.length + 1) (fcells fs ++ [.string f.f0, .string f.f1])) :
    RunAt (w1.setCell ⟨b, 0, none⟩ (.slice (some ⟨g, 0, none⟩) (fs.length + 1) cap)) base b (.slice (some ⟨g, 0, none⟩) (fs.length + 1) cap) (fs ++ [f]) why at_ ∧ LineKept base b w (w1.setCell ⟨b, 0, none⟩ (.slice (some ⟨g, 0, none⟩) (fs.length + 1) cap)) := by
  have hblk := app_block h hg h.ne
  have hO : OwnF w1 base (.slice (some ⟨g, 0, none⟩) (fs.length + 1) cap) (fs ++ [f]) := by
    unfold OwnF; rw [fcells_snoc, List.length_append]; exact hown
  have hne : (Value.slice (some ⟨g, 0, none⟩) (fs.length + 1) cap).ownBlock ≠ some b := hO.ne hblk (fun cs fr e => by injection e with _ e2; exact absurd e2 (by decide))
  refine ⟨⟨h.1, ?_, hO.setOther hne 0 _⟩, ?_, ?_⟩
  · simp [World.setCell, Array.getElem?_modify, hblk]
  · have hb0 : Below base w (w.drew.alloc o) := (Below.refl _ w).drew.alloc hbs o
    exact (hb0.grown hg (by simp; omega) (fun k hk => (h.2.2.lt k hk).1)).setCell (p := ⟨b, 0, none⟩) h.1 _
  · have hk : Lib.OthersKept 42 (some b) w (w.drew.alloc o) := (Lib.OthersKept.refl _ _ w).drew.alloc o
    refine (hk.grown hg (fun k hk => ?_)).setCell ⟨b, 0, none⟩ rfl _
    have hO2 : OwnF (w.drew.alloc o) base v fs := h.2.2.below ((Below.refl _ w).drew.alloc (Nat.le_refl _) o)
    obtain ⟨cells, hc⟩ := own_typed hO2 k hk
    exact ⟨cells, (0, 0), hc⟩
theorem LineKept.trans {w w1 w2 : World} {base b : Nat} (h : LineKept base b w w1) (k : LineKept base b w1 w2) : LineKept base b w w2 := ⟨h.1.trans k.1, h.2.trans k.2⟩
theorem OwnF.drew_alloc {w : World} {base : Nat} {v : Value} {fs : List S42} (h : OwnF w base v fs) (o : Obj) : (w.drew.alloc o).ownsRow base 42 2 v fs.length (fcells fs) :=
  pw_own_below h ((Below.refl _ w).drew.alloc (Nat.le_refl _) o)
set_option maxHeartbeats 4000000 in
set_option maxRecDepth 100000 in
/-- A field more. -/
theorem line_app (s : ByteArray) (base b : Nat) (v : Value) (fs : List S42) (at_ : Int) (w : World) (h0 : 0 < s.size) (hs : s.size ≤ 9223372036854775807) (hR : RunAt w base b v fs 0 at_) (hb : firstBl s = false) (n : Nat) (hn : nameL s.data.toList = n) (hn0 : n ≠ 0) (hf : fs.length < 64) :
    Calls Try.prog 59 #[.pointer (some ⟨b, 0, none⟩), .string s] w fun e w' => e = .returned (.tuple #[]) ∧ ∃ v', RunAt w' base b v' (fs ++ [⟨s.extract 0 n, s.extract (n + 1) s.size⟩]) 0 at_ ∧ LineKept base b w w' := by
  obtain ⟨i0, hi, hz0, hz1, hz2⟩ := info_parts info42
  have hnl : n < s.size := by have := nameL_lt s.data.toList (by omega); rw [toList_size] at this; omega
  rw [firstBl_at s h0, isBl_int] at hb
  have HN := Lib.hid (name_calls s)
  rw [hn] at HN
  have c0 : w.cell? ⟨b, 0, none⟩ = _ := hR.cell0
  have HNE := Lib.hid hR.ne
  have HO := Lib.hid hR.2.2
  have HR := Lib.hid hR
  obtain ⟨A, c, hv⟩ := hR.2.2.form
  have hi0 : (0 : Int) < (s.size : Int) := by omega
  have t9 : ((s[0].toNat : Int) == 9) = false := beq_eq_false_iff_ne.2 (fun e => by simp [e] at hb)
  have t32 : ((s[0].toNat : Int) == 32) = false := beq_eq_false_iff_ne.2 (fun e => by simp [e] at hb)
  have tn : ((n : Int) == 0) = false := beq_eq_false_iff_ne.2 (by omega)
  have t64 : ((fs.length : Int) == 64) = false := beq_eq_false_iff_ne.2 (by omega)
  have hw1 : IntKind.i64.wrap ((n : Int) + 1) = (n : Int) + 1 := IntWalk.i64_in _ (by omega)
  have hmx1 : fs.length + 1 ≤ maxLen := by unfold maxLen; omega
  have hmx2 : (fs.length + 1) * 32 ≤ 140737488355328 := by omega
  have hbs : base ≤ w.heap.size := by have := hR.1; have := (Array.getElem?_eq_some_iff.1 hR.2.1).1; omega
  clear hR hb hn
  subst hv
  go_enter Try.func59, Try.ntmps59
  go_wp2_with (go_at_call 88; refine (HN.out _ hs).mono ?_; rintro e w' ⟨rfl, ⟨nd, rfl⟩⟩)
  have c0' : (w.drewN nd).cell? ⟨b, 0, none⟩ = some (.slice A fs.length c) := c0
  have HO' := Lib.hid (show OwnF (w.drewN nd) base (.slice A fs.length c) fs from HO.out)
  have HR' := Lib.hid (runAt_drewN HR.out nd)
  have HL := Lib.hid (lineKept_drewN (show LineKept base b w w from ⟨Below.refl _ _, Lib.OthersKept.refl _ _ _⟩) nd)
  have hbs' : base ≤ (w.drewN nd).heap.size := hbs
  clear c0 HO HR hbs HN
  generalize w.drewN nd = wq at *
  have hq1 : n ≤ s.size := by omega
  have hq2 : 0 ≤ (n : Int) + 1 ∧ (n : Int) + 1 ≤ (s.size : Int) := by omega
  have hbw1 : base ≤ (wq.drew.alloc (.cells #[.string (s.extract 0 n), .string (s.extract (n + 1) s.size)] 42)).heap.size := by simp; omega
  refine start_ (n := 18) (S := (fun w' => w'.cell? ⟨b, 0, none⟩ = some (.slice A fs.length c))) (ds := [17]) #[false, false, false, false, false, false, false, false, false, false, false, false, false, false, false, false, false, false] (by kernel_rfl) rfl rfl ?_ (fun hHeld => ?_)
  · exact c0'
  refine pure_ (i := 0) (N := some 55) (v := ?_) (a' := ?_) #[true, false, false, false, false, false, false, false, false, false, false, false, false, false, false, false, false, false] rfl rfl (by kernel_rfl) (fun _ _ _ h => h) (Or.inl ⟨by rfl, ?_⟩) ?_ ?_
  rotate_left
  · intro w'
    go_simp
    with_reducible rfl
  rotate_left
  · simp only [Act.put, List.setIfInBounds_toArray, List.set_cons_zero, List.set_cons_succ, i64_w, i32_w]
    rfl
  refine pure_ (i := 1) (N := some 56) (v := ?_) (a' := ?_) #[true, true, false, false, false, false, false, false, false, false, false, false, false, false, false, false, false, false] rfl rfl (by kernel_rfl) (fun _ _ _ h => h) (Or.inl ⟨by rfl, ?_⟩) ?_ ?_
  rotate_left
  · intro w'
    go_simp
    with_reducible rfl
  rotate_left
  · simp only [Act.put, List.setIfInBounds_toArray, List.set_cons_zero, List.set_cons_succ, i64_w, i32_w]
    rfl
  refine pure_ (i := 2) (N := some 57) (v := ?_) (a' := ?_) #[true, true, true, false, false, false, false, false, false, false, false, false, false, false, false, false, false, false] rfl rfl (by kernel_rfl) (fun _ _ _ h => h) (Or.inl ⟨by rfl, ?_⟩) ?_ ?_
  rotate_left
  · intro w'
    go_simp
    with_reducible rfl
  rotate_left
  · simp only [Act.put, List.setIfInBounds_toArray, List.set_cons_zero, List.set_cons_succ, i64_w, i32_w]
    rfl
  refine pure_ (i := 3) (N := some 58) (v := ?_) (a' := ?_) #[true, true, true, true, false, false, false, false, false, false, false, false, false, false, false, false, false, false] rfl rfl (by kernel_rfl) (fun _ _ _ h => h) (Or.inl ⟨by rfl, ?_⟩) ?_ ?_
  rotate_left
  · intro w'
    go_simp
    with_reducible rfl
  rotate_left
  · simp only [Act.put, List.setIfInBounds_toArray, List.set_cons_zero, List.set_cons_succ, i64_w, i32_w]
    rfl
  refine take_ (i := 4) (N := some 59) (v := ?_) (a' := ?_) #[true, true, true, true, true, false, false, false, false, false, false, false, false, false, false, false, false, false] rfl rfl (by kernel_rfl) (fun _ _ _ h => h) (Or.inl ⟨by rfl, ?_⟩) hHeld ?_ ?_
  rotate_left
  · rintro w' s0
    go_simp
    with_reducible rfl
  rotate_left
  · simp only [Act.put, List.setIfInBounds_toArray, List.set_cons_zero, List.set_cons_succ, i64_w, i32_w]
    rfl
  refine pure_ (i := 5) (N := some 60) (v := ?_) (a' := ?_) #[true, true, true, true, true, true, false, false, false, false, false, false, false, false, false, false, false, false] rfl rfl (by kernel_rfl) (fun _ _ _ h => h) (Or.inl ⟨by rfl, ?_⟩) ?_ ?_
  rotate_left
  · intro w'
    go_simp
    with_reducible rfl
  rotate_left
  · simp only [Act.put, List.setIfInBounds_toArray, List.set_cons_zero, List.set_cons_succ, i64_w, i32_w]
    rfl
  refine pure_ (i := 6) (N := some 61) (v := ?_) (a' := ?_) #[true, true, true, true, true, true, true, false, false, false, false, false, false, false, false, false, false, false] rfl rfl (by kernel_rfl) (fun _ _ _ h => h) (Or.inl ⟨by rfl, ?_⟩) ?_ ?_
  rotate_left
  · intro w'
    go_simp
    with_reducible rfl
  rotate_left
  · simp only [Act.put, List.setIfInBounds_toArray, List.set_cons_zero, List.set_cons_succ, i64_w, i32_w]
    rfl
  refine pure_ (i := 7) (N := some 62) (v := ?_) (a' := ?_) #[true, true, true, true, true, true, true, true, false, false, false, false, false, false, false, false, false, false] rfl rfl (by kernel_rfl) (fun _ _ _ h => h) (Or.inl ⟨by rfl, ?_⟩) ?_ ?_
  rotate_left
  · intro w'
    go_simp
    with_reducible rfl
  rotate_left
  · simp only [Act.put, List.setIfInBounds_toArray, List.set_cons_zero, List.set_cons_succ, i64_w, i32_w]
    rfl
  refine pure_ (i := 8) (N := some 63) (v := ?_) (a' := ?_) #[true, true, true, true, true, true, true, true, true, false, false, false, false, false, false, false, false, false] rfl rfl (by kernel_rfl) (fun _ _ _ h => h) (Or.inl ⟨by rfl, ?_⟩) ?_ ?_
  rotate_left
  · intro w'
    go_simp
    with_reducible rfl
  rotate_left
  · simp only [Act.put, List.setIfInBounds_toArray, List.set_cons_zero, List.set_cons_succ, i64_w, i32_w]
    rfl
  refine pure_ (i := 9) (N := some 64) (v := ?_) (a' := ?_) #[true, true, true, true, true, true, true, true, true, true, false, false, false, false, false, false, false, false] rfl rfl (by kernel_rfl) (fun _ _ _ h => h) (Or.inl ⟨by rfl, ?_⟩) ?_ ?_
  rotate_left
  · intro w'
    go_simp
    with_reducible rfl
  rotate_left
  · simp only [Act.put, List.setIfInBounds_toArray, List.set_cons_zero, List.set_cons_succ, i64_w, i32_w]
    rfl
  refine pure_ (i := 10) (N := some 65) (v := ?_) (a' := ?_) #[true, true, true, true, true, true, true, true, true, true, true, false, false, false, false, false, false, false] rfl rfl (by kernel_rfl) (fun _ _ _ h => h) (Or.inl ⟨by rfl, ?_⟩) ?_ ?_
  rotate_left
  · intro w'
    go_simp
    with_reducible rfl
  rotate_left
  · simp only [Act.put, List.setIfInBounds_toArray, List.set_cons_zero, List.set_cons_succ, i64_w, i32_w]
    rfl
  refine pure_ (i := 11) (N := some 66) (v := ?_) (a' := ?_) #[true, true, true, true, true, true, true, true, true, true, true, true, false, false, false, false, false, false] rfl rfl (by kernel_rfl) (fun _ _ _ h => h) (Or.inl ⟨by rfl, ?_⟩) ?_ ?_
  rotate_left
  · intro w'
    go_simp
    with_reducible rfl
  rotate_left
  · simp only [Act.put, List.setIfInBounds_toArray, List.set_cons_zero, List.set_cons_succ, i64_w, i32_w]
    rfl
  refine pure_ (i := 12) (N := some 67) (v := ?_) (a' := ?_) #[true, true, true, true, true, true, true, true, true, true, true, true, true, false, false, false, false, false] rfl rfl (by kernel_rfl) (fun _ _ _ h => h) (Or.inl ⟨by rfl, ?_⟩) ?_ ?_
  rotate_left
  · intro w'
    go_simp
    with_reducible rfl
  rotate_left
  · simp only [Act.put, List.setIfInBounds_toArray, List.set_cons_zero, List.set_cons_succ, i64_w, i32_w]
    rfl
  refine one_ (i := 13) (N := some 68) #[true, true, true, true, true, true, true, true, true, true, true, true, true, true, false, false, false, false] rfl rfl (by kernel_rfl) (by decide) (fun K hK => ?_)
  refine value_ (v := ?_) (w1 := ?_) (by rfl) rfl ?_ ?_
  rotate_left 2
  · go_simp
    refine ⟨?_, ?_⟩ <;> rfl
  refine hK.out _ _ (cell_alloc_drew hHeld) (fun hHeld => ?_)
  clear hK K
  refine norm_ (a' := ?_) ?_ ?_
  rotate_left
  · show Act.put _ (some 68) _ = _
    simp only [Act.put, List.setIfInBounds_toArray, List.set_cons_zero, List.set_cons_succ, i64_w, i32_w]
    rfl
  refine one_ (i := 14) (N := some 69) #[true, true, true, true, true, true, true, true, true, true, true, true, true, true, true, false, false, false] rfl rfl (by kernel_rfl) (by decide) (fun K hK => ?_)
  refine step_append_lies _ (by rfl) _ _ _ (by rfl) base 42 i0 _ 2 32 Try.underlying23 hi hz0 hz1 hz2 rfl (by decide) _ fs.length (fcells fs) (by rfl) (HO'.out.drew_alloc _) ⟨wq.heap.size, 0, none⟩ 1 1 [.string (s.extract 0 n), .string (s.extract (n + 1) s.size)] (by rfl) (by rfl) (World.news_of_block (cs := #[.string (s.extract 0 n), .string (s.extract (n + 1) s.size)]) (t := 42) (fr := (0, 0)) (heap_alloc_new wq.drew _)) (by simp [Value.oneCell']) (by decide) hmx1 hmx2 hbw1 (wq.heap.size + 1) (by simp) ?_
  intro g cap w1 hown1 hgrow hat hlt
  have hblk := app_block HR'.out hgrow HNE.out
  have hfz : w1.frozen? ⟨b, 0, none⟩ = false := by simp [World.frozen?, hblk]
  refine hK.out _ _ (app_cell hHeld hgrow HNE.out) (fun hHeld => ?_)
  clear hK K
  refine norm_ (a' := ?_) ?_ ?_
  rotate_left
  · show Act.put _ (some 69) _ = _
    simp only [Act.put, List.setIfInBounds_toArray, List.set_cons_zero, List.set_cons_succ, i64_w, i32_w]
    rfl
  refine pure_ (i := 15) (N := some 70) (v := ?_) (a' := ?_) #[true, true, true, true, true, true, true, true, true, true, true, true, true, true, true, true, false, false] rfl rfl (by kernel_rfl) (fun _ _ _ h => h) (Or.inl ⟨by rfl, ?_⟩) ?_ ?_
  rotate_left
  · intro w'
    go_simp
    with_reducible rfl
  rotate_left
  · simp only [Act.put, List.setIfInBounds_toArray, List.set_cons_zero, List.set_cons_succ, i64_w, i32_w]
    rfl
  refine pure_ (i := 16) (N := some 71) (v := ?_) (a' := ?_) #[true, true, true, true, true, true, true, true, true, true, true, true, true, true, true, true, true, false] rfl rfl (by kernel_rfl) (fun _ _ _ h => h) (Or.inl ⟨by rfl, ?_⟩) ?_ ?_
  rotate_left
  · intro w'
    go_simp
    with_reducible rfl
  rotate_left
  · simp only [Act.put, List.setIfInBounds_toArray, List.set_cons_zero, List.set_cons_succ, i64_w, i32_w]
    rfl
  refine last_ (i := 17) (N := none) #[true, true, true, true, true, true, true, true, true, true, true, true, true, true, true, true, true, true] rfl rfl (by kernel_rfl) (by decide) (fun K hK => ?_)
  refine skip_ (w1 := ?_) (by rfl) rfl ?_ ?_
  rotate_left
  · go_simp
    rfl
  refine hK.out _ _ ?_
  clear hK K
  refine done_ (by kernel_rfl) ?_
  have HE := app_end (f := ⟨s.extract 0 n, s.extract (n + 1) s.size⟩) HR'.out hbs' hgrow hown1
  go_wp2
  first | go_end0 | refine bodyPost_ret (results_none rfl _ _ _) rfl ?_
  exact ⟨rfl, _, HE.1, HL.out.trans HE.2⟩
theorem line_calls (s : ByteArray) (base b : Nat) (v : Value) (fs : List S42) (at_ : Int) (w : World) (h0 : 0 < s.size) (hs : s.size ≤ 9223372036854775807) (hR : RunAt w base b v fs 0 at_) (hf : fs.length ≤ 64) (hsz : fs ≠ [] → (fs.getD (fs.length - 1) zS).f1.size + s.size ≤ 9223372036854775807) :
    Calls Try.prog 59 #[.pointer (some ⟨b, 0, none⟩), .string s] w fun e w' => e = .returned (.tuple #[]) ∧ ∃ v', RunAt w' base b v' (lineR fs s).1 (lineR fs s).2 at_ ∧ LineKept base b w w' := by
  unfold lineR
  cases hb : firstBl s with
  | true =>
    simp only [if_true]
    by_cases hfs : fs = []
    · subst hfs
      simp only [if_true]
      exact (line_first s base b v at_ w h0 hR hb).mono fun e w' ⟨h1, h2, h3⟩ => ⟨h1, v, h2, h3⟩
    · simp only [hfs, if_false]
      exact (line_more s base b v fs at_ w h0 hR hb hfs (hsz hfs)).mono fun e w' ⟨h1, h2, h3⟩ => ⟨h1, v, h2, h3⟩
  | false =>
    simp only [Bool.false_eq_true, if_false]
    by_cases hn : nameL s.data.toList = 0
    · simp only [hn, if_true]
      exact (line_bad s base b v fs at_ w h0 hs hR hb hn).mono fun e w' ⟨h1, h2, h3⟩ => ⟨h1, v, h2, h3⟩
    · simp only [hn, if_false]
      by_cases h64 : fs.length = 64
      · simp only [h64, if_true]
        exact (line_full s base b v fs at_ w h0 hs hR hb _ rfl hn h64).mono fun e w' ⟨h1, h2, h3⟩ => ⟨h1, v, h2, h3⟩
      · simp only [h64, if_false]
        exact line_app s base b v fs at_ w h0 hs hR hb _ rfl hn (by omega)
end Go.Proofs.Ytodidfdfbanliaa.PAll
