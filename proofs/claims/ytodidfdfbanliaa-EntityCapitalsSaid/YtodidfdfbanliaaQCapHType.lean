/- mimetype.tried's deferred closure: of a frame that panics with wrong it marks the panic and lays false; of one that returns it turns nothing that was there. -/
import Derived.Tactics2
import Derived.Defers
import Derived.Recover
import Derived.Laws.Pointers
import Derived.Lib.Hide
import Derived.BigRegion
import Derived.WalkSmall
import Derived.Deep.QuietTactic
import Derived.BigQuiet
import Derived.Lib.SliceRun
import Derived.Deep.RegionHeld3
import Derived.Deep.AppendLies
import Derived.Deep.DrawnRows
import Derived.StillTailTactics
import Derived.Test.YtodidfdfbanliaaQCapPAllx0
import Derived.Test.YtodidfdfbanliaaQCapHSem1
import Derived.Test.YtodidfdfbanliaaQCapHLine
import Derived.Test.YtodidfdfbanliaaQCapHLower
import Derived.Test.YtodidfdfbanliaaQCapHGet
set_option linter.unusedVariables false
set_option linter.unusedSimpArgs false
namespace Go.Proofs.Ytodidfdfbanliaa.PAll
open Go.RowKit Go.Proofs.YtodidfdfbanliaaW.PrintWords
theorem ta_wrong (w : World) : (Instr.typeAssert (.iface 108 (.agg #[])) 20 108 true).run Try.prog w = .ok (.tuple #[.agg #[], .bool true]) w := by kernel_rfl
theorem ta_nil (w : World) : (Instr.typeAssert .nilIface 20 108 true).run Try.prog w = .ok (.tuple #[.agg #[], .bool false]) w := by kernel_rfl
set_option maxHeartbeats 1000000 in
set_option maxRecDepth 100000 in
theorem catch_wrong (p : Addr) (x : Bool) (older : List PanicEntry) (w : World) (hc : w.cell? p = some (.bool x)) (hz : w.frozen? p = false) :
    CallsD Try.prog 90 #[.pointer (some p)] (.panicking ({ v := .iface 108 (.agg #[]), recovered := false } :: older)) w fun e u' w' =>
      e = .returned (.tuple #[]) ∧ u' = .panicking ({ v := .iface 108 (.agg #[]), recovered := true } :: older) ∧ ∃ w1, Below w.heap.size w w1 ∧ w' = w1.setCell p (.bool false) := by
  refine callsD_of_wpS Try.func90 rfl fun c₀ cs hu => ?_
  apply wpS_seq
  apply wpS_region
  have hrep : Array.replicate 8 undef = #[undef, undef, undef, undef, undef, undef, undef, undef] := rfl
  simp [wpOpsS, go_sem, recoverD, hu, Try.ntmps90, Exit.thenS, ta_wrong, hrep, storeCells]
  have ha : Below w.heap.size w (w.alloc (.cells #[] 108)) := (Below.refl _ w).alloc (Nat.le_refl _) _
  have hlt := World.block_lt_of_cell? w _ hc
  have hc' : (w.alloc (.cells #[] 108)).cell? p = some (.bool x) := (ha.cell hlt).trans hc
  have hz' : (w.alloc (.cells #[] 108)).frozen? p = false := (ha.frozen hlt).trans hz
  apply wpS_seq
  apply wpS_region
  simp [wpOpsS, go_sem, Exit.thenS]
  refine wpS_cond (t := true) (by simp [Act.eval]) ?_
  simp only [if_true]
  apply wpS_region
  simp [wpOpsS, go_sem, hc', hz', bodyPostS, results, Try.results90]
  exact ⟨_, ha, rfl⟩
set_option maxHeartbeats 1000000 in
set_option maxRecDepth 100000 in
theorem catch_idle (p : Addr) (w : World) :
    CallsD Try.prog 90 #[.pointer (some p)] .returning w fun e u' w' => e = .returned (.tuple #[]) ∧ u' = .returning ∧ Below w.heap.size w w' := by
  refine callsD_of_wpS Try.func90 rfl fun c₀ cs hu => ?_
  apply wpS_seq
  apply wpS_region
  have hrep : Array.replicate 8 undef = #[undef, undef, undef, undef, undef, undef, undef, undef] := rfl
  simp [wpOpsS, go_sem, recoverD, hu, Try.ntmps90, Exit.thenS, ta_nil, hrep, storeCells]
  have ha : Below w.heap.size w (w.alloc (.cells #[] 108)) := (Below.refl _ w).alloc (Nat.le_refl _) _
  apply wpS_seq
  apply wpS_region
  simp [wpOpsS, go_sem, Exit.thenS]
  refine wpS_cond (t := false) (by simp [Act.eval]) ?_
  simp only [Bool.false_eq_true, if_false]
  refine wpS_of_wp (wp_skip ?_)
  cases c₀
  simp_all [bodyPostS, results, Try.results90]
end Go.Proofs.Ytodidfdfbanliaa.PAll
set_option linter.unusedVariables false
set_option linter.unusedSimpArgs false
namespace Go.Proofs.Ytodidfdfbanliaa.PAll
open Go.RowKit Go.Proofs.YtodidfdfbanliaaW.PrintWords
/-- What a reader gives up with. -/
def wrongs : List PanicEntry := [{ v := .iface 108 (.agg #[]), recovered := false }]
set_option maxHeartbeats 1000000 in
set_option maxRecDepth 100000 in
theorem tried69 (a b : Value) (w : World) (Ok Bad : World → Prop) (h : Calls Try.prog 69 #[a, b] (w.alloc (.cells #[.bool false] 4)) fun e w' => (e = .returned (.tuple #[]) ∧ Ok w') ∨ (e = .panicked wrongs ∧ Bad w'))
    (hk : ∀ w', Ok w' ∨ Bad w' → w'.cell? ⟨w.heap.size, 0, none⟩ = some (.bool false) ∧ w'.frozen? ⟨w.heap.size, 0, none⟩ = false) :
    Calls Try.prog 68 #[.func (.func 69) #[] #[a, b]] w fun e w' => (e = .returned (.bool true) ∧ ∃ w1, Ok w1 ∧ Below w1.heap.size (w1.setCell ⟨w.heap.size, 0, none⟩ (.bool true)) w') ∨
      (e = .returned (.bool false) ∧ ∃ w1 w2, Bad w1 ∧ Below w1.heap.size w1 w2 ∧ w' = w2.setCell ⟨w.heap.size, 0, none⟩ (.bool false)) := by
  have hmf : ∀ (fn : Fn) (first cap : Array Value) (w : World), (Instr.makeFunc fn first cap).run Try.prog w = .ok (.func fn first cap) w := fun _ _ _ _ => rfl
  have HH := Lib.hid h
  have HK := Lib.hid hk
  clear h hk
  go_enter_defers Try.func68, Try.ntmps68
  go_wp2_with (fail)
  refine HH.out.mono ?_
  rintro e w1 (⟨rfl, hok⟩ | ⟨rfl, hbad⟩)
  · obtain ⟨k1, g1⟩ := HK.out w1 (.inl hok)
    have HO := Lib.hid hok
    clear hok
    go_wp2
    refine leaves_cons (f := 90) (args := #[.pointer (some ⟨w.heap.size, 0, none⟩)]) (by simp) (by simp [go_sem]) ?_
    refine (catch_idle ⟨w.heap.size, 0, none⟩ _).mono ?_
    rintro e u' w'' ⟨rfl, rfl, hb⟩
    have hc : w''.cell? ⟨w.heap.size, 0, none⟩ = some (.bool true) := by
      have hlt := World.block_lt_of_cell? w1 _ k1
      refine (hb.cell (p := ⟨w.heap.size, 0, none⟩) (by simpa [World.setCell] using hlt)).trans ?_
      show (w1.setCell ⟨w.heap.size, 0, none⟩ (.bool true)).cell? ⟨w.heap.size, 0, none⟩ = some (.bool true)
      have e : w1.cell? ⟨w.heap.size, 0, none⟩ = some (.bool false) := k1
      simp [e, go_sem]
    have hs : (w1.setCell ⟨w.heap.size, 0, none⟩ (.bool true)).heap.size = w1.heap.size := by simp [World.setCell]
    rw [hs] at hb
    have HB := Lib.hid hb
    clear hb
    simp [Leaves, settle, results, Try.results68, go_sem, hc]
    exact ⟨w1, HO.out, HB.out⟩
  · obtain ⟨k1, g1⟩ := HK.out w1 (.inr hbad)
    have HO := Lib.hid hbad
    clear hbad
    go_wp2
    refine leaves_cons (f := 90) (args := #[.pointer (some ⟨w.heap.size, 0, none⟩)]) (by simp) (by simp [go_sem]) ?_
    refine (catch_wrong ⟨w.heap.size, 0, none⟩ false [] _ k1 g1).mono ?_
    rintro e u' w'' ⟨rfl, rfl, w2, hb, rfl⟩
    have k2 : w2.cell? ⟨w.heap.size, 0, none⟩ = some (.bool false) := (hb.cell (World.block_lt_of_cell? w1 _ k1)).trans k1
    have HB := Lib.hid hb
    clear hb
    simp [Leaves, settle, results, Try.results68, go_sem, k2]
    exact ⟨w1, HO.out, w2, HB.out, rfl⟩
set_option maxHeartbeats 1000000 in
set_option maxRecDepth 100000 in
theorem tried85 (a b : Value) (w : World) (Ok Bad : World → Prop) (h : Calls Try.prog 85 #[a, b] (w.alloc (.cells #[.bool false] 4)) fun e w' => (e = .returned (.tuple #[]) ∧ Ok w') ∨ (e = .panicked wrongs ∧ Bad w'))
    (hk : ∀ w', Ok w' ∨ Bad w' → w'.cell? ⟨w.heap.size, 0, none⟩ = some (.bool false) ∧ w'.frozen? ⟨w.heap.size, 0, none⟩ = false) :
    Calls Try.prog 68 #[.func (.func 85) #[] #[a, b]] w fun e w' => (e = .returned (.bool true) ∧ ∃ w1, Ok w1 ∧ Below w1.heap.size (w1.setCell ⟨w.heap.size, 0, none⟩ (.bool true)) w') ∨
      (e = .returned (.bool false) ∧ ∃ w1 w2, Bad w1 ∧ Below w1.heap.size w1 w2 ∧ w' = w2.setCell ⟨w.heap.size, 0, none⟩ (.bool false)) := by
  have hmf : ∀ (fn : Fn) (first cap : Array Value) (w : World), (Instr.makeFunc fn first cap).run Try.prog w = .ok (.func fn first cap) w := fun _ _ _ _ => rfl
  have HH := Lib.hid h
  have HK := Lib.hid hk
  clear h hk
  go_enter_defers Try.func68, Try.ntmps68
  go_wp2_with (fail)
  refine HH.out.mono ?_
  rintro e w1 (⟨rfl, hok⟩ | ⟨rfl, hbad⟩)
  · obtain ⟨k1, g1⟩ := HK.out w1 (.inl hok)
    have HO := Lib.hid hok
    clear hok
    go_wp2
    refine leaves_cons (f := 90) (args := #[.pointer (some ⟨w.heap.size, 0, none⟩)]) (by simp) (by simp [go_sem]) ?_
    refine (catch_idle ⟨w.heap.size, 0, none⟩ _).mono ?_
    rintro e u' w'' ⟨rfl, rfl, hb⟩
    have hc : w''.cell? ⟨w.heap.size, 0, none⟩ = some (.bool true) := by
      have hlt := World.block_lt_of_cell? w1 _ k1
      refine (hb.cell (p := ⟨w.heap.size, 0, none⟩) (by simpa [World.setCell] using hlt)).trans ?_
      show (w1.setCell ⟨w.heap.size, 0, none⟩ (.bool true)).cell? ⟨w.heap.size, 0, none⟩ = some (.bool true)
      have e : w1.cell? ⟨w.heap.size, 0, none⟩ = some (.bool false) := k1
      simp [e, go_sem]
    have hs : (w1.setCell ⟨w.heap.size, 0, none⟩ (.bool true)).heap.size = w1.heap.size := by simp [World.setCell]
    rw [hs] at hb
    have HB := Lib.hid hb
    clear hb
    simp [Leaves, settle, results, Try.results68, go_sem, hc]
    exact ⟨w1, HO.out, HB.out⟩
  · obtain ⟨k1, g1⟩ := HK.out w1 (.inr hbad)
    have HO := Lib.hid hbad
    clear hbad
    go_wp2
    refine leaves_cons (f := 90) (args := #[.pointer (some ⟨w.heap.size, 0, none⟩)]) (by simp) (by simp [go_sem]) ?_
    refine (catch_wrong ⟨w.heap.size, 0, none⟩ false [] _ k1 g1).mono ?_
    rintro e u' w'' ⟨rfl, rfl, w2, hb, rfl⟩
    have k2 : w2.cell? ⟨w.heap.size, 0, none⟩ = some (.bool false) := (hb.cell (World.block_lt_of_cell? w1 _ k1)).trans k1
    have HB := Lib.hid hb
    clear hb
    simp [Leaves, settle, results, Try.results68, go_sem, k2]
    exact ⟨w1, HO.out, w2, HB.out, rfl⟩
end Go.Proofs.Ytodidfdfbanliaa.PAll
set_option linter.unusedVariables false
set_option linter.unusedSimpArgs false
namespace Go.Proofs.Ytodidfdfbanliaa.PAll
open Go.RowKit Go.Proofs.YtodidfdfbanliaaW.PrintWords
/-- The reader at block b goes through s and stands at place i. -/
def MAt (w : World) (b : Nat) (s : ByteArray) (i : Int) : Prop := w.heap[b]? = some (.cells #[.string s, .int .i64 i] 86 (0, 0))
section
variable {w : World} {b : Nat} {s : ByteArray} {i : Int}
theorem MAt.cell0 (h : MAt w b s i) : w.cell? ⟨b, 0, none⟩ = some (.string s) := by simp [World.cell?, show w.heap[b]? = _ from h]
theorem MAt.cell1 (h : MAt w b s i) : w.cell? ⟨b, 1, none⟩ = some (.int .i64 i) := by simp [World.cell?, show w.heap[b]? = _ from h]
theorem MAt.frozen (h : MAt w b s i) (j : Nat) : w.frozen? ⟨b, j, none⟩ = false := by simp [World.frozen?, show w.heap[b]? = _ from h]
theorem MAt.set (h : MAt w b s i) (x : Int) : MAt (w.setCell ⟨b, 1, none⟩ (.int .i64 x)) b s x := by
  have h2 : w.heap[b]? = _ := h
  simp [MAt, World.setCell, Array.getElem?_modify, h2]
theorem MAt.drew (h : MAt w b s i) : MAt w.drew b s i := h
end
/-- Nothing but memory is turned. -/
def SameO (w w' : World) : Prop := w'.os = w.os ∧ w'.tape = w.tape ∧ w'.output = w.output
/-- All that was there but block b is as it was. -/
def KB (w w' : World) (b : Nat) : Prop := KeepBut w w' b none ∧ SameO w w'
theorem KB.refl (w : World) (b : Nat) : KB w w b := ⟨KeepBut.refl _ _ _, rfl, rfl, rfl⟩
theorem KB.set_ {w w1 : World} {b : Nat} (h : KB w w1 b) (j : Nat) (u : Value) : KB w (w1.setCell ⟨b, j, none⟩ u) b := ⟨h.1.set_ j u, h.2⟩
theorem KB.trans {w w1 w2 : World} {b : Nat} (h : KB w w1 b) (k : KB w1 w2 b) : KB w w2 b := ⟨h.1.trans k.1 (.inl rfl), k.2.1.trans h.2.1, k.2.2.1.trans h.2.2.1, k.2.2.2.trans h.2.2.2⟩
theorem KB.of_below {w w1 : World} (h : Below w.heap.size w w1) (b : Nat) : KB w w1 b := ⟨KeepBut.of_below h b none, h.os, h.tape, h.output⟩
theorem KB.alloc {w w1 : World} {b : Nat} (h : KB w w1 b) (o : Obj) : KB w (w1.alloc o) b := ⟨keep_alloc h.1 o, h.2⟩
set_option maxHeartbeats 1000000 in
set_option maxRecDepth 100000 in
theorem more_calls (b : Nat) (s : ByteArray) (i : Int) (w : World) (hM : MAt w b s i) :
    Calls Try.prog 73 #[.pointer (some ⟨b, 0, none⟩)] w fun e w' => e = .returned (.bool (decide (i < (s.size : Int)))) ∧ Drawn0 w w' := by
  have c0 := hM.cell0
  have c1 := hM.cell1
  clear hM
  go_enter Try.func73, Try.ntmps73
  go_wp2
  go_region
  go_wp2
  go_ret
  exact ⟨rfl, ⟨1, rfl⟩⟩
end Go.Proofs.Ytodidfdfbanliaa.PAll
set_option linter.unusedVariables false
set_option linter.unusedSimpArgs false
namespace Go.Proofs.Ytodidfdfbanliaa.PAll
open Go.RowKit Go.Proofs.YtodidfdfbanliaaW.PrintWords
/-- How deep a comment goes behind one more byte. -/
def deepR (c : UInt8) (d : Int) : Int := if c = 40 then d + 1 else if c = 41 then d - 1 else d
/-- Where a comment ends that has begun: the bytes behind, how deep, the place; none: it does not. -/
def cmtGo : List UInt8 → Int → Nat → Option Nat
  | [], _, _ => none
  | [c], d, k => if deepR c d = 0 then some (if c = 92 then k + 2 else k + 1) else none
  | c :: x :: t, d, k =>
    if deepR c d = 0 then some (if c = 92 then k + 2 else k + 1)
    else if deepR c d > 32 then none
    else if c = 92 then cmtGo t (deepR c d) (k + 2) else cmtGo (x :: t) (deepR c d) (k + 1)
/-- How comment leaves. -/
def CmtEnd (r : Option Nat) (b : Nat) (s : ByteArray) (e : Ending) (w' : World) : Prop :=
  match r with
  | some j => e = .returned (.tuple #[]) ∧ MAt w' b s j
  | none => e = .panicked wrongs
theorem cmt_step (c : UInt8) (r : List UInt8) (d : Int) (k : Nat) : cmtGo (c :: r) d k = if deepR c d = 0 then some (if c = 92 then k + 2 else k + 1) else if deepR c d > 32 then none else if c = 92 then cmtGo r.tail (deepR c d) (k + 2) else cmtGo r (deepR c d) (k + 1) := by
  cases r with
  | nil =>
    simp only [cmtGo, List.tail_nil]
    split
    · rfl
    · simp
  | cons x t => rw [cmtGo]; rfl
set_option maxHeartbeats 2000000 in
set_option maxRecDepth 100000 in
theorem comment_walk (b : Nat) (s : ByteArray) (i : Nat) (w : World) (hM : MAt w b s i) (hs : s.size ≤ 9223372036854775000) (hi : i < s.size) (h40 : s[i] = 40) :
    Calls Try.prog 91 #[.pointer (some ⟨b, 0, none⟩)] w fun e w' => KB w w' b ∧
      CmtEnd (cmtGo (s.data.toList.drop i) 0 i) b s e w' := by
  have HM := Lib.hid hM
  clear hM
  go_enter Try.func91, Try.ntmps91
  go_wp2_with (fail)
  go_loopw [2] (fun v wr => ∃ (d : Int) (k : Nat), v = .int .i64 d ∧ 0 ≤ d ∧ d ≤ 32 ∧ Hid (MAt wr b s k ∧ KB w wr b ∧ (d = 0 → k = i) ∧ cmtGo (s.data.toList.drop k) d k = cmtGo (s.data.toList.drop i) 0 i)) (fun _ wr => s.size + 2 - (intOf ((wr.cell? ⟨b, 1, none⟩).getD undef)).toNat)
  case atStart => exact ⟨0, i, rfl, by omega, by omega, Lib.hid ⟨HM.out, KB.refl _ _, fun _ => rfl, rfl⟩⟩
  case round =>
    obtain ⟨d, k, rfl, hd0, hd1, HI⟩ := hrel
    by_cases hk : (k : Int) < (s.size : Int)
    · have hkn : k < s.size := by omega
      have HC := Lib.hid (more_calls b s k wr HI.out.1)
      have td : decide ((k : Int) < (s.size : Int)) = true := decide_eq_true hk
      go_wp2_with (fail)
      refine HC.out.mono ?_
      rintro e w1 ⟨rfl, ⟨nd, rfl⟩⟩
      rw [td]
      have HM1 := Lib.hid (show MAt (wr.drewN nd) b s k from HI.out.1)
      have HK1 := Lib.hid (show KB w (wr.drewN nd) b from HI.out.2.1)
      have HG := Lib.hid HI.out.2.2
      have HM0 := Lib.hid HI.out.1.cell1
      clear HI HC td
      generalize wr.drewN nd = w1 at *
      have c0 := HM1.out.cell0
      have c1 := HM1.out.cell1
      have f1 := HM1.out.frozen 1
      have e1 := (HM1.out.drew.set ((k : Int) + 1)).cell1
      have hp0 : (0 : Int) ≤ (k : Int) := by omega
      have hw1 : IntKind.i64.wrap ((k : Int) + 1) = (k : Int) + 1 := IntWalk.i64_in _ (by omega)
      go_wp2
      go_region
      have HMd := Lib.hid (HM1.out.drew.set ((k : Int) + 1))
      have HKd := Lib.hid (show KB w (w1.drew.setCell ⟨b, 1, none⟩ (.int .i64 ((k : Int) + 1))) b from KB.set_ (show KB w w1.drew b from HK1.out) 1 _)
      have hdrop : s.data.toList.drop k = s[k] :: s.data.toList.drop (k + 1) := drop_cons_at s k hkn
      have HS := Lib.hid (show cmtGo (s.data.toList.drop i) 0 i = _ from HG.out.2.symm.trans (by rw [hdrop, cmt_step]))
      have HD := Lib.hid (show d = 0 → s[k] = 40 from fun h => by have := HG.out.1 h; subst this; exact h40)
      clear hdrop HM1 HK1 HG
      have hu40 : ((s[k].toNat : Int) = 40) ↔ s[k] = 40 := u8_ofInt s[k] 40
      have hu41 : ((s[k].toNat : Int) = 41) ↔ s[k] = 41 := u8_ofInt s[k] 41
      have hu92 : ((s[k].toNat : Int) = 92) ↔ s[k] = 92 := u8_ofInt s[k] 92
      by_cases q40 : s[k] = 40
      · have t40 : ((s[k].toNat : Int) == 40) = true := beq_iff_eq.2 (hu40.2 q40)
        have hS := HS.out
        rw [q40] at hS
        have e : deepR 40 d = d + 1 := rfl
        rw [e, if_neg (by omega)] at hS
        have hw2 : IntKind.i64.wrap (d + 1) = d + 1 := IntWalk.i64_in _ (by omega)
        have t0 : (d + 1 == 0) = false := beq_eq_false_iff_ne.2 (by omega)
        clear q40 hu40 hu41 hu92 HS HD
        by_cases h32 : d + 1 > 32
        · rw [if_pos h32] at hS
          have HE := Lib.hid hS
          clear hS
          generalize (s[k].toNat : Int) = x at *
          go_wp2
          refine ⟨rfl, ?_⟩
          rw [HE.out]
          exact ⟨HKd.out, rfl⟩
        · rw [if_neg h32, if_neg (by decide)] at hS
          have HE := Lib.hid hS
          clear hS
          generalize (s[k].toNat : Int) = x at *
          go_wp2
          go_roundw
          case rel => exact ⟨d + 1, k + 1, by go_num, by omega, by omega, Lib.hid ⟨HMd.out, HKd.out, fun h => by omega, HE.out.symm⟩⟩
          case measure => simp [intOf, HM0.out, c1, go_sem]; omega
      · have t40 : ((s[k].toNat : Int) == 40) = false := beq_eq_false_iff_ne.2 (fun h => q40 (hu40.1 h))
        have hd : d ≠ 0 := fun h => q40 (HD.out h)
        by_cases q41 : s[k] = 41
        · have t41 : ((s[k].toNat : Int) == 41) = true := beq_iff_eq.2 (hu41.2 q41)
          have hS := HS.out
          rw [q41] at hS
          have e : deepR 41 d = d - 1 := rfl
          rw [e] at hS
          have hw2 : IntKind.i64.wrap (d - 1) = d - 1 := IntWalk.i64_in _ (by omega)
          clear q40 q41 hu40 hu41 hu92 HS HD
          by_cases h0 : d - 1 = 0
          · rw [if_pos h0, if_neg (by decide)] at hS
            have HE := Lib.hid hS
            have t0 : (d - 1 == 0) = true := beq_iff_eq.2 h0
            clear hS
            generalize (s[k].toNat : Int) = x at *
            go_wp2
            first | go_end0 | refine bodyPost_ret (results_none rfl _ _ _) rfl ?_
            rw [HE.out]
            exact ⟨HKd.out, rfl, HMd.out⟩
          · rw [if_neg h0, if_neg (by omega), if_neg (by decide)] at hS
            have HE := Lib.hid hS
            have t0 : (d - 1 == 0) = false := beq_eq_false_iff_ne.2 h0
            have t32 : ¬ (d - 1 > 32) := by omega
            clear hS
            generalize (s[k].toNat : Int) = x at *
            go_wp2
            go_roundw
            case rel => exact ⟨d - 1, k + 1, by go_num, by omega, by omega, Lib.hid ⟨HMd.out, HKd.out, fun h => absurd h h0, HE.out.symm⟩⟩
            case measure => simp [intOf, HM0.out, c1, go_sem]; omega
        · have t41 : ((s[k].toNat : Int) == 41) = false := beq_eq_false_iff_ne.2 (fun h => q41 (hu41.1 h))
          have e : deepR s[k] d = d := by unfold deepR; rw [if_neg q40, if_neg q41]
          have hS := HS.out
          rw [e, if_neg hd, if_neg (by omega)] at hS
          have t0 : (d == 0) = false := beq_eq_false_iff_ne.2 hd
          have t32 : ¬ (d > 32) := by omega
          by_cases q92 : s[k] = 92
          · rw [if_pos q92] at hS
            have t92 : ((s[k].toNat : Int) == 92) = true := beq_iff_eq.2 (hu92.2 q92)
            have HE := Lib.hid hS
            have hw3 : IntKind.i64.wrap ((k : Int) + 1 + 1) = (k : Int) + 1 + 1 := IntWalk.i64_in _ (by omega)
            have HMe := Lib.hid (HMd.out.set ((k : Int) + 1 + 1))
            have HKe := Lib.hid (KB.set_ HKd.out 1 (.int .i64 ((k : Int) + 1 + 1)))
            clear hS q40 q41 q92 hu40 hu41 hu92 HS HD e
            generalize (s[k].toNat : Int) = x at *
            go_wp2
            go_roundw
            case rel => exact ⟨d, k + 2, by go_num, by omega, by omega, Lib.hid ⟨HMe.out, HKe.out, fun h => absurd h hd, by rw [HE.out, List.tail_drop]⟩⟩
            case measure => simp [intOf, HM0.out, c1, go_sem]; omega
          · rw [if_neg q92] at hS
            have t92 : ((s[k].toNat : Int) == 92) = false := beq_eq_false_iff_ne.2 (fun h => q92 (hu92.1 h))
            have HE := Lib.hid hS
            clear hS q40 q41 q92 hu40 hu41 hu92 HS HD e
            generalize (s[k].toNat : Int) = x at *
            go_wp2
            go_roundw
            case rel => exact ⟨d, k + 1, by go_num, by omega, by omega, Lib.hid ⟨HMd.out, HKd.out, fun h => absurd h hd, HE.out.symm⟩⟩
            case measure => simp [intOf, HM0.out, c1, go_sem]; omega
    · have HC := Lib.hid (more_calls b s k wr HI.out.1)
      have td : decide ((k : Int) < (s.size : Int)) = false := decide_eq_false hk
      go_wp2_with (fail)
      refine HC.out.mono ?_
      rintro e w1 ⟨rfl, ⟨nd, rfl⟩⟩
      rw [td]
      have HK1 := Lib.hid (show KB w (wr.drewN nd) b from HI.out.2.1)
      have HE : Hid (cmtGo (s.data.toList.drop i) 0 i = none) := Lib.hid (by rw [← HI.out.2.2.2, List.drop_of_length_le (by simp; omega), cmtGo])
      clear HI HC td
      generalize wr.drewN nd = w1 at *
      go_wp2
      refine ⟨rfl, ?_⟩
      rw [HE.out]
      exact ⟨HK1.out, rfl⟩
end Go.Proofs.Ytodidfdfbanliaa.PAll
set_option linter.unusedVariables false
set_option linter.unusedSimpArgs false
namespace Go.Proofs.Ytodidfdfbanliaa.PAll
open Go.RowKit Go.Proofs.YtodidfdfbanliaaW.PrintWords
theorem cmt_past (n : Nat) : ∀ (l : List UInt8) (d : Int) (k j : Nat), l.length ≤ n → cmtGo l d k = some j → k < j := by
  induction n with
  | zero =>
    intro l d k j hl h
    have : l = [] := List.eq_nil_of_length_eq_zero (by omega)
    subst this; simp [cmtGo] at h
  | succ n ih =>
    intro l d k j hl h
    cases l with
    | nil => simp [cmtGo] at h
    | cons c r =>
      rw [cmt_step] at h
      split at h
      · injection h with h; split at h <;> omega
      · split at h
        · cases h
        · split at h
          · have := ih r.tail _ _ _ (by simp at hl ⊢; omega) h; omega
          · have := ih r _ _ _ (by simp at hl; omega) h; omega
/-- Where what stands between ends; none: within a comment. -/
def betGo : Nat → ByteArray → Nat → Option Nat
  | 0, _, k => some k
  | n + 1, s, k => if h : k < s.size then (if isBl s[k] then betGo n s (k + 1) else if s[k] = 40 then (match cmtGo (s.data.toList.drop k) 0 k with | some j => betGo n s j | none => none) else some k) else some k
set_option maxHeartbeats 2000000 in
set_option maxRecDepth 100000 in
theorem between_walk (b : Nat) (s : ByteArray) (i : Nat) (w : World) (hM : MAt w b s i) (hs : s.size ≤ 9223372036854775000) :
    Calls Try.prog 70 #[.pointer (some ⟨b, 0, none⟩)] w fun e w' => KB w w' b ∧ CmtEnd (betGo (s.size + 1 - i) s i) b s e w' := by
  have HM := Lib.hid hM
  clear hM
  go_enter Try.func70, Try.ntmps70
  go_wp2_with (fail)
  go_loopw [] (fun wr => ∃ (k n : Nat), s.size + 1 ≤ n + k ∧ Hid (MAt wr b s k ∧ KB w wr b ∧ betGo n s k = betGo (s.size + 1 - i) s i)) (fun wr => s.size + 2 - (intOf ((wr.cell? ⟨b, 1, none⟩).getD undef)).toNat)
  case atStart => exact ⟨i, s.size + 1 - i, by omega, Lib.hid ⟨HM.out, KB.refl _ _, rfl⟩⟩
  case round =>
    obtain ⟨k, n, hn, HI⟩ := hrel
    by_cases hk : (k : Int) < (s.size : Int)
    · have hkn : k < s.size := by omega
      obtain ⟨m, rfl⟩ : ∃ m, n = m + 1 := ⟨n - 1, by omega⟩
      have HC := Lib.hid (more_calls b s k wr HI.out.1)
      have td : decide ((k : Int) < (s.size : Int)) = true := decide_eq_true hk
      have HM0 := Lib.hid HI.out.1.cell1
      have hb := HI.out.2.2
      rw [betGo, dif_pos hkn] at hb
      go_wp2_with (fail)
      refine HC.out.mono ?_
      rintro e w1 ⟨rfl, ⟨nd, rfl⟩⟩
      rw [td]
      have HM1 := Lib.hid (show MAt (wr.drewN nd).drew b s k from HI.out.1)
      have HK1 := Lib.hid (show KB w (wr.drewN nd).drew b from HI.out.2.1)
      have c0 : (wr.drewN nd).cell? ⟨b, 0, none⟩ = _ := HI.out.1.cell0
      have c1 : (wr.drewN nd).cell? ⟨b, 1, none⟩ = _ := HI.out.1.cell1
      have f1 : (wr.drewN nd).frozen? ⟨b, 1, none⟩ = _ := HI.out.1.frozen 1
      clear HI HC td
      generalize wr.drewN nd = w1 at *
      have hp0 : (0 : Int) ≤ (k : Int) := by omega
      go_wp2
      go_region
      have hw1 : IntKind.i64.wrap ((k : Int) + 1) = (k : Int) + 1 := IntWalk.i64_in _ (by omega)
      have HN := Lib.hid (HM1.out.set ((k : Int) + 1))
      have HKN := Lib.hid (KB.set_ HK1.out 1 (.int .i64 ((k : Int) + 1)))
      by_cases q9 : (s[k].toNat : Int) = 9
      · have t9 : ((s[k].toNat : Int) == 9) = true := beq_iff_eq.2 q9
        have hbl : isBl s[k] = true := by rw [isBl_int]; simp [q9]
        rw [if_pos hbl] at hb
        have HE := Lib.hid hb
        clear hb hbl q9
        generalize (s[k].toNat : Int) = x at *
        go_wp2
        go_roundw
        case rel => exact ⟨k + 1, m, by omega, Lib.hid ⟨HN.out, HKN.out, HE.out⟩⟩
        case measure => simp [intOf, HM0.out, c1, go_sem]; omega
      · have t9 : ((s[k].toNat : Int) == 9) = false := beq_eq_false_iff_ne.2 q9
        by_cases q32 : (s[k].toNat : Int) = 32
        · have t32 : ((s[k].toNat : Int) == 32) = true := beq_iff_eq.2 q32
          have hbl : isBl s[k] = true := by rw [isBl_int]; simp [q32]
          rw [if_pos hbl] at hb
          have HE := Lib.hid hb
          clear hb hbl q9 q32
          generalize (s[k].toNat : Int) = x at *
          go_wp2
          go_roundw
          case rel => exact ⟨k + 1, m, by omega, Lib.hid ⟨HN.out, HKN.out, HE.out⟩⟩
          case measure => simp [intOf, HM0.out, c1, go_sem]; omega
        · have t32 : ((s[k].toNat : Int) == 32) = false := beq_eq_false_iff_ne.2 q32
          have hbl : ¬ isBl s[k] = true := by rw [isBl_int]; simp [q9, q32]
          rw [if_neg hbl] at hb
          by_cases q40 : s[k] = 40
          · rw [if_pos q40] at hb
            have t40 : ((s[k].toNat : Int) == 40) = true := beq_iff_eq.2 ((u8_ofInt s[k] 40).2 q40)
            have HCM := Lib.hid (comment_walk b s k w1.drew HM1.out hs hkn q40)
            have HP := Lib.hid (fun j (h : cmtGo (s.data.toList.drop k) 0 k = some j) => cmt_past _ (s.data.toList.drop k) 0 k j (Nat.le_refl _) h)
            generalize cmtGo (s.data.toList.drop k) 0 k = r at *
            have HE := Lib.hid hb
            clear hb hbl q9 q32 q40
            generalize (s[k].toNat : Int) = x at *
            go_wp2_with (fail)
            refine HCM.out.mono ?_
            rintro e w2 ⟨hk2, he⟩
            cases r with
            | none =>
              obtain rfl : e = .panicked wrongs := he
              have HK2 := Lib.hid (KB.trans HK1.out hk2)
              have HE2 : Hid (betGo (s.size + 1 - i) s i = none) := Lib.hid HE.out.symm
              clear hk2 HE HCM
              go_wp2
              refine ⟨rfl, ?_⟩
              rw [HE2.out]
              exact ⟨HK2.out, rfl⟩
            | some j =>
              obtain ⟨rfl, hm2⟩ : e = .returned (.tuple #[]) ∧ MAt w2 b s j := he
              have hj : k < j := HP.out j rfl
              have HK2 := Lib.hid (KB.trans HK1.out hk2)
              have HM2 := Lib.hid hm2
              have c2 := hm2.cell1
              clear hk2 hm2 HCM
              go_wp2
              go_roundw
              case rel => exact ⟨j, m, by omega, Lib.hid ⟨HM2.out, HK2.out, HE.out⟩⟩
              case measure => simp [intOf, HM0.out, c2, go_sem]; omega
          · rw [if_neg q40] at hb
            have t40 : ((s[k].toNat : Int) == 40) = false := beq_eq_false_iff_ne.2 (fun h => q40 ((u8_ofInt s[k] 40).1 h))
            have HE := Lib.hid hb
            clear hb hbl q9 q32 q40
            generalize (s[k].toNat : Int) = x at *
            go_wp2
            first | go_end0 | refine bodyPost_ret (results_none rfl _ _ _) rfl ?_
            rw [← HE.out]
            exact ⟨HK1.out, rfl, HM1.out⟩
    · have HC := Lib.hid (more_calls b s k wr HI.out.1)
      have td : decide ((k : Int) < (s.size : Int)) = false := decide_eq_false hk
      go_wp2_with (fail)
      refine HC.out.mono ?_
      rintro e w1 ⟨rfl, ⟨nd, rfl⟩⟩
      rw [td]
      have HK1 := Lib.hid (show KB w (wr.drewN nd) b from HI.out.2.1)
      have HM1 := Lib.hid (show MAt (wr.drewN nd) b s k from HI.out.1)
      have HE : Hid (betGo (s.size + 1 - i) s i = some k) := Lib.hid (by
        rw [← HI.out.2.2]
        cases n with
        | zero => rfl
        | succ m => rw [betGo, dif_neg (by omega)])
      clear HI HC td
      generalize wr.drewN nd = w1 at *
      go_wp2
      first | go_end0 | refine bodyPost_end (results_none rfl _ _ _) rfl ?_
      rw [HE.out]
      exact ⟨HK1.out, rfl, HM1.out⟩
end Go.Proofs.Ytodidfdfbanliaa.PAll
set_option linter.unusedVariables false
set_option linter.unusedSimpArgs false
namespace Go.Proofs.Ytodidfdfbanliaa.PAll
open Go.RowKit Go.Proofs.YtodidfdfbanliaaW.PrintWords
/-- Where what stands between ends. -/
def betP (s : ByteArray) (k : Nat) : Option Nat := betGo (s.size + 1 - k) s k
/-- Where a sign and what stands between behind it end. -/
def expGo (s : ByteArray) (k : Nat) (c : UInt8) : Option Nat := if h : k < s.size then (if s[k] = c then betP s (k + 1) else none) else none
/-- Where a run of marks ends. -/
def tokEnd (s : ByteArray) (k : Nat) : Nat := k + ((s.data.toList.drop k).takeWhile markC).length
/-- A token, and where what stands between behind it ends. -/
def tokGo (s : ByteArray) (k : Nat) : Option (ByteArray × Nat) := if tokEnd s k = k then none else (betP s (tokEnd s k)).map fun j => (s.extract k (tokEnd s k), j)
/-- The rest of a quoted text. -/
def quoGo : Nat → ByteArray → Nat → List UInt8 → Option (List UInt8 × Nat)
  | 0, _, _, _ => none
  | n + 1, s, j, acc => if h : j < s.size then (if s[j] = 34 then (betP s (j + 1)).map fun e => (acc, e) else if s[j] = 92 then (if h2 : j + 1 < s.size then quoGo n s (j + 2) (acc ++ [s[j + 1]]) else none) else quoGo n s (j + 1) (acc ++ [s[j]])) else none
def quoP (s : ByteArray) (k : Nat) : Option (List UInt8 × Nat) := quoGo (s.size + 1 - k) s k []
/-- A value, and where what stands between behind it ends. -/
def valGo (s : ByteArray) (k : Nat) : Option (ByteArray × Nat) := if h : k < s.size then (if s[k] = 34 then (quoP s (k + 1)).map fun r => (⟨r.1.toArray⟩, r.2) else tokGo s k) else none
/-- The parameters. -/
def parGo : Nat → ByteArray → Nat → Option (List S42)
  | 0, _, _ => some []
  | n + 1, s, k => if k < s.size then (expGo s k 59).bind fun c => (tokGo s c).bind fun nm => (expGo s nm.2 61).bind fun f => (valGo s f).bind fun v => (parGo n s v.2).map fun r => ⟨lowB nm.1, v.1⟩ :: r else some []
/-- A type. -/
def typeGo (s : ByteArray) : Option (ByteArray × ByteArray × List S42) :=
  (betP s 0).bind fun a => (tokGo s a).bind fun m => (expGo s m.2 47).bind fun c => (tokGo s c).bind fun u => (parGo (s.size + 1 - u.2) s u.2).map fun r => (lowB m.1, lowB u.1, r)
theorem betGo_ge (n : Nat) : ∀ (s : ByteArray) (k j : Nat), betGo n s k = some j → k ≤ j := by
  induction n with
  | zero => intro s k j h; simp [betGo] at h; omega
  | succ n ih =>
    intro s k j h
    rw [betGo] at h
    split at h
    · split at h
      · have := ih _ _ _ h; omega
      · split at h
        · split at h
          · rename_i hc; have h1 := ih _ _ _ h; have h2 := cmt_past _ _ _ _ _ (Nat.le_refl _) hc; omega
          · cases h
        · injection h with h; omega
    · injection h with h; omega
theorem betP_ge {s : ByteArray} {k j : Nat} (h : betP s k = some j) : k ≤ j := betGo_ge _ _ _ _ h
theorem tokEnd_ge (s : ByteArray) (k : Nat) : k ≤ tokEnd s k := by unfold tokEnd; omega
theorem tokEnd_step (s : ByteArray) (k : Nat) (h : k < s.size) (hm : markC s[k] = true) : tokEnd s (k + 1) = tokEnd s k := by
  unfold tokEnd
  rw [drop_cons_at s k h, List.takeWhile_cons_of_pos hm]; simp; omega
theorem tokEnd_stop (s : ByteArray) (k : Nat) (h : k < s.size) (hm : markC s[k] = false) : tokEnd s k = k := by
  unfold tokEnd
  rw [drop_cons_at s k h, List.takeWhile_cons_of_neg (by simp [hm])]; simp
theorem tokEnd_end (s : ByteArray) (k : Nat) (h : s.size ≤ k) : tokEnd s k = k := by
  unfold tokEnd
  rw [List.drop_of_length_le (by simp; omega)]; simp
theorem tokGo_gt {s : ByteArray} {k : Nat} {r : ByteArray × Nat} (h : tokGo s k = some r) : k < r.2 := by
  unfold tokGo at h
  split at h
  · cases h
  · obtain ⟨j, hj, rfl⟩ := Option.map_eq_some_iff.1 h
    have := betP_ge hj; have := tokEnd_ge s k; simp only []; omega
theorem expGo_gt {s : ByteArray} {k j : Nat} {c : UInt8} (h : expGo s k c = some j) : k < j := by
  unfold expGo at h
  split at h
  · split at h
    · have := betP_ge h; omega
    · cases h
  · cases h
theorem quoGo_gt (n : Nat) : ∀ (s : ByteArray) (k : Nat) (acc : List UInt8) (r : List UInt8 × Nat), quoGo n s k acc = some r → k < r.2 := by
  induction n with
  | zero => intro s k acc r h; simp [quoGo] at h
  | succ n ih =>
    intro s k acc r h
    rw [quoGo] at h
    split at h
    · split at h
      · obtain ⟨j, hj, rfl⟩ := Option.map_eq_some_iff.1 h
        have := betP_ge hj; simp only []; omega
      · split at h
        · split at h
          · have := ih _ _ _ _ h; omega
          · cases h
        · have := ih _ _ _ _ h; omega
    · cases h
theorem valGo_gt {s : ByteArray} {k : Nat} {r : ByteArray × Nat} (h : valGo s k = some r) : k < r.2 := by
  unfold valGo at h
  split at h
  · split at h
    · obtain ⟨j, hj, rfl⟩ := Option.map_eq_some_iff.1 h
      have := quoGo_gt _ _ _ _ _ hj; simp only []; omega
    · exact tokGo_gt h
  · cases h
end Go.Proofs.Ytodidfdfbanliaa.PAll
set_option linter.unusedVariables false
set_option linter.unusedSimpArgs false
namespace Go.Proofs.Ytodidfdfbanliaa.PAll
open Go.RowKit Go.Proofs.YtodidfdfbanliaaW.PrintWords
theorem more_true (b : Nat) (s : ByteArray) (i : Nat) (w : World) (n : Nat) (hM : MAt w b s i) (h : i < s.size) :
    Calls Try.prog 73 #[.pointer (some ⟨b, 0, none⟩)] (w.drewN n) fun e w' => e = .returned (.bool true) ∧ ∃ m, w' = (w.drewN n).drewN m :=
  (more_calls b s i (w.drewN n) hM).mono fun e w' ⟨h1, ⟨m, h2⟩⟩ => ⟨by rw [h1, decide_eq_true (by omega)], m, h2⟩
theorem more_false (b : Nat) (s : ByteArray) (i : Nat) (w : World) (n : Nat) (hM : MAt w b s i) (h : ¬ i < s.size) :
    Calls Try.prog 73 #[.pointer (some ⟨b, 0, none⟩)] (w.drewN n) fun e w' => e = .returned (.bool false) ∧ ∃ m, w' = (w.drewN n).drewN m :=
  (more_calls b s i (w.drewN n) hM).mono fun e w' ⟨h1, ⟨m, h2⟩⟩ => ⟨by rw [h1, decide_eq_false (by omega)], m, h2⟩
set_option maxHeartbeats 2000000 in
set_option maxRecDepth 100000 in
theorem expect_walk (b : Nat) (s : ByteArray) (k : Nat) (c : UInt8) (w : World) (hM : MAt w b s k) (hs : s.size ≤ 9223372036854775000) :
    Calls Try.prog 72 #[.pointer (some ⟨b, 0, none⟩), .int .u8 (c.toNat : Int)] w fun e w' => KB w w' b ∧ CmtEnd (expGo s k c) b s e w' := by
  have HM := Lib.hid hM
  by_cases hk : k < s.size
  · have HC := Lib.hid (fun n => more_true b s k w n hM hk)
    have c0 := hM.cell0
    have c1 := hM.cell1
    have f1 := hM.frozen 1
    have hp0 : (0 : Int) ≤ (k : Int) := by omega
    have hp1 : (k : Int) < (s.size : Int) := by omega
    have hu := u8_ofInt s[k] c
    have HE := Lib.hid (show expGo s k c = if s[k] = c then betP s (k + 1) else none by rw [expGo, dif_pos hk])
    clear hM
    by_cases hc : s[k] = c
    · have t1 : ((s[k].toNat : Int) != (c.toNat : Int)) = false := by rw [bne_eq_false_iff_eq]; exact hu.2 hc
      have HE2 := Lib.hid (HE.out.trans (if_pos hc))
      have hw1 : IntKind.i64.wrap ((k : Int) + 1) = (k : Int) + 1 := IntWalk.i64_in _ (by omega)
      clear hu hc HE
      go_enter Try.func72, Try.ntmps72
      go_wp2_with (fail)
      go_quiet ((go_at_call 73; exact Calls.quiet_of (HC.out _)))
      have HN := Lib.hid (show MAt ((w.drewN nq).setCell ⟨b, 1, none⟩ (.int .i64 ((k : Int) + 1))) b s (k + 1 : Nat) from MAt.set (show MAt (w.drewN nq) b s k from HM.out) _)
      have HKN := Lib.hid (KB.set_ (show KB w (w.drewN nq) b from KB.refl w b) 1 (.int .i64 ((k : Int) + 1)))
      have HB := Lib.hid (between_walk b s (k + 1) _ HN.out hs)
      go_wp2_with (fail)
      refine HB.out.mono ?_
      rintro e w2 ⟨hk2, he⟩
      have HK2 := Lib.hid (KB.trans HKN.out hk2)
      clear hk2
      cases hr : betGo (s.size + 1 - (k + 1)) s (k + 1) with
      | none =>
        rw [hr] at he
        obtain rfl : e = .panicked wrongs := he
        have HE3 := Lib.hid (HE2.out.trans hr)
        clear hr HB
        go_wp2
        refine ⟨rfl, ?_⟩
        rw [HE3.out]
        exact ⟨HK2.out, rfl⟩
      | some j =>
        rw [hr] at he
        obtain ⟨rfl, hm2⟩ : e = .returned (.tuple #[]) ∧ MAt w2 b s j := he
        have HE3 := Lib.hid (HE2.out.trans hr)
        have HM2 := Lib.hid hm2
        clear hr HB hm2
        go_wp2
        first | go_end0 | refine bodyPost_end (results_none rfl _ _ _) rfl ?_
        rw [HE3.out]
        exact ⟨HK2.out, rfl, HM2.out⟩
    · have t1 : ((s[k].toNat : Int) != (c.toNat : Int)) = true := by rw [bne_iff_ne]; exact fun h => hc (hu.1 h)
      have HE2 := Lib.hid (HE.out.trans (if_neg hc))
      clear hu hc HE
      go_enter Try.func72, Try.ntmps72
      go_wp2_with (fail)
      go_quiet ((go_at_call 73; exact Calls.quiet_of (HC.out _)))
      go_wp2
      refine ⟨rfl, ?_⟩
      rw [HE2.out]
      exact ⟨KB.refl _ _, rfl⟩
  · have HC := Lib.hid (fun n => more_false b s k w n hM hk)
    have HE := Lib.hid (show expGo s k c = none by rw [expGo, dif_neg hk])
    clear hM hk
    go_enter Try.func72, Try.ntmps72
    go_wp2_with (fail)
    go_quiet ((go_at_call 73; exact Calls.quiet_of (HC.out _)))
    go_wp2
    refine ⟨rfl, ?_⟩
    rw [HE.out]
    exact ⟨KB.refl _ _, rfl⟩
end Go.Proofs.Ytodidfdfbanliaa.PAll
set_option linter.unusedVariables false
set_option linter.unusedSimpArgs false
namespace Go.Proofs.Ytodidfdfbanliaa.PAll
open Go.RowKit Go.Proofs.YtodidfdfbanliaaW.PrintWords
/-- How a method that reads a text leaves. -/
def TokEndP (r : Option (ByteArray × Nat)) (b : Nat) (s : ByteArray) (e : Ending) (w' : World) : Prop :=
  match r with
  | some (t, j) => e = .returned (.string t) ∧ MAt w' b s j
  | none => e = .panicked wrongs
theorem mark_is (c : UInt8) (v : Bool) (h : markC c = v) (w : World) (n : Nat) : Calls Try.prog 79 #[.int .u8 (c.toNat : Int)] (w.drewN n) fun e w' => e = .returned (.bool v) ∧ ∃ m, w' = (w.drewN n).drewN m :=
  (mimetype_mark.calls _ v (w.drewN n) (by rw [mimetype_mark.is, h])).mono fun e w' ⟨h1, ⟨m, h2⟩⟩ => ⟨h1, m, h2⟩
set_option maxHeartbeats 2000000 in
set_option maxRecDepth 100000 in
theorem token_walk (b : Nat) (s : ByteArray) (k : Nat) (w : World) (hM : MAt w b s k) (hs : s.size ≤ 9223372036854775000) :
    Calls Try.prog 71 #[.pointer (some ⟨b, 0, none⟩)] w fun e w' => KB w w' b ∧ TokEndP (tokGo s k) b s e w' := by
  have HM := Lib.hid hM
  have c1 := hM.cell1
  clear hM
  go_enter Try.func71, Try.ntmps71
  go_wp2_with (fail)
  clear c1
  go_loopw [] (fun wr => ∃ j : Nat, k ≤ j ∧ Hid (MAt wr b s j ∧ KB w wr b ∧ tokEnd s j = tokEnd s k ∧ (j = k ∨ j ≤ s.size))) (fun wr => s.size + 2 - (intOf ((wr.cell? ⟨b, 1, none⟩).getD undef)).toNat)
  case atStart => exact ⟨k, by omega, Lib.hid ⟨HM.out, KB.refl _ _, rfl, .inl rfl⟩⟩
  case round =>
    obtain ⟨j, hkj, HI⟩ := hrel
    have HL := Lib.hid HI.out.2.2.2
    have HM0 := Lib.hid HI.out.1.cell1
    by_cases hk : j < s.size
    · have HC := Lib.hid (fun n => more_true b s j wr n HI.out.1 hk)
      have c0 := HI.out.1.cell0
      have c1 := HI.out.1.cell1
      have f1 := HI.out.1.frozen 1
      have hp0 : (0 : Int) ≤ (j : Int) := by omega
      have hp1 : (j : Int) < (s.size : Int) := by omega
      by_cases hc : markC s[j] = true
      · have HK := Lib.hid (mark_is s[j] true hc wr)
        have HT := Lib.hid (tokEnd_step s j hk hc)
        have hw1 : IntKind.i64.wrap ((j : Int) + 1) = (j : Int) + 1 := IntWalk.i64_in _ (by omega)
        clear hc
        go_wp2_with (fail)
        go_quiet (first | (go_at_call 73; exact Calls.quiet_of (HC.out _)) | (go_at_call 79; exact Calls.quiet_of (HK.out _)))
        have HN := Lib.hid (show MAt ((wr.drewN nq).setCell ⟨b, 1, none⟩ (.int .i64 ((j : Int) + 1))) b s (j + 1 : Nat) from MAt.set (show MAt (wr.drewN nq) b s j from HI.out.1) _)
        have HKN := Lib.hid (KB.set_ (show KB w (wr.drewN nq) b from HI.out.2.1) 1 (.int .i64 ((j : Int) + 1)))
        have HE := Lib.hid (HT.out.trans HI.out.2.2.1)
        clear HI HL
        go_wp2
        go_roundw
        case rel => exact ⟨j + 1, by omega, Lib.hid ⟨HN.out, HKN.out, HE.out, .inr (by omega)⟩⟩
        case measure => simp [intOf, HM0.out, c1, go_sem]; omega
      · have HK := Lib.hid (mark_is s[j] false (by simpa using hc) wr)
        have HT := Lib.hid (tokEnd_stop s j hk (by simpa using hc))
        clear hc
        go_wp2_with (fail)
        go_quiet (first | (go_at_call 73; exact Calls.quiet_of (HC.out _)) | (go_at_call 79; exact Calls.quiet_of (HK.out _)))
        have HE := Lib.hid (HI.out.2.2.1.symm.trans HT.out)
        have HMj := Lib.hid (show MAt (wr.drewN nq) b s j from HI.out.1)
        have HKj := Lib.hid (show KB w (wr.drewN nq) b from HI.out.2.1)
        clear HI HM0 HC HK HT c0 c1 f1
        generalize wr.drewN nq = w1 at *
        have c0 := HMj.out.cell0
        have c1 := HMj.out.cell1
        clear hk
        by_cases hjk : j = k
        · subst hjk
          have HN := Lib.hid (show tokGo s j = none by rw [tokGo, if_pos HE.out])
          have hne : ((j : Int) == (j : Int)) = true := beq_self_eq_true _
          clear HE
          go_wp2
          refine ⟨rfl, ?_⟩
          rw [HN.out]
          exact ⟨HKj.out, rfl⟩
        · have HX := Lib.hid (show tokGo s k = (betP s j).map fun e => (s.extract k j, e) by rw [tokGo, if_neg (by rw [HE.out]; exact hjk), HE.out])
          have hne : ((j : Int) == (k : Int)) = false := beq_eq_false_iff_ne.2 (by omega)
          have hk0 : (0 : Int) ≤ (k : Int) := by omega
          have hk1 : (k : Int) ≤ (j : Int) := by omega
          have hj2 : (j : Int) ≤ (s.size : Int) := by have := HL.out; omega
          clear HL
          go_wp2_with (fail)
          go_quiet (fail)
          have HB := Lib.hid (between_walk b s j (w1.drewN nq) HMj.out hs)
          have HKd := Lib.hid (show KB w (w1.drewN nq) b from HKj.out)
          go_wp2_with (fail)
          refine HB.out.mono ?_
          rintro e w2 ⟨hk2, he⟩
          have HK2 := Lib.hid (KB.trans HKd.out hk2)
          clear hk2
          cases hr : betGo (s.size + 1 - j) s j with
          | none =>
            rw [hr] at he
            obtain rfl : e = .panicked wrongs := he
            have HE3 := Lib.hid (HX.out.trans (by rw [show betP s j = none from hr, Option.map_none]))
            clear hr HB
            go_wp2
            refine ⟨rfl, ?_⟩
            rw [HE3.out]
            exact ⟨HK2.out, rfl⟩
          | some m =>
            rw [hr] at he
            obtain ⟨rfl, hm2⟩ : e = .returned (.tuple #[]) ∧ MAt w2 b s m := he
            have HE3 := Lib.hid (HX.out.trans (show _ = some (s.extract k j, m) by rw [show betP s j = some m from hr, Option.map_some]))
            have HM2 := Lib.hid hm2
            clear hr HB hm2
            go_wp2
            go_ret
            rw [HE3.out]
            exact ⟨HK2.out, rfl, HM2.out⟩
    · have HC := Lib.hid (fun n => more_false b s j wr n HI.out.1 hk)
      have HT := Lib.hid (tokEnd_end s j (by omega))
      clear hk
      go_wp2_with (fail)
      go_quiet ((go_at_call 73; exact Calls.quiet_of (HC.out _)))
      have HE := Lib.hid (HI.out.2.2.1.symm.trans HT.out)
      have HMj := Lib.hid (show MAt (wr.drewN nq) b s j from HI.out.1)
      have HKj := Lib.hid (show KB w (wr.drewN nq) b from HI.out.2.1)
      clear HI HM0 HC HT
      generalize wr.drewN nq = w1 at *
      have c0 := HMj.out.cell0
      have c1 := HMj.out.cell1
      by_cases hjk : j = k
      · subst hjk
        have HN := Lib.hid (show tokGo s j = none by rw [tokGo, if_pos HE.out])
        have hne : ((j : Int) == (j : Int)) = true := beq_self_eq_true _
        clear HE
        go_wp2
        refine ⟨rfl, ?_⟩
        rw [HN.out]
        exact ⟨HKj.out, rfl⟩
      · have HX := Lib.hid (show tokGo s k = (betP s j).map fun e => (s.extract k j, e) by rw [tokGo, if_neg (by rw [HE.out]; exact hjk), HE.out])
        have hne : ((j : Int) == (k : Int)) = false := beq_eq_false_iff_ne.2 (by omega)
        have hk0 : (0 : Int) ≤ (k : Int) := by omega
        have hk1 : (k : Int) ≤ (j : Int) := by omega
        have hj2 : (j : Int) ≤ (s.size : Int) := by have := HL.out; omega
        clear HL
        go_wp2_with (fail)
        go_quiet (fail)
        have HB := Lib.hid (between_walk b s j (w1.drewN nq) HMj.out hs)
        have HKd := Lib.hid (show KB w (w1.drewN nq) b from HKj.out)
        go_wp2_with (fail)
        refine HB.out.mono ?_
        rintro e w2 ⟨hk2, he⟩
        have HK2 := Lib.hid (KB.trans HKd.out hk2)
        clear hk2
        cases hr : betGo (s.size + 1 - j) s j with
        | none =>
          rw [hr] at he
          obtain rfl : e = .panicked wrongs := he
          have HE3 := Lib.hid (HX.out.trans (by rw [show betP s j = none from hr, Option.map_none]))
          clear hr HB
          go_wp2
          refine ⟨rfl, ?_⟩
          rw [HE3.out]
          exact ⟨HK2.out, rfl⟩
        | some m =>
          rw [hr] at he
          obtain ⟨rfl, hm2⟩ : e = .returned (.tuple #[]) ∧ MAt w2 b s m := he
          have HE3 := Lib.hid (HX.out.trans (show _ = some (s.extract k j, m) by rw [show betP s j = some m from hr, Option.map_some]))
          have HM2 := Lib.hid hm2
          clear hr HB hm2
          go_wp2
          go_ret
          rw [HE3.out]
          exact ⟨HK2.out, rfl, HM2.out⟩
end Go.Proofs.Ytodidfdfbanliaa.PAll
set_option linter.unusedVariables false
set_option linter.unusedSimpArgs false
namespace Go.Proofs.Ytodidfdfbanliaa.PAll
open Go.RowKit Go.Proofs.YtodidfdfbanliaaW.PrintWords
theorem bld_kept {B bb : Nat} {bs : List Value} {w w' : World} (h : Lib.IsBuilderF 98 5 B bb bs w) (hk : ∀ i, B ≤ i → i < w.heap.size → w'.heap[i]? = w.heap[i]?) : Lib.IsBuilderF 98 5 B bb bs w' := by
  have key : ∀ p, Lib.BuilderAtF 98 5 B bb p bs w → Lib.BuilderAtF 98 5 B bb p bs w' := by
    rintro p ⟨hB, v, hbk, hown, hne⟩
    refine ⟨hB, v, (hk bb hB (blk_lt hbk)).trans hbk, ⟨hown.1, ?_⟩, hne⟩
    rcases hown.2 with h | ⟨g, cap, cur, fz, hv, hb, hg, r⟩
    · exact .inl h
    · exact .inr ⟨g, cap, cur, fz, hv, hb, (hk g hb (blk_lt hg)).trans hg, r⟩
  rcases h with h | h
  · exact .inl (key _ h)
  · exact .inr (key _ h)
theorem bld_keepBut {w0 w w' : World} {b bb : Nat} {bs : List Value} (h : Lib.IsBuilderF 98 5 w0.heap.size bb bs w) (hb : b < w0.heap.size) (hk : KB w w' b) : Lib.IsBuilderF 98 5 w0.heap.size bb bs w' :=
  bld_kept h (fun i hB hi => hk.1.2 i hi (by omega) (by simp))
theorem bld_set {w0 w : World} {b bb : Nat} {bs : List Value} (h : Lib.IsBuilderF 98 5 w0.heap.size bb bs w) (hb : b < w0.heap.size) (j : Nat) (u : Value) : Lib.IsBuilderF 98 5 w0.heap.size bb bs (w.setCell ⟨b, j, none⟩ u) :=
  bld_keepBut h hb ((KB.refl w b).set_ j u)
theorem keep_below {w w1 w2 : World} {b : Nat} (h : KB w w1 b) (hb : Below w.heap.size w1 w2) : KB w w2 b :=
  ⟨⟨Nat.le_trans h.1.1 hb.size, fun i hi hn hr => (hb.block i hi).trans (h.1.2 i hi hn hr)⟩, hb.os.trans h.2.1, hb.tape.trans h.2.2.1, hb.output.trans h.2.2.2⟩
theorem MAt.lt {w : World} {b : Nat} {s : ByteArray} {i : Int} (h : MAt w b s i) : b < w.heap.size := blk_lt h
theorem MAt.below {w w1 w2 : World} {b : Nat} {s : ByteArray} {i : Int} (h : MAt w1 b s i) (hb : Below w.heap.size w1 w2) (hl : b < w.heap.size) : MAt w2 b s i := (hb.block b hl).trans h
theorem valGo_tok (s : ByteArray) (k : Nat) (h : ∀ h : k < s.size, s[k] ≠ 34) : valGo s k = tokGo s k := by
  unfold valGo
  by_cases hk : k < s.size
  · rw [dif_pos hk, if_neg (h hk)]
  · rw [dif_neg hk, tokGo, if_pos (tokEnd_end s k (by omega))]
theorem quoGo_step (n : Nat) (s : ByteArray) (j : Nat) (acc : List UInt8) (h : j < s.size) : quoGo (n + 1) s j acc = if s[j] = 34 then (betP s (j + 1)).map fun e => (acc, e) else if s[j] = 92 then (if h2 : j + 1 < s.size then quoGo n s (j + 2) (acc ++ [s[j + 1]]) else none) else quoGo n s (j + 1) (acc ++ [s[j]]) := by rw [quoGo, dif_pos h]
theorem quoGo_stop (n : Nat) (s : ByteArray) (j : Nat) (acc : List UInt8) (h : ¬ j < s.size) : quoGo n s j acc = none := by
  cases n with
  | zero => rfl
  | succ n => rw [quoGo, dif_neg h]
/-- What holds at the head of each round of value's loop. -/
def ValInv (w wr : World) (b : Nat) (s : ByteArray) (k j n : Nat) (acc : List UInt8) : Prop :=
  MAt wr b s j ∧ KB w wr b ∧ Lib.IsBuilderF 98 5 w.heap.size w.heap.size (Lib.byteCells acc) wr ∧ quoGo n s j acc = quoP s (k + 1) ∧ acc.length ≤ j ∧ s.size + 1 ≤ n + j
set_option maxHeartbeats 4000000 in
set_option maxRecDepth 100000 in
theorem value_walk (b : Nat) (s : ByteArray) (k : Nat) (w : World) (hM : MAt w b s k) (hs : s.size ≤ 140737488350000) :
    Calls Try.prog 74 #[.pointer (some ⟨b, 0, none⟩)] w fun e w' => KB w w' b ∧ TokEndP (valGo s k) b s e w' := by
  have HM := Lib.hid hM
  have hbl := hM.lt
  by_cases hk : k < s.size
  · have HC := Lib.hid (fun n => more_true b s k w n hM hk)
    have c0 := hM.cell0
    have c1 := hM.cell1
    have f1 := hM.frozen 1
    have hp0 : (0 : Int) ≤ (k : Int) := by omega
    have hp1 : (k : Int) < (s.size : Int) := by omega
    have hu := u8_ofInt s[k] 34
    clear hM
    by_cases hc : s[k] = 34
    · have t1 : ((s[k].toNat : Int) != 34) = false := by rw [bne_eq_false_iff_eq]; exact hu.2 hc
      have HV := Lib.hid (show valGo s k = (quoP s (k + 1)).map fun r => (⟨r.1.toArray⟩, r.2) by rw [valGo, dif_pos hk, if_pos hc])
      have hw1 : IntKind.i64.wrap ((k : Int) + 1) = (k : Int) + 1 := IntWalk.i64_in _ (by omega)
      clear hu hc
      go_enter Try.func74, Try.ntmps74
      go_wp2_with (fail)
      go_quiet ((go_at_call 73; exact Calls.quiet_of (HC.out _)))
      have HMd := Lib.hid (show MAt (w.drewN nq) b s k from HM.out)
      have HS : Hid ((w.drewN nq).heap.size = w.heap.size) := Lib.hid rfl
      clear c0 c1 f1 HM HC
      have HK1 := Lib.hid (show KB w (w.drewN nq) b from KB.refl w b)
      generalize hwd : w.drewN nq = wd at *
      clear hwd
      have c0 := HMd.out.cell0
      have c1 := HMd.out.cell1
      have f1 := HMd.out.frozen 1
      have hss : (wd.setCell ⟨b, 1, none⟩ (.int .i64 ((k : Int) + 1))).heap.size = w.heap.size := by rw [← HS.out]; simp [World.setCell]
      have ha : ((wd.setCell ⟨b, 1, none⟩ (.int .i64 ((k : Int) + 1))).alloc (.cells #[.pointer none, .slice none 0 0] 98)).heap[b]? = _ := Below.heap_alloc _ _ _ (by rw [hss]; exact hbl)
      have HMa := Lib.hid (show MAt ((wd.setCell ⟨b, 1, none⟩ (.int .i64 ((k : Int) + 1))).alloc (.cells #[.pointer none, .slice none 0 0] 98)) b s (k + 1 : Nat) from ha.trans (HMd.out.set _))
      have HKa := Lib.hid (KB.alloc (HK1.out.set_ 1 (.int .i64 ((k : Int) + 1))) (.cells #[.pointer none, .slice none 0 0] 98))
      have HBa : Hid (Lib.IsBuilderF 98 5 w.heap.size w.heap.size (Lib.byteCells []) ((wd.setCell ⟨b, 1, none⟩ (.int .i64 ((k : Int) + 1))).alloc (.cells #[.pointer none, .slice none 0 0] 98))) := Lib.hid (by have := Lib.IsBuilderF.of (Lib.fresh_isBuilder 98 5 (wd.setCell ⟨b, 1, none⟩ (.int .i64 ((k : Int) + 1)))); rw [hss] at this; exact this)
      have hsz := HS.out
      clear ha hss
      go_wp2_with (fail)
      go_loopw [] (fun wr => ∃ (j n : Nat) (acc : List UInt8), Hid (ValInv w wr b s k j n acc)) (fun wr => s.size + 2 - (intOf ((wr.cell? ⟨b, 1, none⟩).getD undef)).toNat)
      case atStart => exact ⟨k + 1, s.size + 1 - (k + 1), [], Lib.hid ⟨HMa.out, HKa.out, HBa.out, rfl, by simp, by omega⟩⟩
      case round =>
        obtain ⟨j, n, acc, HI⟩ := hrel
        clear HMa HKa HBa HMd HK1 HS c0 c1 f1 hsz
        have HM0 := Lib.hid HI.out.1.cell1
        have HC := Lib.hid (more_calls b s j wr HI.out.1)
        have HM1 := Lib.hid (fun nd => show MAt (wr.drewN nd) b s j from HI.out.1)
        have HK1 := Lib.hid (fun nd => show KB w (wr.drewN nd) b from HI.out.2.1)
        have HB1 := Lib.hid (fun nd => bld_kept (w' := wr.drewN nd) HI.out.2.2.1 (fun _ _ _ => rfl))
        have HLA := Lib.hid HI.out.2.2.2.2
        by_cases hj : j < s.size
        · obtain ⟨m, rfl⟩ : ∃ m, n = m + 1 := ⟨n - 1, by have := HI.out.2.2.2.2.2; omega⟩
          have td : decide ((j : Int) < (s.size : Int)) = true := decide_eq_true (by omega)
          have HQ := Lib.hid (HI.out.2.2.2.1.symm.trans (quoGo_step m s j acc hj))
          clear HI
          go_wp2_with (fail)
          refine HC.out.mono ?_
          rintro e w1 ⟨rfl, ⟨nd, rfl⟩⟩
          rw [td]
          clear HC td
          have HM2 := Lib.hid (HM1.out nd)
          have HK2 := Lib.hid (HK1.out nd)
          have HB2 := Lib.hid (HB1.out nd)
          clear HM1 HK1 HB1
          generalize wr.drewN nd = w0 at *
          have c0 := HM2.out.cell0
          have c1 := HM2.out.cell1
          have hj0 : (0 : Int) ≤ (j : Int) := by omega
          have hj1 : (j : Int) < (s.size : Int) := by omega
          go_wp2_with (fail)
          go_quiet (fail)
          replace HM2 := Lib.hid (show MAt (w0.drewN nq) b s j from HM2.out)
          replace HK2 := Lib.hid (show KB w (w0.drewN nq) b from HK2.out)
          replace HB2 := Lib.hid (bld_kept (w' := w0.drewN nq) HB2.out (fun _ _ _ => rfl))
          clear c0 c1
          generalize w0.drewN nq = w1 at *
          have c0 := HM2.out.cell0
          have c1 := HM2.out.cell1
          have f1 := HM2.out.frozen 1
          have hw2 : IntKind.i64.wrap ((j : Int) + 1) = (j : Int) + 1 := IntWalk.i64_in _ (by omega)
          have hu34 := u8_ofInt s[j] 34
          have hu92 := u8_ofInt s[j] 92
          have HN := Lib.hid (HM2.out.set ((j : Int) + 1))
          have HKN := Lib.hid (HK2.out.set_ 1 (.int .i64 ((j : Int) + 1)))
          have HBN := Lib.hid (bld_set HB2.out hbl 1 (.int .i64 ((j : Int) + 1)))
          by_cases q34 : s[j] = 34
          · have t34 : ((s[j].toNat : Int) == 34) = true := beq_iff_eq.2 (hu34.2 q34)
            have HQ2 := Lib.hid (HQ.out.trans (if_pos q34))
            have HBW := Lib.hid (between_walk b s (j + 1) _ HN.out (by omega))
            clear q34 hu34 hu92 HQ
            generalize (s[j].toNat : Int) = x at *
            go_wp2_with (fail)
            refine HBW.out.mono ?_
            rintro e w3 ⟨hk3, he⟩
            have HB3 := Lib.hid (bld_keepBut HBN.out hbl hk3)
            have HK3 := Lib.hid (KB.trans HKN.out hk3)
            clear hk3
            cases hr : betGo (s.size + 1 - (j + 1)) s (j + 1) with
            | none =>
              rw [hr] at he
              obtain rfl : e = .panicked wrongs := he
              have HE3 := Lib.hid (show valGo s k = none by rw [HV.out, HQ2.out, show betP s (j + 1) = none from hr]; rfl)
              clear hr HBW
              go_wp2
              refine ⟨rfl, ?_⟩
              rw [HE3.out]
              exact ⟨HK3.out, rfl⟩
            | some m2 =>
              rw [hr] at he
              obtain ⟨rfl, hm2⟩ : e = .returned (.tuple #[]) ∧ MAt w3 b s m2 := he
              have HE3 := Lib.hid (show valGo s k = some (⟨acc.toArray⟩, m2) by rw [HV.out, HQ2.out, show betP s (j + 1) = some m2 from hr]; rfl)
              have HM3 := Lib.hid hm2
              clear hr HBW hm2
              go_wp2_with (fail)
              refine (Try.Builder_String_any_k w.heap.size w.heap.size acc w3 HB3.out HK3.out.1.1).mono ?_
              rintro e w4 ⟨rfl, _, b4, _⟩
              have HX := Lib.hid (show KB w w4 b ∧ MAt w4 b s m2 from ⟨keep_below HK3.out b4, HM3.out.below b4 hbl⟩)
              clear b4
              go_wp2
              go_ret
              rw [HE3.out]
              exact ⟨HX.out.1, rfl, HX.out.2⟩
          · have t34 : ((s[j].toNat : Int) == 34) = false := beq_eq_false_iff_ne.2 (fun h => q34 (hu34.1 h))
            have HQ2 := Lib.hid (HQ.out.trans (if_neg q34))
            clear q34 hu34 HQ
            by_cases q92 : s[j] = 92
            · have t92 : ((s[j].toNat : Int) == 92) = true := beq_iff_eq.2 (hu92.2 q92)
              have HQ3 := Lib.hid (HQ2.out.trans (if_pos q92))
              clear q92 hu92 HQ2 HB2 HK2
              generalize (s[j].toNat : Int) = x at *
              by_cases hj2 : j + 1 < s.size
              · have HC2 := Lib.hid (more_calls b s ((j : Int) + 1) _ HN.out)
                have td : decide ((j : Int) + 1 < (s.size : Int)) = true := decide_eq_true (by omega)
                have HQ4 := Lib.hid (HQ3.out.trans (dif_pos hj2))
                clear HQ3
                go_wp2_with (fail)
                refine HC2.out.mono ?_
                rintro e w2 ⟨rfl, ⟨nd2, rfl⟩⟩
                rw [td]
                clear HC2 td
                generalize hwy : w1.setCell ⟨b, 1, none⟩ (.int .i64 ((j : Int) + 1)) = wy at *
                clear hwy c0 c1 f1 HM2
                replace HN := Lib.hid (show MAt (wy.drewN nd2) b s ((j : Int) + 1) from HN.out)
                replace HKN := Lib.hid (show KB w (wy.drewN nd2) b from HKN.out)
                replace HBN := Lib.hid (bld_kept (w' := wy.drewN nd2) HBN.out (fun _ _ _ => rfl))
                generalize wy.drewN nd2 = wz at *
                have c0 := HN.out.cell0
                have c1 := HN.out.cell1
                have hj20 : (0 : Int) ≤ (j : Int) + 1 := by omega
                have hj21 : (j : Int) + 1 < (s.size : Int) := by omega
                go_wp2_with (fail)
                go_quiet (fail)
                have HM3 := Lib.hid (show MAt (wz.drewN nq) b s ((j : Int) + 1) from HN.out)
                have HK3 := Lib.hid (show KB w (wz.drewN nq) b from HKN.out)
                have HB3 := Lib.hid (bld_kept (w' := wz.drewN nq) HBN.out (fun _ _ _ => rfl))
                clear HN HKN HBN c0 c1
                generalize wz.drewN nq = w2 at *
                have HS := Lib.hid (byteCells_snoc acc s[j + 1] _ rfl)
                have hw3 : IntKind.i64.wrap ((j : Int) + 1 + 1) = (j : Int) + 1 + 1 := IntWalk.i64_in _ (by omega)
                generalize (s[j + 1].toNat : Int) = y at *
                go_wp2_with (fail)
                refine (writeByte_k w.heap.size w.heap.size _ y _ HB3.out (by rw [Lib.byteCells_length]; have := HLA.out; omega) HK3.out.1.1).mono ?_
                rintro e w3 ⟨rfl, h2, b2, _⟩
                have HM4 := Lib.hid (HM3.out.below b2 hbl)
                have HB4 := Lib.hid (bld_set (.inr h2) hbl 1 (.int .i64 ((j : Int) + 1 + 1)))
                have HK4 := Lib.hid ((keep_below HK3.out b2).set_ 1 (.int .i64 ((j : Int) + 1 + 1)))
                clear b2 h2
                have c1 := HM4.out.cell1
                have f1 := HM4.out.frozen 1
                have HMe := Lib.hid (HM4.out.set ((j : Int) + 1 + 1))
                go_wp2
                go_roundw
                case rel => exact ⟨j + 2, m, acc ++ [s[j + 1]], Lib.hid ⟨HMe.out, HK4.out, by rw [HS.out]; exact HB4.out, HQ4.out.symm, by simp; have := HLA.out; omega, by have := HLA.out; omega⟩⟩
                case measure => simp [intOf, HM0.out, c1, go_sem]; omega
              · have HC2 := Lib.hid (more_calls b s ((j : Int) + 1) _ HN.out)
                have td : decide ((j : Int) + 1 < (s.size : Int)) = false := decide_eq_false (by omega)
                have HV2 := Lib.hid (show valGo s k = none by rw [HV.out, HQ3.out, dif_neg hj2]; rfl)
                clear HQ3
                go_wp2_with (fail)
                refine HC2.out.mono ?_
                rintro e w2 ⟨rfl, ⟨nd2, rfl⟩⟩
                rw [td]
                have HKP := Lib.hid (show KB w ((w1.setCell ⟨b, 1, none⟩ (.int .i64 ((j : Int) + 1))).drewN nd2) b from HKN.out)
                clear HC2 td
                go_wp2
                refine ⟨rfl, ?_⟩
                rw [HV2.out]
                exact ⟨HKP.out, rfl⟩
            · have t92 : ((s[j].toNat : Int) == 92) = false := beq_eq_false_iff_ne.2 (fun h => q92 (hu92.1 h))
              have HQ3 := Lib.hid (HQ2.out.trans (if_neg q92))
              have HS := Lib.hid (byteCells_snoc acc s[j] _ rfl)
              clear q92 hu92 HQ2 HN HKN HBN
              generalize (s[j].toNat : Int) = x at *
              go_wp2_with (fail)
              refine (writeByte_k w.heap.size w.heap.size _ x _ HB2.out (by rw [Lib.byteCells_length]; have := HLA.out; omega) HK2.out.1.1).mono ?_
              rintro e w2 ⟨rfl, h2, b2, _⟩
              have HM3 := Lib.hid (HM2.out.below b2 hbl)
              have HB3 := Lib.hid (bld_set (.inr h2) hbl 1 (.int .i64 ((j : Int) + 1)))
              have HK3 := Lib.hid ((keep_below HK2.out b2).set_ 1 (.int .i64 ((j : Int) + 1)))
              clear b2 h2 c0 c1 f1
              have c1 := HM3.out.cell1
              have f1 := HM3.out.frozen 1
              go_wp2
              go_roundw
              case rel => exact ⟨j + 1, m, acc ++ [s[j]], Lib.hid ⟨HM3.out.set _, HK3.out, by rw [HS.out]; exact HB3.out, HQ3.out.symm, by simp; have := HLA.out; omega, by have := HLA.out; omega⟩⟩
              case measure => simp [intOf, HM0.out, c1, go_sem]; omega
        · have td : decide ((j : Int) < (s.size : Int)) = false := decide_eq_false (by omega)
          have HV2 := Lib.hid (show valGo s k = none by rw [HV.out, ← HI.out.2.2.2.1, quoGo_stop _ _ _ _ hj]; rfl)
          clear HI
          go_wp2_with (fail)
          refine HC.out.mono ?_
          rintro e w1 ⟨rfl, ⟨nd, rfl⟩⟩
          rw [td]
          have HKP := Lib.hid (HK1.out nd)
          clear HC td HM1 HK1 HB1
          go_wp2
          refine ⟨rfl, ?_⟩
          rw [HV2.out]
          exact ⟨HKP.out, rfl⟩
    · have t1 : ((s[k].toNat : Int) != 34) = true := by rw [bne_iff_ne]; exact fun h => hc (hu.1 h)
      have HV := Lib.hid (valGo_tok s k (fun _ => hc))
      clear hu hc
      go_enter Try.func74, Try.ntmps74
      go_wp2_with (fail)
      go_quiet ((go_at_call 73; exact Calls.quiet_of (HC.out _)))
      clear c0 c1 f1
      have HT := Lib.hid (token_walk b s k (w.drewN nq) HM.out (by omega))
      go_wp2_with (fail)
      refine HT.out.mono ?_
      rintro e w2 ⟨hk2, he⟩
      have HK2 := Lib.hid (KB.trans (show KB w (w.drewN nq) b from KB.refl w b) hk2)
      clear hk2
      cases hr : tokGo s k with
      | none =>
        rw [hr] at he
        obtain rfl : e = .panicked wrongs := he
        have HE3 := Lib.hid (HV.out.trans hr)
        clear hr HT
        go_wp2
        refine ⟨rfl, ?_⟩
        rw [HE3.out]
        exact ⟨HK2.out, rfl⟩
      | some m =>
        rw [hr] at he
        obtain ⟨rfl, hm2⟩ : e = .returned (.string m.1) ∧ MAt w2 b s m.2 := he
        have HE3 := Lib.hid (HV.out.trans hr)
        have HM2 := Lib.hid hm2
        clear hr HT hm2
        go_wp2
        go_ret
        rw [HE3.out]
        exact ⟨HK2.out, rfl, HM2.out⟩
  · have HC := Lib.hid (fun n => more_false b s k w n hM hk)
    have HV := Lib.hid (valGo_tok s k (fun h => absurd h hk))
    clear hM hk
    go_enter Try.func74, Try.ntmps74
    go_wp2_with (fail)
    go_quiet ((go_at_call 73; exact Calls.quiet_of (HC.out _)))
    have HT := Lib.hid (token_walk b s k (w.drewN nq) HM.out (by omega))
    go_wp2_with (fail)
    refine HT.out.mono ?_
    rintro e w2 ⟨hk2, he⟩
    have HK2 := Lib.hid (KB.trans (show KB w (w.drewN nq) b from KB.refl w b) hk2)
    clear hk2
    cases hr : tokGo s k with
    | none =>
      rw [hr] at he
      obtain rfl : e = .panicked wrongs := he
      have HE3 := Lib.hid (HV.out.trans hr)
      clear hr HT
      go_wp2
      refine ⟨rfl, ?_⟩
      rw [HE3.out]
      exact ⟨HK2.out, rfl⟩
    | some m =>
      rw [hr] at he
      obtain ⟨rfl, hm2⟩ : e = .returned (.string m.1) ∧ MAt w2 b s m.2 := he
      have HE3 := Lib.hid (HV.out.trans hr)
      have HM2 := Lib.hid hm2
      clear hr HT hm2
      go_wp2
      go_ret
      rw [HE3.out]
      exact ⟨HK2.out, rfl, HM2.out⟩
end Go.Proofs.Ytodidfdfbanliaa.PAll
set_option linter.unusedVariables false
set_option linter.unusedSimpArgs false
namespace Go.Proofs.Ytodidfdfbanliaa.PAll
open Go.RowKit Go.Proofs.YtodidfdfbanliaaW.PrintWords Go.Proofs.YtodidfdfbanliaaW.PrintLast Go.Proofs.YtodidfdfbanliaaW.PrintMore
/-- All that was there when w0 stood, but the reader's block b and the type's block t, is as it was. -/
def TyFrame (w0 w : World) (b t : Nat) : Prop := w0.heap.size ≤ w.heap.size ∧ (∀ i, i < w0.heap.size → i ≠ b → i ≠ t → w.heap[i]? = w0.heap[i]?) ∧ SameO w0 w
/-- The reader at b goes through s and stands at k; the type at t holds m, u and fs. -/
def TyAt (w0 w : World) (b t : Nat) (s : ByteArray) (k : Nat) (m u : ByteArray) (v : Value) (fs : List S42) : Prop :=
  MAt w b s k ∧ w.heap[t]? = some (.cells #[.string m, .string u, v] 57 (0, 0)) ∧ OwnF w w0.heap.size v fs ∧ TyFrame w0 w b t
section
variable {w0 w w' : World} {b t : Nat} {s : ByteArray} {k : Nat} {m u : ByteArray} {v : Value} {fs : List S42}
theorem TyAt.frame (h : TyAt w0 w b t s k m u v fs) : TyFrame w0 w b t := h.2.2.2
theorem TyFrame.keepBut (h : TyFrame w0 w b t) (hk : KB w w' b) : TyFrame w0 w' b t :=
  ⟨Nat.le_trans h.1 hk.1.1, fun i hi hb ht => (hk.1.2 i (Nat.lt_of_lt_of_le hi h.1) hb (by simp)).trans (h.2.1 i hi hb ht), hk.2.1.trans h.2.2.1, hk.2.2.1.trans h.2.2.2.1, hk.2.2.2.trans h.2.2.2.2⟩
theorem TyFrame.below (h : TyFrame w0 w b t) (hk : Below w.heap.size w w') : TyFrame w0 w' b t := h.keepBut (KB.of_below hk b)
theorem TyAt.own_ge (h : TyAt w0 w b t s k m u v fs) {i : Nat} (hi : i < w0.heap.size) : v.ownBlock ≠ some i := fun e => by have := (h.2.2.1.lt i e).1; omega
theorem TyAt.keepBut (h : TyAt w0 w b t s k m u v fs) (hbt : t ≠ b) (hb : b < w0.heap.size) (hk : KB w w' b) {j : Nat} (hm : MAt w' b s j) : TyAt w0 w' b t s j m u v fs :=
  ⟨hm, hk.1.blk h.2.1 hbt (by simp), hk.1.own h.2.2.1 (h.own_ge hb) (by cases hv : v.ownBlock with | none => exact .inl rfl | some _ => exact .inr (by simp)), h.frame.keepBut hk⟩
theorem TyAt.below (h : TyAt w0 w b t s k m u v fs) (hb : Below w.heap.size w w') : TyAt w0 w' b t s k m u v fs :=
  ⟨(hb.block b h.1.lt).trans h.1, (hb.block t (blk_lt h.2.1)).trans h.2.1, h.2.2.1.below hb, h.frame.below hb⟩
theorem TyAt.drewN (h : TyAt w0 w b t s k m u v fs) (n : Nat) : TyAt w0 (w.drewN n) b t s k m u v fs := ⟨h.1, h.2.1, h.2.2.1, h.2.2.2⟩
theorem TyAt.drew (h : TyAt w0 w b t s k m u v fs) : TyAt w0 w.drew b t s k m u v fs := ⟨h.1, h.2.1, h.2.2.1, h.2.2.2⟩
theorem TyAt.cell (h : TyAt w0 w b t s k m u v fs) : w.cell? ⟨t, 0, none⟩ = some (.string m) ∧ w.cell? ⟨t, 1, none⟩ = some (.string u) ∧ w.cell? ⟨t, 2, none⟩ = some v := by
  refine ⟨?_, ?_, ?_⟩ <;> simp [World.cell?, h.2.1]
theorem TyAt.frozen (h : TyAt w0 w b t s k m u v fs) (j : Nat) : w.frozen? ⟨t, j, none⟩ = false := by simp [World.frozen?, h.2.1]
theorem TyFrame.set (h : TyFrame w0 w b t) (j : Nat) (x : Value) : TyFrame w0 (w.setCell ⟨t, j, none⟩ x) b t :=
  ⟨by simpa [World.setCell] using h.1, fun i hi hb ht => (Below.heap_setCell _ _ _ _ (fun e => ht e)).trans (h.2.1 i hi hb ht), h.2.2⟩
theorem TyAt.setMain (h : TyAt w0 w b t s k m u v fs) (hbt : t ≠ b) (ht : t < w0.heap.size) (x : ByteArray) : TyAt w0 (w.setCell ⟨t, 0, none⟩ (.string x)) b t s k x u v fs := by
  refine ⟨(Below.heap_setCell _ _ _ _ (fun e => hbt e.symm)).trans h.1, ?_, h.2.2.1.setOther (h.own_ge ht) 0 _, h.frame.set _ _⟩
  simp [World.setCell, Array.getElem?_modify, h.2.1]
theorem TyAt.setSub (h : TyAt w0 w b t s k m u v fs) (hbt : t ≠ b) (ht : t < w0.heap.size) (x : ByteArray) : TyAt w0 (w.setCell ⟨t, 1, none⟩ (.string x)) b t s k m x v fs := by
  refine ⟨(Below.heap_setCell _ _ _ _ (fun e => hbt e.symm)).trans h.1, ?_, h.2.2.1.setOther (h.own_ge ht) 1 _, h.frame.set _ _⟩
  simp [World.setCell, Array.getElem?_modify, h.2.1]
theorem cell_alloc {p : Addr} {x : Value} {o : Obj} (h : w.cell? p = some x) : (w.alloc o).cell? p = some x :=
  pw_cell_below (w := w) ((Below.refl _ w).alloc (Nat.le_refl _) o) h
theorem OwnF.alloc (h : OwnF w w0.heap.size v fs) (o : Obj) : (w.alloc o).ownsRow w0.heap.size 42 2 v fs.length (fcells fs) :=
  pw_own_below h ((Below.refl _ w).alloc (Nat.le_refl _) o)
/-- What stands behind the append and the store. -/
theorem TyAt.app {w1 : World} {o : Obj} {f : S42} {g cap : Nat} (h : TyAt w0 w b t s k m u v fs) (hbt : t ≠ b) (hb : b < w0.heap.size) (ht : t < w0.heap.size) (hg : (w.alloc o).grownBy w1 v.ownBlock) (hown : w1.ownsRow w0.heap.size 42 2 (.slice (some ⟨g, 0, none⟩) (fs.length + 1) cap) (fs.length + 1) (fcells fs ++ [.string f.f0, .string f.f1])) :
    w1.heap[t]? = some (.cells #[.string m, .string u, v] 57 (0, 0)) ∧ TyAt w0 (w1.setCell ⟨t, 2, none⟩ (.slice (some ⟨g, 0, none⟩) (fs.length + 1) cap)) b t s k m u (.slice (some ⟨g, 0, none⟩) (fs.length + 1) cap) (fs ++ [f]) := by
  have hB0 : Below w.heap.size w (w.alloc o) := (Below.refl _ w).alloc (Nat.le_refl _) o
  have hsz : w0.heap.size ≤ w.heap.size := h.frame.1
  have old : ∀ i, i < w0.heap.size → w1.heap[i]? = w.heap[i]? := fun i hi => by
    rw [hg.block i (Nat.lt_of_lt_of_le (Nat.lt_of_lt_of_le hi hsz) hB0.size) (fun e => h.own_ge hi e.symm), hB0.block i (Nat.lt_of_lt_of_le hi hsz)]
  have hO : OwnF w1 w0.heap.size (.slice (some ⟨g, 0, none⟩) (fs.length + 1) cap) (fs ++ [f]) := by
    unfold OwnF; rw [fcells_snoc, List.length_append]; exact hown
  have hne : (Value.slice (some ⟨g, 0, none⟩) (fs.length + 1) cap).ownBlock ≠ some t := fun e => by have := (hO.lt t e).1; omega
  have hblk := (old t ht).trans h.2.1
  refine ⟨hblk, (Below.heap_setCell _ _ _ _ (fun e => hbt e.symm)).trans ((old b hb).trans h.1), ?_, hO.setOther hne 2 _, ?_⟩
  · simp [World.setCell, Array.getElem?_modify, hblk]
  · refine TyFrame.set ⟨Nat.le_trans hsz (Nat.le_trans hB0.size hg.size), fun i hi hb ht => (old i hi).trans (h.frame.2.1 i hi hb ht), hg.os.trans (hB0.os.trans h.frame.2.2.1), hg.tape.trans (hB0.tape.trans h.frame.2.2.2.1), hg.output.trans (hB0.output.trans h.frame.2.2.2.2)⟩ _ _
end
theorem between_p (b : Nat) (s : ByteArray) (i : Nat) (w : World) (hM : MAt w b s i) (hs : s.size ≤ 9223372036854775000) :
    Calls Try.prog 70 #[.pointer (some ⟨b, 0, none⟩)] w fun e w' => KB w w' b ∧ CmtEnd (betP s i) b s e w' := between_walk b s i w hM hs
/-- How Type's function value leaves. -/
def TyEnd (w0 : World) (b t : Nat) (s : ByteArray) (e : Ending) (w' : World) : Prop :=
  match typeGo s with
  | some r => e = .returned (.tuple #[]) ∧ ∃ k v, TyAt w0 w' b t s k r.1 r.2.1 v r.2.2
  | none => e = .panicked wrongs ∧ TyFrame w0 w' b t
theorem TyEnd.bad {w0 w' : World} {b t : Nat} {s : ByteArray} {e : Ending} (h : typeGo s = none) (hf : TyFrame w0 w' b t) (he : e = .panicked wrongs) : TyEnd w0 b t s e w' := by
  unfold TyEnd; rw [h]; exact ⟨he, hf⟩
theorem TyEnd.good {w0 w' : World} {b t k : Nat} {s m u : ByteArray} {v : Value} {fs : List S42} {e : Ending} (h : typeGo s = some (m, u, fs)) (hf : TyAt w0 w' b t s k m u v fs) (he : e = .returned (.tuple #[])) : TyEnd w0 b t s e w' := by
  unfold TyEnd; rw [h]; exact ⟨he, k, v, hf⟩
theorem tokGo_size {s : ByteArray} {k : Nat} {r : ByteArray × Nat} (h : tokGo s k = some r) : r.1.size ≤ s.size := by
  unfold tokGo at h
  split at h
  · cases h
  · obtain ⟨j, hj, rfl⟩ := Option.map_eq_some_iff.1 h
    simp; omega
theorem lower_calls (x : ByteArray) (h : x.size < 140737488355328) (w : World) : Calls Try.prog 43 #[.string x] w fun e w' => e = .returned (.string (lowB x)) ∧ Below w.heap.size w w' :=
  mimetype_Lower.calls x _ w (by unfold mimetype_Lower.f; rw [if_pos h])
section
variable {P : Program} {ops : Array Oper} {Q : Exit → Act → World → Prop}
/-- A call of a Go function that may panic, by its contract. -/
theorem goesP_ {oi : Oper} {N : Option Tmp} {a : Act} {w : World} {K : Act → World → Prop} {f : FuncId} {fn : Func} {as_ : Array Operand} {ts : Array TypeId} (hf : P.funcs[f]? = some fn) (hname : (fn.name == "runtime.NumGoroutine") = false) (hb : fn.body.isSome = true) (args : Array Value)
    (hw : Region.wanted oi (yielded ops a.tmps) = true) (hN : oi.dst = N) (hop : oi.op = .call { callee := .value (.func f), args := as_, argTypes := ts }) (hargs : as_.map a.eval = args)
    (h : Calls P f args w fun e w' => (∃ v, e = .returned v ∧ K (a.put N v) w') ∨ (∃ c, e = .panicked c ∧ Q (.panic c) a w')) : if Region.wanted oi (yielded ops a.tmps) = true then Oper.wp P oi a w K Q else K (a.put N undef) w := by
  rw [if_pos hw]
  subst hN
  have he := enters_ hf hname hb args w
  have hrun : (execOp a.eval oi).run P w = .ok (.enter f args) w := by
    unfold execOp
    simp [hop, resolve, Deferred.ofValue, invoke, Act.eval, hargs, he]
  unfold Oper.wp
  rw [hrun, Oper.upon_enter]
  refine h.mono fun e w'' hh => ?_
  rcases hh with ⟨v, rfl, hk⟩ | ⟨c, rfl, hk⟩
  · exact hk
  · exact hk
end
set_option maxHeartbeats 4000000 in
set_option maxRecDepth 100000 in
theorem type1_walk (b t : Nat) (s : ByteArray) (w : World) (hM : MAt w b s 0) (hT : w.heap[t]? = some (.cells #[.string ⟨#[]⟩, .string ⟨#[]⟩, .slice none 0 0] 57 (0, 0))) (hbt : t ≠ b) (hs : s.size ≤ 4398046511104) :
    Calls Try.prog 69 #[.pointer (some ⟨b, 0, none⟩), .pointer (some ⟨t, 0, none⟩)] w (TyEnd w b t s) := by
  obtain ⟨i0, hi, hz0, hz1, hz2⟩ := info_parts info42
  have HT : Hid (TyAt w w b t s (0 : Nat) ⟨#[]⟩ ⟨#[]⟩ (.slice none 0 0) []) := Lib.hid ⟨hM, hT, OwnF.nil _ _, Nat.le_refl _, fun _ _ _ _ => rfl, rfl, rfl, rfl⟩
  have hbl : b < w.heap.size := hM.lt
  have htl : t < w.heap.size := blk_lt hT
  have HV : Hid (typeGo s = (betP s 0).bind fun a => (tokGo s a).bind fun m => (expGo s m.2 47).bind fun c => (tokGo s c).bind fun u => (parGo (s.size + 1 - u.2) s u.2).map fun r => (lowB m.1, lowB u.1, r)) := Lib.hid rfl
  clear hM hT
  go_enter Try.func69, Try.ntmps69
  go_wp2_with (fail)
  refine (between_p b s 0 _ HT.out.1 (by omega)).mono ?_
  rintro e w2 ⟨hk2, he⟩
  have HK2 := Lib.hid hk2
  clear hk2
  cases hr : betP s 0 with
  | none =>
    rw [show _ = none from hr] at he
    obtain rfl : e = .panicked wrongs := he
    have HE := Lib.hid (show typeGo s = none by rw [HV.out, hr]; rfl)
    have HF := Lib.hid ((TyAt.frame HT.out).keepBut HK2.out)
    clear hr HV HT HK2
    go_wp2
    exact ⟨rfl, TyEnd.bad HE.out HF.out rfl⟩
  | some a =>
    rw [show _ = some a from hr] at he
    obtain ⟨rfl, hm2⟩ : e = .returned (.tuple #[]) ∧ MAt w2 b s a := he
    replace HT := Lib.hid (TyAt.keepBut HT.out hbt hbl HK2.out hm2)
    replace HV := Lib.hid (HV.out.trans (by rw [hr, Option.bind_some]))
    clear HK2 hm2 hr
    go_wp2_with (fail)
    refine (token_walk b s a _ HT.out.1 (by omega)).mono ?_
    rintro e w2 ⟨hk2, he⟩
    have HK2 := Lib.hid hk2
    clear hk2
    cases hr : tokGo s a with
    | none =>
      rw [show _ = none from hr] at he
      obtain rfl : e = .panicked wrongs := he
      have HE := Lib.hid (show typeGo s = none by rw [HV.out, hr]; rfl)
      have HF := Lib.hid ((TyAt.frame HT.out).keepBut HK2.out)
      clear hr HV HT HK2
      go_wp2
      exact ⟨rfl, TyEnd.bad HE.out HF.out rfl⟩
    | some j1 =>
      rw [show _ = some j1 from hr] at he
      obtain ⟨rfl, hm2⟩ : e = .returned (.string j1.1) ∧ MAt w2 b s j1.2 := he
      replace HT := Lib.hid (TyAt.keepBut HT.out hbt hbl HK2.out hm2)
      replace HV := Lib.hid (HV.out.trans (by rw [hr, Option.bind_some]))
      have HJ1 := Lib.hid hr
      clear HK2 hm2 hr
      have HL := Lib.hid (lower_calls j1.1 (by have := tokGo_size HJ1.out; omega))
      go_wp2_with (fail)
      refine (HL.out _).mono ?_
      rintro e w2 ⟨rfl, hb2⟩
      replace HT := Lib.hid (TyAt.below HT.out hb2)
      clear hb2 HL
      have f1 := HT.out.frozen 0
      have c1 := HT.out.cell.1
      replace HT := Lib.hid (HT.out.setMain hbt htl (lowB j1.1))
      go_wp2_with (fail)
      refine (expect_walk b s j1.2 47 _ HT.out.1 (by omega)).mono ?_
      rintro e w2 ⟨hk2, he⟩
      have HK2 := Lib.hid hk2
      clear hk2
      cases hr : expGo s j1.2 47 with
      | none =>
        rw [show _ = none from hr] at he
        obtain rfl : e = .panicked wrongs := he
        have HE := Lib.hid (show typeGo s = none by rw [HV.out, hr]; rfl)
        have HF := Lib.hid ((TyAt.frame HT.out).keepBut HK2.out)
        clear hr HV HT HK2
        go_wp2
        exact ⟨rfl, TyEnd.bad HE.out HF.out rfl⟩
      | some c =>
        rw [show _ = some c from hr] at he
        obtain ⟨rfl, hm2⟩ : e = .returned (.tuple #[]) ∧ MAt w2 b s c := he
        replace HT := Lib.hid (TyAt.keepBut HT.out hbt hbl HK2.out hm2)
        replace HV := Lib.hid (HV.out.trans (by rw [hr, Option.bind_some]))
        clear HK2 hm2 hr
        go_wp2_with (fail)
        refine (token_walk b s c _ HT.out.1 (by omega)).mono ?_
        rintro e w2 ⟨hk2, he⟩
        have HK2 := Lib.hid hk2
        clear hk2
        cases hr : tokGo s c with
        | none =>
          rw [show _ = none from hr] at he
          obtain rfl : e = .panicked wrongs := he
          have HE := Lib.hid (show typeGo s = none by rw [HV.out, hr]; rfl)
          have HF := Lib.hid ((TyAt.frame HT.out).keepBut HK2.out)
          clear hr HV HT HK2
          go_wp2
          exact ⟨rfl, TyEnd.bad HE.out HF.out rfl⟩
        | some j2 =>
          rw [show _ = some j2 from hr] at he
          obtain ⟨rfl, hm2⟩ : e = .returned (.string j2.1) ∧ MAt w2 b s j2.2 := he
          replace HT := Lib.hid (TyAt.keepBut HT.out hbt hbl HK2.out hm2)
          replace HV := Lib.hid (HV.out.trans (by rw [hr, Option.bind_some]))
          have HJ2 := Lib.hid hr
          clear HK2 hm2 hr
          have HL := Lib.hid (lower_calls j2.1 (by have := tokGo_size HJ2.out; omega))
          go_wp2_with (fail)
          refine (HL.out _).mono ?_
          rintro e w2 ⟨rfl, hb2⟩
          replace HT := Lib.hid (TyAt.below HT.out hb2)
          clear hb2 HL
          have f1 := HT.out.frozen 1
          have c1 := HT.out.cell.2.1
          replace HT := Lib.hid (HT.out.setSub hbt htl (lowB j2.1))
          go_wp2_with (fail)
          replace HV := Lib.hid (HV.out.trans (show _ = (parGo (s.size + 1 - j2.2) s j2.2).map fun r => (lowB j1.1, lowB j2.1, [] ++ r) from rfl))
          clear f1 c1
          generalize lowB j1.1 = m at *
          generalize lowB j2.1 = u at *
          obtain ⟨n0, hn0, hn1⟩ : ∃ n0, s.size + 1 - j2.2 = n0 ∧ s.size + 1 ≤ n0 + j2.2 := ⟨_, rfl, by omega⟩
          rw [hn0] at HV
          clear hn0
          generalize j2.2 = k0 at *
          clear HJ1 HJ2
          go_loopw [] (fun wr => ∃ (k n : Nat) (v : Value) (fs : List S42), fs.length ≤ k ∧ s.size + 1 ≤ n + k ∧ Hid (TyAt w wr b t s k m u v fs) ∧ Hid (typeGo s = (parGo n s k).map fun r => (m, u, fs ++ r))) (fun wr => s.size + 2 - (intOf ((wr.cell? ⟨b, 1, none⟩).getD undef)).toNat)
          case atStart => exact ⟨k0, n0, _, [], by simp, hn1, HT, HV⟩
          case round =>
            clear HT HV hn1
            obtain ⟨k, n, v, fs, hfk, hnk, HT, HV⟩ := hrel
            have HM0 := Lib.hid HT.out.1.cell1
            have HC := Lib.hid (more_calls b s k wr HT.out.1)
            by_cases hk : k < s.size
            · obtain ⟨n, rfl⟩ : ∃ m, n = m + 1 := ⟨n - 1, by omega⟩
              have td : decide ((k : Int) < (s.size : Int)) = true := decide_eq_true (by omega)
              replace HV := Lib.hid (HV.out.trans (show _ = (((expGo s k 59).bind fun c => (tokGo s c).bind fun nm => (expGo s nm.2 61).bind fun f => (valGo s f).bind fun v => (parGo n s v.2).map fun r => ⟨lowB nm.1, v.1⟩ :: r)).map (fun r => (m, u, fs ++ r)) by rw [parGo, if_pos hk]))
              go_wp2_with (fail)
              refine HC.out.mono ?_
              rintro e w1 ⟨rfl, ⟨nd, rfl⟩⟩
              rw [td]
              clear HC td
              replace HT := Lib.hid (HT.out.drewN nd)
              generalize wr.drewN nd = w1 at *
              go_wp2_with (fail)
              refine (expect_walk b s k 59 _ HT.out.1 (by omega)).mono ?_
              rintro e w2 ⟨hk2, he⟩
              have HK2 := Lib.hid hk2
              clear hk2
              cases hr : expGo s k 59 with
              | none =>
                rw [show _ = none from hr] at he
                obtain rfl : e = .panicked wrongs := he
                have HE := Lib.hid (show typeGo s = none by rw [HV.out, hr]; rfl)
                have HF := Lib.hid ((TyAt.frame HT.out).keepBut HK2.out)
                clear hr HV HT HK2
                go_wp2
                exact ⟨rfl, TyEnd.bad HE.out HF.out rfl⟩
              | some c1 =>
                rw [show _ = some c1 from hr] at he
                obtain ⟨rfl, hm2⟩ : e = .returned (.tuple #[]) ∧ MAt w2 b s c1 := he
                replace HT := Lib.hid (TyAt.keepBut HT.out hbt hbl HK2.out hm2)
                replace HV := Lib.hid (HV.out.trans (by rw [hr, Option.bind_some]))
                have hg1 := expGo_gt hr
                clear HK2 hm2 hr
                go_wp2_with (fail)
                refine (token_walk b s c1 _ HT.out.1 (by omega)).mono ?_
                rintro e w2 ⟨hk2, he⟩
                have HK2 := Lib.hid hk2
                clear hk2
                cases hr : tokGo s c1 with
                | none =>
                  rw [show _ = none from hr] at he
                  obtain rfl : e = .panicked wrongs := he
                  have HE := Lib.hid (show typeGo s = none by rw [HV.out, hr]; rfl)
                  have HF := Lib.hid ((TyAt.frame HT.out).keepBut HK2.out)
                  clear hr HV HT HK2
                  go_wp2
                  exact ⟨rfl, TyEnd.bad HE.out HF.out rfl⟩
                | some nm =>
                  rw [show _ = some nm from hr] at he
                  obtain ⟨rfl, hm2⟩ : e = .returned (.string nm.1) ∧ MAt w2 b s nm.2 := he
                  replace HT := Lib.hid (TyAt.keepBut HT.out hbt hbl HK2.out hm2)
                  replace HV := Lib.hid (HV.out.trans (by rw [hr, Option.bind_some]))
                  have hg2 := tokGo_gt hr
                  have HN := Lib.hid hr
                  clear HK2 hm2 hr
                  have HL := Lib.hid (lower_calls nm.1 (by have := tokGo_size HN.out; omega))
                  go_wp2_with (fail)
                  refine (HL.out _).mono ?_
                  rintro e w2 ⟨rfl, hb2⟩
                  replace HT := Lib.hid (TyAt.below HT.out hb2)
                  clear hb2 HL
                  go_wp2_with (fail)
                  refine (expect_walk b s nm.2 61 _ HT.out.1 (by omega)).mono ?_
                  rintro e w2 ⟨hk2, he⟩
                  have HK2 := Lib.hid hk2
                  clear hk2
                  cases hr : expGo s nm.2 61 with
                  | none =>
                    rw [show _ = none from hr] at he
                    obtain rfl : e = .panicked wrongs := he
                    have HE := Lib.hid (show typeGo s = none by rw [HV.out, hr]; rfl)
                    have HF := Lib.hid ((TyAt.frame HT.out).keepBut HK2.out)
                    clear hr HV HT HK2
                    go_wp2
                    exact ⟨rfl, TyEnd.bad HE.out HF.out rfl⟩
                  | some f =>
                    rw [show _ = some f from hr] at he
                    obtain ⟨rfl, hm2⟩ : e = .returned (.tuple #[]) ∧ MAt w2 b s f := he
                    replace HT := Lib.hid (TyAt.keepBut HT.out hbt hbl HK2.out hm2)
                    replace HV := Lib.hid (HV.out.trans (by rw [hr, Option.bind_some]))
                    have hg3 := expGo_gt hr
                    clear HK2 hm2 hr
                    obtain ⟨A, c, rfl⟩ := HT.out.2.2.1.form
                    have HTq := Lib.hid (TyAt.drew HT.out)
                    have HVW := Lib.hid (value_walk b s f w2.drew HTq.out.1 (by omega))
                    have c2 := HT.out.cell.2.2
                    have c2q := HTq.out.cell.2.2
                    have hmx1 : fs.length + 1 ≤ maxLen := by unfold maxLen; omega
                    have hmx2 : (fs.length + 1) * 32 ≤ 140737488355328 := by omega
                    go_wp2_with (fail)
                    refine start_ (n := 9) (S := (fun w' => w'.cell? ⟨t, 2, none⟩ = some (.slice A fs.length c))) (ds := [8]) #[false, false, false, false, false, false, false, false, false] (by kernel_rfl) rfl rfl ?_ (fun hHeld => ?_)
                    · exact c2q
                    refine pure_ (i := 0) (N := some 16) (v := ?_) (a' := ?_) #[true, false, false, false, false, false, false, false, false] rfl rfl (by kernel_rfl) (fun _ _ _ h => h) (Or.inl ⟨by rfl, ?_⟩) ?_ ?_
                    rotate_left
                    · intro w'
                      go_simp
                      with_reducible rfl
                    rotate_left
                    · simp only [Act.put, List.setIfInBounds_toArray, List.set_cons_zero, List.set_cons_succ, i64_w, i32_w]
                      rfl
                    refine take_ (i := 1) (N := some 17) (v := ?_) (a' := ?_) #[true, true, false, false, false, false, false, false, false] rfl rfl (by kernel_rfl) (fun _ _ _ h => h) (Or.inl ⟨by rfl, ?_⟩) hHeld ?_ ?_
                    rotate_left
                    · rintro w' s0
                      go_simp
                      with_reducible rfl
                    rotate_left
                    · simp only [Act.put, List.setIfInBounds_toArray, List.set_cons_zero, List.set_cons_succ, i64_w, i32_w]
                      rfl
                    refine pure_ (i := 2) (N := some 18) (v := ?_) (a' := ?_) #[true, true, true, false, false, false, false, false, false] rfl rfl (by kernel_rfl) (fun _ _ _ h => h) (Or.inl ⟨by rfl, ?_⟩) ?_ ?_
                    rotate_left
                    · intro w'
                      go_simp
                      with_reducible rfl
                    rotate_left
                    · simp only [Act.put, List.setIfInBounds_toArray, List.set_cons_zero, List.set_cons_succ, i64_w, i32_w]
                      rfl
                    refine one_ (i := 3) (N := some 19) #[true, true, true, true, false, false, false, false, false] rfl rfl (by kernel_rfl) (by decide) (fun K hK => ?_)
                    refine goesP_ Try.func74 (by kernel_rfl) rfl #[.pointer (some ⟨b, 0, none⟩)] (by rfl) rfl rfl (by (try simp only [List.map_toArray, List.map_cons, List.map_nil]); first | done | rfl) ?_
                    refine (HVW.out).mono ?_
                    rintro e w2 ⟨hk2, he⟩
                    have HK2 := Lib.hid hk2
                    clear hk2 HVW
                    cases hr : valGo s f with
                    | none =>
                      rw [hr] at he
                      obtain rfl : e = .panicked wrongs := he
                      refine .inr ⟨_, rfl, ?_⟩
                      have HE := Lib.hid (show typeGo s = none by rw [HV.out, hr]; rfl)
                      have HF := Lib.hid ((TyAt.frame HTq.out).keepBut HK2.out)
                      clear hr HV HT HTq HK2 hK
                      go_wp2
                      exact ⟨rfl, TyEnd.bad HE.out HF.out rfl⟩
                    | some j =>
                    rw [hr] at he
                    obtain ⟨rfl, hm2⟩ : e = .returned (.string j.1) ∧ MAt w2 b s j.2 := he
                    refine .inl ⟨_, rfl, ?_⟩
                    have HT2 := Lib.hid (TyAt.keepBut HTq.out hbt hbl HK2.out hm2)
                    have HV2 := Lib.hid (HV.out.trans (by rw [hr, Option.bind_some]))
                    have hj := valGo_gt hr
                    have c2' := HT2.out.cell.2.2
                    have HO2 := Lib.hid HT2.out.2.2.1
                    clear HK2 hm2 hr
                    refine hK.out _ _ c2' (fun hHeld => ?_)
                    clear hK K
                    refine norm_ (a' := ?_) ?_ ?_
                    rotate_left
                    · show Act.put _ (some 19) _ = _
                      simp only [Act.put, List.setIfInBounds_toArray, List.set_cons_zero, List.set_cons_succ, i64_w, i32_w]
                      rfl
                    refine pure_ (i := 4) (N := some 20) (v := ?_) (a' := ?_) #[true, true, true, true, true, false, false, false, false] rfl rfl (by kernel_rfl) (fun _ _ _ h => h) (Or.inl ⟨by rfl, ?_⟩) ?_ ?_
                    rotate_left
                    · intro w'
                      go_simp
                      with_reducible rfl
                    rotate_left
                    · simp only [Act.put, List.setIfInBounds_toArray, List.set_cons_zero, List.set_cons_succ, i64_w, i32_w]
                      rfl
                    refine one_ (i := 5) (N := some 21) #[true, true, true, true, true, true, false, false, false] rfl rfl (by kernel_rfl) (by decide) (fun K hK => ?_)
                    refine value_ (v := ?_) (w1 := ?_) (by rfl) rfl ?_ ?_
                    rotate_left 2
                    · go_simp
                      refine ⟨?_, ?_⟩ <;> rfl
                    refine hK.out _ _ (cell_alloc hHeld) (fun hHeld => ?_)
                    clear hK K
                    refine norm_ (a' := ?_) ?_ ?_
                    rotate_left
                    · show Act.put _ (some 21) _ = _
                      simp only [Act.put, List.setIfInBounds_toArray, List.set_cons_zero, List.set_cons_succ, i64_w, i32_w]
                      rfl
                    refine one_ (i := 6) (N := some 22) #[true, true, true, true, true, true, true, false, false] rfl rfl (by kernel_rfl) (by decide) (fun K hK => ?_)
                    have hbw1 : w.heap.size ≤ (w2.alloc (.cells #[.string (lowB nm.1), .string j.1] 42)).heap.size := by have := HT2.out.frame.1; simp; omega
                    refine step_append_lies _ (by rfl) _ _ _ (by rfl) w.heap.size 42 i0 _ 2 32 Try.underlying23 hi hz0 hz1 hz2 rfl (by decide) _ fs.length (fcells fs) (by rfl) (HO2.out.alloc _) ⟨w2.heap.size, 0, none⟩ 1 1 [.string (lowB nm.1), .string j.1] (by rfl) (by rfl) (World.news_of_block (cs := #[.string (lowB nm.1), .string j.1]) (t := 42) (fr := (0, 0)) (heap_alloc_new w2 _)) (by simp [Value.oneCell']) (by decide) hmx1 hmx2 hbw1 (w2.heap.size + 1) (by simp) ?_
                    intro g cap w3 hown1 hgrow hat hlt
                    have HAP := Lib.hid (TyAt.app (f := ⟨lowB nm.1, j.1⟩) HT2.out hbt hbl htl hgrow hown1)
                    have hfz : w3.frozen? ⟨t, 2, none⟩ = false := by simp [World.frozen?, HAP.out.1]
                    have hc3 : w3.cell? ⟨t, 2, none⟩ = some (.slice A fs.length c) := by simp [World.cell?, HAP.out.1]
                    clear hown1 hgrow hat hlt
                    refine hK.out _ _ hc3 (fun hHeld => ?_)
                    clear hK K
                    refine norm_ (a' := ?_) ?_ ?_
                    rotate_left
                    · show Act.put _ (some 22) _ = _
                      simp only [Act.put, List.setIfInBounds_toArray, List.set_cons_zero, List.set_cons_succ, i64_w, i32_w]
                      rfl
                    refine pure_ (i := 7) (N := some 23) (v := ?_) (a' := ?_) #[true, true, true, true, true, true, true, true, false] rfl rfl (by kernel_rfl) (fun _ _ _ h => h) (Or.inl ⟨by rfl, ?_⟩) ?_ ?_
                    rotate_left
                    · intro w'
                      go_simp
                      with_reducible rfl
                    rotate_left
                    · simp only [Act.put, List.setIfInBounds_toArray, List.set_cons_zero, List.set_cons_succ, i64_w, i32_w]
                      rfl
                    refine last_ (i := 8) (N := none) #[true, true, true, true, true, true, true, true, true] rfl rfl (by kernel_rfl) (by decide) (fun K hK => ?_)
                    refine skip_ (w1 := ?_) (by rfl) rfl ?_ ?_
                    rotate_left
                    · go_simp
                      rfl
                    refine hK.out _ _ ?_
                    clear hK K
                    refine done_ (by kernel_rfl) ?_
                    have HN3 := Lib.hid HAP.out.2
                    clear HAP
                    go_wp2
                    go_roundw
                    case rel => exact ⟨j.2, n, _, fs ++ [⟨lowB nm.1, j.1⟩], by simp; omega, by omega, HN3, Lib.hid (HV2.out.trans (by cases parGo n s j.2 <;> simp))⟩
                    case measure => simp [intOf, HM0.out, HN3.out.1.cell1, go_sem]; omega
            · have td : decide ((k : Int) < (s.size : Int)) = false := decide_eq_false (by omega)
              replace HV := Lib.hid (HV.out.trans (show _ = some (m, u, fs) by
                have e : parGo n s k = some [] := by
                  cases n with
                  | zero => rfl
                  | succ n => rw [parGo, if_neg hk]
                rw [e, Option.map_some, List.append_nil]))
              go_wp2_with (fail)
              refine HC.out.mono ?_
              rintro e w1 ⟨rfl, ⟨nd, rfl⟩⟩
              rw [td]
              clear HC td
              replace HT := Lib.hid (HT.out.drewN nd)
              generalize wr.drewN nd = w1 at *
              go_wp2
              first | go_end0 | refine bodyPost_end (results_none rfl _ _ _) rfl ?_
              exact TyEnd.good HV.out HT.out rfl
end Go.Proofs.Ytodidfdfbanliaa.PAll
set_option linter.unusedVariables false
set_option linter.unusedSimpArgs false
namespace Go.Proofs.Ytodidfdfbanliaa.PAll
open Go.RowKit Go.Proofs.YtodidfdfbanliaaW.PrintWords Go.Proofs.YtodidfdfbanliaaW.PrintLast Go.Proofs.YtodidfdfbanliaaW.PrintMore
theorem ty_heap3 (w : World) (o p q : Obj) : (((w.alloc o).alloc p).alloc q).heap[w.heap.size]? = some o ∧ (((w.alloc o).alloc p).alloc q).heap[w.heap.size + 1]? = some p ∧ (((w.alloc o).alloc p).alloc q).heap[w.heap.size + 1 + 1]? = some q := by
  have hs : ((w.alloc o).alloc p).heap.size = w.heap.size + 1 + 1 := by simp
  have h0 : ((w.alloc o).alloc p).heap[w.heap.size]? = some o := by rw [Below.heap_alloc _ _ _ (by simp)]; exact heap_alloc_new w o
  have h1 : ((w.alloc o).alloc p).heap[w.heap.size + 1]? = some p := by have := heap_alloc_new (w.alloc o) p; simpa using this
  refine ⟨?_, ?_, ?_⟩
  · rw [Below.heap_alloc _ _ _ (by rw [hs]; omega)]; exact h0
  · rw [Below.heap_alloc _ _ _ (by rw [hs]; omega)]; exact h1
  · rw [← hs]; exact heap_alloc_new _ q
theorem ty_below3 (w : World) (o p q : Obj) : Below w.heap.size w (((w.alloc o).alloc p).alloc q) := (((Below.refl _ w).alloc (Nat.le_refl _) o).alloc (by simp) p).alloc (by simp; omega) q
theorem TyFrame.below_ {w0 w w' : World} {b t : Nat} (hb : Below w0.heap.size w0 w) (h : TyFrame w w' b t) (h1 : w0.heap.size ≤ b) (h2 : w0.heap.size ≤ t) : Below w0.heap.size w0 w' :=
  ⟨h.2.2.1.trans hb.os, h.2.2.2.1.trans hb.tape, h.2.2.2.2.trans hb.output, Nat.le_trans hb.size h.1, fun i hi => (h.2.1 i (Nat.lt_of_lt_of_le hi hb.size) (by omega) (by omega)).trans (hb.block i hi)⟩
def typeR (s : ByteArray) : ByteArray × ByteArray × List S42 × Bool := match typeGo s with | some r => (r.1, r.2.1, r.2.2, true) | none => (⟨#[]⟩, ⟨#[]⟩, [], false)
def mimetype_Type.f (a0 : ByteArray) : Option (ByteArray × ByteArray × (List (S42)) × Bool) := if a0.size ≤ 4398046511104 then some (typeR a0) else none
/-- tried over Type's function value. -/
theorem tried_type (b t : Nat) (s : ByteArray) (w : World) (hM : MAt w b s 0) (hT : w.heap[t]? = some (.cells #[.string ⟨#[]⟩, .string ⟨#[]⟩, .slice none 0 0] 57 (0, 0))) (hbt : t ≠ b) (hs : s.size ≤ 4398046511104) :
    Calls Try.prog 68 #[.func (.func 69) #[] #[.pointer (some ⟨b, 0, none⟩), .pointer (some ⟨t, 0, none⟩)]] w fun e w' =>
      match typeGo s with
      | some r => e = .returned (.bool true) ∧ ∃ k v, TyAt w w' b t s k r.1 r.2.1 v r.2.2
      | none => e = .returned (.bool false) ∧ TyFrame w w' b t := by
  have hb0 : Below w.heap.size w (w.alloc (.cells #[.bool false] 4)) := (Below.refl _ w).alloc (Nat.le_refl _) _
  have hsz : (w.alloc (.cells #[.bool false] 4)).heap.size = w.heap.size + 1 := by simp
  have hbl := hM.lt
  have htl := blk_lt hT
  have h1 := type1_walk b t s (w.alloc (.cells #[.bool false] 4)) ((hb0.block b hbl).trans hM) ((hb0.block t htl).trans hT) hbt hs
  have hfr : ∀ w', TyFrame (w.alloc (.cells #[.bool false] 4)) w' b t → TyFrame w w' b t := fun w' h => ⟨by have := h.1; omega, fun i hi h1 h2 => (h.2.1 i (by omega) h1 h2).trans (hb0.block i hi), h.2.2.1.trans hb0.os, h.2.2.2.1.trans hb0.tape, h.2.2.2.2.trans hb0.output⟩
  have hnew : ∀ w', TyFrame (w.alloc (.cells #[.bool false] 4)) w' b t → w'.heap[w.heap.size]? = some (.cells #[.bool false] 4 (0, 0)) := fun w' h => (h.2.1 _ (by omega) (by omega) (by omega)).trans (heap_alloc_new w _)
  cases hg : typeGo s with
  | some r =>
    refine (tried69 _ _ w (fun w' => ∃ k v, TyAt (w.alloc (.cells #[.bool false] 4)) w' b t s k r.1 r.2.1 v r.2.2) (fun _ => False) (h1.mono fun e w' h => .inl (by simpa [TyEnd, hg] using h)) ?_).mono ?_
    · rintro w' (⟨k, v, h⟩ | h)
      · have := hnew w' h.frame
        exact ⟨by simp [World.cell?, this], by simp [World.frozen?, this]⟩
      · exact h.elim
    · rintro e w' (⟨rfl, w1, ⟨k, v, h⟩, hb⟩ | ⟨_, w1, w2, h, _⟩)
      · refine ⟨rfl, k, v, ?_⟩
        have hn := hnew w1 h.frame
        have hs1 : (w1.setCell ⟨w.heap.size, 0, none⟩ (.bool true)).heap.size = w1.heap.size := by simp [World.setCell]
        have hold : ∀ i, i ≠ w.heap.size → (w1.setCell ⟨w.heap.size, 0, none⟩ (.bool true)).heap[i]? = w1.heap[i]? := fun i hi => Below.heap_setCell _ _ _ _ (fun e => hi e)
        have ho : OwnF (w1.setCell ⟨w.heap.size, 0, none⟩ (.bool true)) (w.alloc (.cells #[.bool false] 4)).heap.size v r.2.2 := h.2.2.1.setOther (h.own_ge (by omega)) 0 _
        have h2 : TyAt w (w1.setCell ⟨w.heap.size, 0, none⟩ (.bool true)) b t s k r.1 r.2.1 v r.2.2 :=
          ⟨(hold b (by omega)).trans h.1, (hold t (by omega)).trans h.2.1, ho.lower (by omega), by
            have := hfr _ h.frame
            exact ⟨by rw [hs1]; exact this.1, fun i hi h1 h2 => (hold i (by omega)).trans (this.2.1 i hi h1 h2), this.2.2⟩⟩
        rw [← hs1] at hb
        exact h2.below hb
      · exact h.elim
  | none =>
    refine (tried69 _ _ w (fun _ => False) (fun w' => TyFrame (w.alloc (.cells #[.bool false] 4)) w' b t) (h1.mono fun e w' h => .inr (by simpa [TyEnd, hg] using h)) ?_).mono ?_
    · rintro w' (h | h)
      · exact h.elim
      · have := hnew w' h
        exact ⟨by simp [World.cell?, this], by simp [World.frozen?, this]⟩
    · rintro e w' (⟨_, w1, h, _⟩ | ⟨rfl, w1, w2, h, hb, rfl⟩)
      · exact h.elim
      · refine ⟨rfl, ?_⟩
        have h2 := hfr _ (h.below hb)
        exact ⟨by simpa [World.setCell] using h2.1, fun i hi h3 h4 => (Below.heap_setCell _ _ _ _ (fun e => by have e' : i = w.heap.size := e; omega)).trans (h2.2.1 i hi h3 h4), h2.2.2⟩
set_option maxHeartbeats 2000000 in
set_option maxRecDepth 100000 in
theorem mimetype_Type.calls (a0 : ByteArray) (r1 : ByteArray) (r2 : ByteArray) (r3 : List (S42)) (r4 : Bool) (w : World) (h : mimetype_Type.f a0 = some (r1, r2, r3, r4)) :
    Calls Try.prog 38 #[.string a0] w fun e w' => ∃ v2_ : Value, e = .returned (.tuple #[.agg #[.string r1, .string r2, v2_], .bool r4]) ∧ Kd.R k42 42 w' w.heap.size (fun _ => True) v2_ r3 ∧ Below w.heap.size w w' := by
  have hmf : ∀ (fn : Fn) (first cap : Array Value) (w : World), (Instr.makeFunc fn first cap).run Try.prog w = .ok (.func fn first cap) w := fun _ _ _ _ => rfl
  unfold mimetype_Type.f at h
  split at h
  case isFalse => cases h
  case isTrue hsz =>
  have HR := Lib.hid (Option.some.inj h)
  clear h
  go_enter Try.func38, Try.ntmps38
  go_wp2_with (fail)
  have h3 := ty_heap3 w (.cells #[.string ⟨#[]⟩, .string ⟨#[]⟩, .slice none 0 0] 57) (.cells #[.string ⟨#[]⟩, .string ⟨#[]⟩, .slice none 0 0] 57) (.cells #[.string a0, .int .i64 0] 86)
  have HB := Lib.hid (ty_below3 w (.cells #[.string ⟨#[]⟩, .string ⟨#[]⟩, .slice none 0 0] 57) (.cells #[.string ⟨#[]⟩, .string ⟨#[]⟩, .slice none 0 0] 57) (.cells #[.string a0, .int .i64 0] 86))
  have HZ : Hid ((((w.alloc (.cells #[.string ⟨#[]⟩, .string ⟨#[]⟩, .slice none 0 0] 57)).alloc (.cells #[.string ⟨#[]⟩, .string ⟨#[]⟩, .slice none 0 0] 57)).alloc (.cells #[.string a0, .int .i64 0] 86)).heap.size = w.heap.size + 3) := Lib.hid (by simp)
  have H3 := Lib.hid h3
  clear h3
  generalize ((w.alloc (.cells #[.string ⟨#[]⟩, .string ⟨#[]⟩, .slice none 0 0] 57)).alloc (.cells #[.string ⟨#[]⟩, .string ⟨#[]⟩, .slice none 0 0] 57)).alloc (.cells #[.string a0, .int .i64 0] 86) = W3 at *
  have HT := Lib.hid (tried_type (w.heap.size + 1 + 1) (w.heap.size + 1) a0 W3 H3.out.2.2 H3.out.2.1 (by omega) hsz)
  refine HT.out.mono ?_
  intro e w1 he
  clear HT
  unfold typeR at HR
  cases hg : typeGo a0 with
  | some r =>
    rw [hg] at he HR
    obtain ⟨rfl, k, v, hT⟩ := he
    obtain ⟨rfl, rfl, rfl, rfl⟩ : r.1 = r1 ∧ r.2.1 = r2 ∧ r.2.2 = r3 ∧ true = r4 := by simpa using HR.out
    clear HR hg
    have b0 : w1.heap[w.heap.size]? = some (.cells #[.string ⟨#[]⟩, .string ⟨#[]⟩, .slice none 0 0] 57 (0, 0)) := (hT.frame.2.1 _ (by have := HZ.out; omega) (by omega) (by omega)).trans H3.out.1
    have HO := Lib.hid (show OwnF w1 w.heap.size v r.2.2 ∧ v.ownBlock ≠ some w.heap.size from ⟨hT.2.2.1.lower (by have := HZ.out; omega), hT.own_ge (by have := HZ.out; omega)⟩)
    have HB1 := Lib.hid (TyFrame.below_ HB.out hT.frame (by omega) (by omega))
    obtain ⟨c0, c1, c2⟩ := hT.cell
    have f0 : w1.frozen? ⟨w.heap.size, 0, none⟩ = false := by simp [World.frozen?, b0]
    have f1 : w1.frozen? ⟨w.heap.size, 1, none⟩ = false := by simp [World.frozen?, b0]
    have f2 : w1.frozen? ⟨w.heap.size, 2, none⟩ = false := by simp [World.frozen?, b0]
    have d0 : w1.cell? ⟨w.heap.size, 0, none⟩ = some (.string ⟨#[]⟩) := by simp [World.cell?, b0]
    have d1 : w1.cell? ⟨w.heap.size, 1, none⟩ = some (.string ⟨#[]⟩) := by simp [World.cell?, b0]
    have d2 : w1.cell? ⟨w.heap.size, 2, none⟩ = some (.slice none 0 0) := by simp [World.cell?, b0]
    clear hT b0 H3 HB HZ
    obtain ⟨A, c, rfl⟩ := HO.out.1.form
    go_wp2_with (fail)
    refine bodyPost_ret (v := .tuple #[.agg #[.string r.1, .string r.2.1, .slice A r.2.2.length c], .bool true]) (by simp [results, Try.results38, go_sem, d0, d1, d2]) rfl ⟨_, rfl, ?_, ?_⟩
    · exact OwnF.toR (((HO.out.1.setOther HO.out.2 0 _).setOther HO.out.2 1 _).setOther HO.out.2 2 _) _ (fun _ _ => trivial)
    · exact ((HB1.out.setCell (p := ⟨w.heap.size, 0, none⟩) (Nat.le_refl _) _).setCell (p := ⟨w.heap.size, 1, none⟩) (Nat.le_refl _) _).setCell (p := ⟨w.heap.size, 2, none⟩) (Nat.le_refl _) _
  | none =>
    rw [hg] at he HR
    obtain ⟨rfl, hT⟩ := he
    obtain ⟨rfl, rfl, rfl, rfl⟩ : ⟨#[]⟩ = r1 ∧ ⟨#[]⟩ = r2 ∧ [] = r3 ∧ false = r4 := by simpa using HR.out
    clear HR hg
    have b0 : w1.heap[w.heap.size]? = some (.cells #[.string ⟨#[]⟩, .string ⟨#[]⟩, .slice none 0 0] 57 (0, 0)) := (hT.2.1 _ (by have := HZ.out; omega) (by omega) (by omega)).trans H3.out.1
    have HB1 := Lib.hid (TyFrame.below_ HB.out hT (by omega) (by omega))
    have f0 : w1.frozen? ⟨w.heap.size, 0, none⟩ = false := by simp [World.frozen?, b0]
    have f1 : w1.frozen? ⟨w.heap.size, 1, none⟩ = false := by simp [World.frozen?, b0]
    have f2 : w1.frozen? ⟨w.heap.size, 2, none⟩ = false := by simp [World.frozen?, b0]
    have d0 : w1.cell? ⟨w.heap.size, 0, none⟩ = some (.string ⟨#[]⟩) := by simp [World.cell?, b0]
    have d1 : w1.cell? ⟨w.heap.size, 1, none⟩ = some (.string ⟨#[]⟩) := by simp [World.cell?, b0]
    have d2 : w1.cell? ⟨w.heap.size, 2, none⟩ = some (.slice none 0 0) := by simp [World.cell?, b0]
    clear hT b0 H3 HB HZ
    go_wp2_with (fail)
    refine bodyPost_ret (v := .tuple #[.agg #[.string ⟨#[]⟩, .string ⟨#[]⟩, .slice none 0 0], .bool false]) (by simp [results, Try.results38, go_sem, d0, d1, d2]) rfl ⟨_, rfl, ?_, ?_⟩
    · exact OwnF.toR (OwnF.nil _ _) _ (fun _ _ => trivial)
    · exact ((HB1.out.setCell (p := ⟨w.heap.size, 0, none⟩) (Nat.le_refl _) _).setCell (p := ⟨w.heap.size, 1, none⟩) (Nat.le_refl _) _).setCell (p := ⟨w.heap.size, 2, none⟩) (Nat.le_refl _) _
end Go.Proofs.Ytodidfdfbanliaa.PAll
set_option linter.unusedVariables false
set_option linter.unusedSimpArgs false
namespace Go.Proofs.Ytodidfdfbanliaa.PAll
open Go.RowKit Go.Proofs.YtodidfdfbanliaaW.PrintWords Go.Proofs.YtodidfdfbanliaaW.PrintLast Go.Proofs.YtodidfdfbanliaaW.PrintMore
/-- The word of an encoding, and where what stands between behind it ends. -/
def encGo (s : ByteArray) : Option (ByteArray × Nat) := (betP s 0).bind fun a => if a < s.size then tokGo s a else some (⟨#[]⟩, a)
def encTab : List (ByteArray × Int) := [(⟨#[]⟩, 0), (⟨#[55, 98, 105, 116]⟩, 0), (⟨#[56, 98, 105, 116]⟩, 0), (⟨#[98, 105, 110, 97, 114, 121]⟩, 0), (⟨#[98, 97, 115, 101, 54, 52]⟩, 1), (⟨#[113, 117, 111, 116, 101, 100, 45, 112, 114, 105, 110, 116, 97, 98, 108, 101]⟩, 2)]
def codeOf (x : ByteArray) : Int := match encTab.find? (fun p => sameL p.1.data.toList x.data.toList) with | some p => p.2 | none => 3
def encodeR (s : ByteArray) : Int := match encGo s with | some r => if r.2 < s.size then 3 else codeOf r.1 | none => 3
/-- The reader at b stands at k, the word at c is x. -/
def EncAt (w0 w : World) (b c : Nat) (s : ByteArray) (k : Nat) (x : ByteArray) : Prop := MAt w b s k ∧ w.heap[c]? = some (.cells #[.string x] 9 (0, 0)) ∧ TyFrame w0 w b c
section
variable {w0 w w' : World} {b c : Nat} {s x : ByteArray} {k : Nat}
theorem EncAt.keepBut (h : EncAt w0 w b c s k x) (hbc : c ≠ b) (hk : KB w w' b) {j : Nat} (hm : MAt w' b s j) : EncAt w0 w' b c s j x :=
  ⟨hm, hk.1.blk h.2.1 hbc (by simp), h.2.2.keepBut hk⟩
theorem EncAt.drewN (h : EncAt w0 w b c s k x) (n : Nat) : EncAt w0 (w.drewN n) b c s k x := ⟨h.1, h.2.1, h.2.2⟩
theorem EncAt.cell (h : EncAt w0 w b c s k x) : w.cell? ⟨c, 0, none⟩ = some (.string x) := by simp [World.cell?, h.2.1]
theorem EncAt.frozen (h : EncAt w0 w b c s k x) : w.frozen? ⟨c, 0, none⟩ = false := by simp [World.frozen?, h.2.1]
theorem EncAt.set (h : EncAt w0 w b c s k x) (hbc : c ≠ b) (y : ByteArray) : EncAt w0 (w.setCell ⟨c, 0, none⟩ (.string y)) b c s k y :=
  ⟨(Below.heap_setCell _ _ _ _ (fun e => hbc e.symm)).trans h.1, by simp [World.setCell, Array.getElem?_modify, h.2.1], h.2.2.set _ _⟩
end
/-- How Encoding's function value leaves. -/
def EncEnd (w0 : World) (b c : Nat) (s : ByteArray) (e : Ending) (w' : World) : Prop :=
  match encGo s with
  | some r => e = .returned (.tuple #[]) ∧ EncAt w0 w' b c s r.2 r.1
  | none => e = .panicked wrongs ∧ TyFrame w0 w' b c
theorem EncEnd.bad {w0 w' : World} {b c : Nat} {s : ByteArray} {e : Ending} (h : encGo s = none) (hf : TyFrame w0 w' b c) (he : e = .panicked wrongs) : EncEnd w0 b c s e w' := by
  unfold EncEnd; rw [h]; exact ⟨he, hf⟩
theorem EncEnd.good {w0 w' : World} {b c k : Nat} {s x : ByteArray} {e : Ending} (h : encGo s = some (x, k)) (hf : EncAt w0 w' b c s k x) (he : e = .returned (.tuple #[])) : EncEnd w0 b c s e w' := by
  unfold EncEnd; rw [h]; exact ⟨he, hf⟩
set_option maxHeartbeats 2000000 in
set_option maxRecDepth 100000 in
theorem enc1_walk (b c : Nat) (s : ByteArray) (w : World) (hM : MAt w b s 0) (hT : w.heap[c]? = some (.cells #[.string ⟨#[]⟩] 9 (0, 0))) (hbc : c ≠ b) (hs : s.size ≤ 9223372036854775000) :
    Calls Try.prog 85 #[.pointer (some ⟨b, 0, none⟩), .pointer (some ⟨c, 0, none⟩)] w (EncEnd w b c s) := by
  have HT : Hid (EncAt w w b c s (0 : Nat) ⟨#[]⟩) := Lib.hid ⟨hM, hT, Nat.le_refl _, fun _ _ _ _ => rfl, rfl, rfl, rfl⟩
  have HV : Hid (encGo s = (betP s 0).bind fun a => if a < s.size then tokGo s a else some (⟨#[]⟩, a)) := Lib.hid rfl
  clear hM hT
  go_enter Try.func85, Try.ntmps85
  go_wp2_with (fail)
  refine (between_p b s 0 _ HT.out.1 hs).mono ?_
  rintro e w2 ⟨hk2, he⟩
  have HK2 := Lib.hid hk2
  clear hk2
  cases hr : betP s 0 with
  | none =>
    rw [show _ = none from hr] at he
    obtain rfl : e = .panicked wrongs := he
    have HE := Lib.hid (show encGo s = none by rw [HV.out, hr]; rfl)
    have HF := Lib.hid (HT.out.2.2.keepBut HK2.out)
    clear hr HV HT HK2
    go_wp2
    exact ⟨rfl, EncEnd.bad HE.out HF.out rfl⟩
  | some a =>
    rw [show _ = some a from hr] at he
    obtain ⟨rfl, hm2⟩ : e = .returned (.tuple #[]) ∧ MAt w2 b s a := he
    replace HT := Lib.hid (EncAt.keepBut HT.out hbc HK2.out hm2)
    replace HV := Lib.hid (HV.out.trans (by rw [hr, Option.bind_some]))
    clear HK2 hm2 hr
    have HC := Lib.hid (more_calls b s a w2 HT.out.1)
    by_cases ha : a < s.size
    · have td : decide ((a : Int) < (s.size : Int)) = true := decide_eq_true (by omega)
      replace HV := Lib.hid (HV.out.trans (if_pos ha))
      go_wp2_with (fail)
      refine HC.out.mono ?_
      rintro e w1 ⟨rfl, ⟨nd, rfl⟩⟩
      rw [td]
      clear HC td
      replace HT := Lib.hid (HT.out.drewN nd)
      generalize w2.drewN nd = w1 at *
      go_wp2_with (fail)
      refine (token_walk b s a _ HT.out.1 hs).mono ?_
      rintro e w3 ⟨hk2, he⟩
      have HK2 := Lib.hid hk2
      clear hk2
      cases hr : tokGo s a with
      | none =>
        rw [hr] at he
        obtain rfl : e = .panicked wrongs := he
        have HE := Lib.hid (show encGo s = none by rw [HV.out, hr])
        have HF := Lib.hid (HT.out.2.2.keepBut HK2.out)
        clear hr HV HT HK2
        go_wp2
        exact ⟨rfl, EncEnd.bad HE.out HF.out rfl⟩
      | some j =>
        rw [hr] at he
        obtain ⟨rfl, hm2⟩ : e = .returned (.string j.1) ∧ MAt w3 b s j.2 := he
        replace HT := Lib.hid (EncAt.keepBut HT.out hbc HK2.out hm2)
        replace HV := Lib.hid (HV.out.trans hr)
        clear HK2 hm2 hr
        have f0 := HT.out.frozen
        have c0 := HT.out.cell
        replace HT := Lib.hid (HT.out.set hbc j.1)
        go_wp2
        first | go_end0 | refine bodyPost_end (results_none rfl _ _ _) rfl ?_
        exact EncEnd.good HV.out HT.out rfl
    · have td : decide ((a : Int) < (s.size : Int)) = false := decide_eq_false (by omega)
      replace HV := Lib.hid (HV.out.trans (if_neg ha))
      go_wp2_with (fail)
      refine HC.out.mono ?_
      rintro e w1 ⟨rfl, ⟨nd, rfl⟩⟩
      rw [td]
      clear HC td
      replace HT := Lib.hid (HT.out.drewN nd)
      generalize w2.drewN nd = w1 at *
      go_wp2
      first | go_end0 | refine bodyPost_end (results_none rfl _ _ _) rfl ?_
      exact EncEnd.good HV.out HT.out rfl
/-- tried over Encoding's function value. -/
theorem tried_enc (b c : Nat) (s : ByteArray) (w : World) (hM : MAt w b s 0) (hT : w.heap[c]? = some (.cells #[.string ⟨#[]⟩] 9 (0, 0))) (hbc : c ≠ b) (hs : s.size ≤ 9223372036854775000) :
    Calls Try.prog 68 #[.func (.func 85) #[] #[.pointer (some ⟨b, 0, none⟩), .pointer (some ⟨c, 0, none⟩)]] w fun e w' =>
      match encGo s with
      | some r => e = .returned (.bool true) ∧ EncAt w w' b c s r.2 r.1
      | none => e = .returned (.bool false) ∧ TyFrame w w' b c := by
  have hb0 : Below w.heap.size w (w.alloc (.cells #[.bool false] 4)) := (Below.refl _ w).alloc (Nat.le_refl _) _
  have hsz : (w.alloc (.cells #[.bool false] 4)).heap.size = w.heap.size + 1 := by simp
  have hbl := hM.lt
  have htl := blk_lt hT
  have h1 := enc1_walk b c s (w.alloc (.cells #[.bool false] 4)) ((hb0.block b hbl).trans hM) ((hb0.block c htl).trans hT) hbc hs
  have hfr : ∀ w', TyFrame (w.alloc (.cells #[.bool false] 4)) w' b c → TyFrame w w' b c := fun w' h => ⟨by have := h.1; omega, fun i hi h1 h2 => (h.2.1 i (by omega) h1 h2).trans (hb0.block i hi), h.2.2.1.trans hb0.os, h.2.2.2.1.trans hb0.tape, h.2.2.2.2.trans hb0.output⟩
  have hnew : ∀ w', TyFrame (w.alloc (.cells #[.bool false] 4)) w' b c → w'.heap[w.heap.size]? = some (.cells #[.bool false] 4 (0, 0)) := fun w' h => (h.2.1 _ (by omega) (by omega) (by omega)).trans (heap_alloc_new w _)
  cases hg : encGo s with
  | some r =>
    refine (tried85 _ _ w (fun w' => EncAt (w.alloc (.cells #[.bool false] 4)) w' b c s r.2 r.1) (fun _ => False) (h1.mono fun e w' h => .inl (by simpa [EncEnd, hg] using h)) ?_).mono ?_
    · rintro w' (h | h)
      · have := hnew w' h.2.2
        exact ⟨by simp [World.cell?, this], by simp [World.frozen?, this]⟩
      · exact h.elim
    · rintro e w' (⟨rfl, w1, h, hb⟩ | ⟨_, w1, w2, h, _⟩)
      · refine ⟨rfl, ?_⟩
        have hs1 : (w1.setCell ⟨w.heap.size, 0, none⟩ (.bool true)).heap.size = w1.heap.size := by simp [World.setCell]
        have hold : ∀ i, i ≠ w.heap.size → (w1.setCell ⟨w.heap.size, 0, none⟩ (.bool true)).heap[i]? = w1.heap[i]? := fun i hi => Below.heap_setCell _ _ _ _ (fun e => hi e)
        rw [← hs1] at hb
        have h3 := hfr _ h.2.2
        refine ⟨(hb.block b (by rw [hs1]; exact h.1.lt)).trans ((hold b (by omega)).trans h.1), (hb.block c (by rw [hs1]; exact blk_lt h.2.1)).trans ((hold c (by omega)).trans h.2.1), ?_⟩
        exact ⟨by have := h3.1; have := hb.size; omega, fun i hi h1 h2 => (hb.block i (by rw [hs1]; have := h3.1; omega)).trans ((hold i (by omega)).trans (h3.2.1 i hi h1 h2)), hb.os.trans h3.2.2.1, hb.tape.trans h3.2.2.2.1, hb.output.trans h3.2.2.2.2⟩
      · exact h.elim
  | none =>
    refine (tried85 _ _ w (fun _ => False) (fun w' => TyFrame (w.alloc (.cells #[.bool false] 4)) w' b c) (h1.mono fun e w' h => .inr (by simpa [EncEnd, hg] using h)) ?_).mono ?_
    · rintro w' (h | h)
      · exact h.elim
      · have := hnew w' h
        exact ⟨by simp [World.cell?, this], by simp [World.frozen?, this]⟩
    · rintro e w' (⟨_, w1, h, _⟩ | ⟨rfl, w1, w2, h, hb, rfl⟩)
      · exact h.elim
      · refine ⟨rfl, ?_⟩
        have h2 := hfr _ (h.below hb)
        exact ⟨by simpa [World.setCell] using h2.1, fun i hi h3 h4 => (Below.heap_setCell _ _ _ _ (fun e => by have e' : i = w.heap.size := e; omega)).trans (h2.2.1 i hi h3 h4), h2.2.2⟩
def encCells : Array Value := #[.string ⟨#[]⟩, .int .i64 0, .string ⟨#[55, 98, 105, 116]⟩, .int .i64 0, .string ⟨#[56, 98, 105, 116]⟩, .int .i64 0, .string ⟨#[98, 105, 110, 97, 114, 121]⟩, .int .i64 0, .string ⟨#[98, 97, 115, 101, 54, 52]⟩, .int .i64 1, .string ⟨#[113, 117, 111, 116, 101, 100, 45, 112, 114, 105, 110, 116, 97, 98, 108, 101]⟩, .int .i64 2]
def encWord (k : Nat) : ByteArray := (encTab.getD k (⟨#[]⟩, 0)).1
def encCode (k : Nat) : Int := (encTab.getD k (⟨#[]⟩, 0)).2
theorem encCells_at (k : Nat) (h : k < 6) : encCells[k * 2]? = some (.string (encWord k)) ∧ encCells[k * 2 + 1]? = some (.int .i64 (encCode k)) := by
  obtain rfl | rfl | rfl | rfl | rfl | rfl : k = 0 ∨ k = 1 ∨ k = 2 ∨ k = 3 ∨ k = 4 ∨ k = 5 := by omega
  all_goals exact ⟨rfl, rfl⟩
theorem encWord_size (k : Nat) : (encWord k).size ≤ 9223372036854775807 := by
  by_cases h : k < 6
  · obtain rfl | rfl | rfl | rfl | rfl | rfl : k = 0 ∨ k = 1 ∨ k = 2 ∨ k = 3 ∨ k = 4 ∨ k = 5 := by omega
    all_goals (simp [encWord, encTab]; try decide)
  · unfold encWord; rw [List.getD_eq_getElem?_getD, List.getElem?_eq_none (by simp [encTab]; omega)]; decide
theorem codeOf_found (x : ByteArray) (k : Nat) (h : k < 6) (hb : ∀ j, j < k → sameL (encWord j).data.toList x.data.toList = false) (hk : sameL (encWord k).data.toList x.data.toList = true) : codeOf x = encCode k := by
  have e : encTab.find? (fun p => sameL p.1.data.toList x.data.toList) = some (encTab.getD k (⟨#[]⟩, 0)) := by
    rw [List.find?_eq_some_iff_getElem]
    refine ⟨hk, k, h, by simp [List.getD_eq_getElem?_getD, List.getElem?_eq_getElem (show k < encTab.length from h)]; rfl, fun j hj => ?_⟩
    have := hb j hj
    unfold encWord at this
    rw [List.getD_eq_getElem?_getD, List.getElem?_eq_getElem (show j < encTab.length from by have : encTab.length = 6 := rfl; omega)] at this
    simpa using this
  unfold codeOf; rw [e]; rfl
theorem codeOf_none (x : ByteArray) (hb : ∀ j, j < 6 → sameL (encWord j).data.toList x.data.toList = false) : codeOf x = 3 := by
  have e : encTab.find? (fun p => sameL p.1.data.toList x.data.toList) = none := by
    rw [List.find?_eq_none]
    intro p hp
    obtain ⟨j, hj, rfl⟩ := List.mem_iff_getElem.1 hp
    have := hb j hj
    unfold encWord at this
    rw [List.getD_eq_getElem?_getD, List.getElem?_eq_getElem hj] at this
    simpa using this
  unfold codeOf; rw [e]
def mimetype_Encoding.f (a0 : ByteArray) : Option (Int) := if a0.size ≤ 9223372036854775000 then some (encodeR a0) else none
set_option maxHeartbeats 2000000 in
set_option maxRecDepth 100000 in
theorem mimetype_Encoding.calls (a0 : ByteArray) (r : Int) (w : World) (h : mimetype_Encoding.f a0 = some r) :
    Calls Try.prog 50 #[.string a0] w fun e w' => e = .returned (.int .i64 r) ∧ Below w.heap.size w w' := by
  have hmf : ∀ (fn : Fn) (first cap : Array Value) (w : World), (Instr.makeFunc fn first cap).run Try.prog w = .ok (.func fn first cap) w := fun _ _ _ _ => rfl
  unfold mimetype_Encoding.f at h
  split at h
  case isFalse => cases h
  case isTrue hsz =>
  have HR := Lib.hid (Option.some.inj h)
  clear h
  go_enter Try.func50, Try.ntmps50
  go_wp2_with (fail)
  have HB := Lib.hid (show Below w.heap.size w ((w.alloc (.cells #[.string ⟨#[]⟩] 9)).alloc (.cells #[.string a0, .int .i64 0] 86)) from ((Below.refl _ w).alloc (Nat.le_refl _) _).alloc (by simp) _)
  have HZ : Hid (((w.alloc (.cells #[.string ⟨#[]⟩] 9)).alloc (.cells #[.string a0, .int .i64 0] 86)).heap.size = w.heap.size + 2) := Lib.hid (by simp)
  have H3 := Lib.hid (show ((w.alloc (.cells #[.string ⟨#[]⟩] 9)).alloc (.cells #[.string a0, .int .i64 0] 86)).heap[w.heap.size]? = some (.cells #[.string ⟨#[]⟩] 9 (0, 0)) ∧ ((w.alloc (.cells #[.string ⟨#[]⟩] 9)).alloc (.cells #[.string a0, .int .i64 0] 86)).heap[w.heap.size + 1]? = some (.cells #[.string a0, .int .i64 0] 86 (0, 0)) from
    ⟨by rw [Below.heap_alloc _ _ _ (by simp)]; exact heap_alloc_new w _, by have := heap_alloc_new (w.alloc (.cells #[.string ⟨#[]⟩] 9)) (.cells #[.string a0, .int .i64 0] 86); simpa using this⟩)
  generalize (w.alloc (.cells #[.string ⟨#[]⟩] 9)).alloc (.cells #[.string a0, .int .i64 0] 86) = W3 at *
  have HT := Lib.hid (tried_enc (w.heap.size + 1) w.heap.size a0 W3 H3.out.2 H3.out.1 (by omega) hsz)
  refine HT.out.mono ?_
  intro e w1 he
  clear HT
  unfold encodeR at HR
  cases hg : encGo a0 with
  | none =>
    rw [hg] at he HR
    obtain ⟨rfl, hT⟩ := he
    obtain rfl : (3 : Int) = r := HR.out
    have HB1 := Lib.hid (TyFrame.below_ HB.out hT (by omega) (by omega))
    clear hT H3 HB HZ hg HR
    go_wp2
    go_ret
    exact ⟨rfl, HB1.out⟩
  | some p =>
    rw [hg] at he HR
    obtain ⟨rfl, hT⟩ := he
    have HB1 := Lib.hid (TyFrame.below_ HB.out hT.2.2 (by omega) (by omega))
    have HC := Lib.hid (more_calls (w.heap.size + 1) a0 p.2 w1 hT.1)
    have c0 := hT.cell
    clear hT H3 HB HZ hg
    by_cases ha : p.2 < a0.size
    · have td : decide ((p.2 : Int) < (a0.size : Int)) = true := decide_eq_true (by omega)
      replace HR := Lib.hid (show (3 : Int) = r by rw [← HR.out]; simp only []; rw [if_pos ha])
      go_wp2_with (fail)
      refine HC.out.mono ?_
      rintro e w2 ⟨rfl, ⟨nd, rfl⟩⟩
      rw [td]
      have HB2 := Lib.hid (pw_below_drewN HB1.out nd)
      clear HC td
      go_wp2
      go_ret
      exact ⟨by rw [← HR.out]; rfl, HB2.out⟩
    · have td : decide ((p.2 : Int) < (a0.size : Int)) = false := decide_eq_false (by omega)
      replace HR := Lib.hid (show codeOf p.1 = r by rw [← HR.out]; simp only []; rw [if_neg ha])
      go_wp2_with (fail)
      refine HC.out.mono ?_
      rintro e w2 ⟨rfl, ⟨nd, rfl⟩⟩
      rw [td]
      have HB2 := Lib.hid (pw_below_drewN HB1.out nd)
      have c2 : (w1.drewN nd).cell? ⟨w.heap.size, 0, none⟩ = some (.string p.1) := c0
      clear HC td c0 HB1
      generalize w1.drewN nd = w2 at *
      have HN := Lib.hid (show (w2.alloc (.cells encCells 102)).heap[w2.heap.size]? = some (.cells encCells 102 (0, 0)) from heap_alloc_new w2 _)
      have HB3 := Lib.hid (HB2.out.alloc HB2.out.size (.cells encCells 102))
      have HW := Lib.hid (show (w2.alloc (.cells encCells 102)).cell? ⟨w.heap.size, 0, none⟩ = some (.string p.1) from cell_alloc c2)
      have HL : Hid (w.heap.size ≤ w2.heap.size) := Lib.hid HB2.out.size
      have hB : w2.heap.size < (w2.alloc (.cells encCells 102)).heap.size := by simp
      have hB0 : w.heap.size < w2.heap.size := World.block_lt_of_cell? w2 _ c2
      go_wp2_with (fail)
      change Code.wp _ _ _ _ (w2.alloc (.cells encCells 102))
      generalize w2.alloc (.cells encCells 102) = w3 at *
      clear HB2 c2
      go_loopw [25] (fun v wr => ∃ k : Nat, v = .int .i64 k ∧ k ≤ 6 ∧ Hid (∀ j, j < k → sameL (encWord j).data.toList p.1.data.toList = false) ∧ Hid (Below w3.heap.size w3 wr)) (fun v wr => 6 - (intOf v).toNat)
      case atStart => exact ⟨0, rfl, by omega, Lib.hid (fun j hj => absurd hj (by omega)), Lib.hid (Below.refl _ _)⟩
      case round =>
        obtain ⟨k, rfl, hk, HF, HBr⟩ := hrel
        by_cases hk6 : k < 6
        · have hblk : wr.heap[w2.heap.size]? = some (.cells encCells 102 (0, 0)) := (HBr.out.block _ hB).trans HN.out
          have d0 : wr.cell? ⟨w2.heap.size, k * 2, none⟩ = some (.string (encWord k)) := by simp only [World.cell?, hblk]; exact (encCells_at k hk6).1
          have d1 : wr.cell? ⟨w2.heap.size, k * 2 + 1, none⟩ = some (.int .i64 (encCode k)) := by simp only [World.cell?, hblk]; exact (encCells_at k hk6).2
          have c2 : wr.cell? ⟨w.heap.size, 0, none⟩ = some (.string p.1) := (HBr.out.cell (World.block_lt_of_cell? w3 _ HW.out)).trans HW.out
          have hlr : w.heap.size < wr.heap.size := World.block_lt_of_cell? wr _ c2
          have hk0 : (0 : Int) ≤ (k : Int) := by omega
          have hk1 : (k : Int) < 6 := by omega
          have hw1 : IntKind.i64.wrap ((k : Int) + 1) = (k : Int) + 1 := IntWalk.i64_in _ (by omega)
          obtain ⟨kk, hkk⟩ := (header_Same.ev (encWord k) p.1 (encWord_size k)).rounds
          have HS := Lib.hid hkk
          clear hkk hblk
          go_wp2_with (fail)
          cases hv : sameL (encWord k).data.toList p.1.data.toList with
          | true =>
            rw [hv] at HS
            have HE := Lib.hid (codeOf_found p.1 k hk6 HF.out hv)
            clear hv
            refine (header_Same.calls kk _ _ _ _ HS.out).mono ?_
            rintro e w4 ⟨rfl, ⟨nd, rfl⟩⟩
            go_wp2
            go_ret
            exact ⟨by rw [← HR.out, HE.out]; rfl, pw_below_drewN ((HB3.out.trans (HBr.out.mono HB3.out.size)).alloc (by omega) _) nd⟩
          | false =>
            rw [hv] at HS
            have HF2 := Lib.hid (show ∀ j, j < k + 1 → sameL (encWord j).data.toList p.1.data.toList = false from fun j hj => by
              rcases Nat.lt_or_ge j k with h | h
              · exact HF.out j h
              · obtain rfl : j = k := by omega
                exact hv)
            clear hv
            refine (header_Same.calls kk _ _ _ _ HS.out).mono ?_
            rintro e w4 ⟨rfl, ⟨nd, rfl⟩⟩
            have HB5 := Lib.hid (pw_below_drewN (HBr.out.alloc HBr.out.size (.cells #[.string (encWord k), .int .i64 (encCode k)] 102)) nd)
            go_wp2
            go_roundw
            case rel => exact ⟨k + 1, by go_num, by omega, HF2, HB5⟩
            case measure => simp [intOf]; omega
        · have HE := Lib.hid (codeOf_none p.1 (fun j hj => HF.out j (by omega)))
          go_wp2
          go_ret
          exact ⟨by rw [← HR.out, HE.out]; rfl, HB3.out.trans (HBr.out.mono HB3.out.size)⟩
end Go.Proofs.Ytodidfdfbanliaa.PAll
