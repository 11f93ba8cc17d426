/- What the laws of layer 6 call, in the words of their walks. -/
import Derived.Test.YtdciniefkodeaaaQPl7HAwake6
import Derived.Test.YtdciniefkodeaaaQPl7HRef6
set_option linter.unusedVariables false
set_option linter.unusedSimpArgs false
namespace Go.Proofs.Ytdciniefkodeaaa.PAll
open Go.Sort Go.RowKit Go.Proofs.YtdciniefkodeaaaW.PrintWords Go.Proofs.YtdciniefkodeaaaW.PrintLast Go.Proofs.YtdciniefkodeaaaW.PrintMore
/-- Patterns that an argument holds. -/
structure PsAt (w : World) (A : Option Addr) (c : Nat) (ps : List Wd) : Prop where
  reads : (Kd.slice 5 (Kd.int .u8)).C w A ps.length ps
  cap : ps.length ≤ c
  bytes : BytesOk ps
  size : ps.length < 5864062014805
  each : ∀ p ∈ ps, p.length < 140737488355328
theorem PsAt.below {w w1 : World} {A : Option Addr} {c : Nat} {ps : List Wd} (h : PsAt w A c ps) (hb : Below w.heap.size w w1) : PsAt w1 A c ps := ⟨Kd.C_below h.reads hb, h.cap, h.bytes, h.size, h.each⟩
theorem copy_ctr {w : World} {A : Option Addr} {c : Nat} {ps : List Wd} (h : PsAt w A c ps) : Calls Try.prog 18 #[.slice A ps.length c] w fun e w' => ∃ A' c', e = .returned (.slice A' ps.length c') ∧ PsAt w' A' c' ps ∧ Below w.heap.size w w' := by
  refine (winkleref06_Copy.calls (ps.length + 1) A c ps ps w h.reads h.cap (copy_is ps h.size h.each _ (Nat.lt_succ_self _))).mono ?_
  rintro e w' ⟨v, rfl, hS, hB⟩
  obtain ⟨A', c', rfl, hc, hC⟩ := Kd.R_reads (Kd.S_R hS)
  exact ⟨A', c', rfl, ⟨hC, hc, h.bytes, h.size, h.each⟩, hB⟩
def BuildRes (w : World) (ps : List Wd) (e : Ending) (w' : World) : Prop :=
  Below w.heap.size w w' ∧ ((chkW ps ≠ 0 ∧ e = .returned (.tuple #[.pointer none, .int .i64 (chkW ps)])) ∨ (chkW ps = 0 ∧ ∃ pa, e = .returned (.tuple #[.pointer (some ⟨pa, 0, none⟩), .int .i64 0]) ∧ MachAt w' pa ps))
theorem build_ctr {w : World} {A : Option Addr} {c : Nat} {ps : List Wd} (h : PsAt w A c ps) : Calls Try.prog 17 #[.slice A ps.length c] w (BuildRes w ps) := by
  refine (build_calls w A ps.length c ps h.reads h.cap h.bytes).mono ?_
  rintro e w' ⟨hb, h1 | ⟨h1, pa, h2, h3, h4⟩⟩
  · exact ⟨hb, .inl h1⟩
  · exact ⟨hb, .inr ⟨h1, pa, h3, ⟨h1, h.bytes, h4⟩⟩⟩
theorem refCheck_ctr {w : World} {A : Option Addr} {c : Nat} {ps : List Wd} (h : PsAt w A c ps) : Calls Try.prog 16 #[.slice A ps.length c] w fun e w' => e = .returned (.int .i64 (chkW ps)) ∧ Below w.heap.size w w' :=
  (winkleref06_Check.calls 10000 A c ps (chkW ps) w h.reads h.cap (check_is ps _ (Nat.le_refl _))).mono fun e w' h => ⟨h.1, h.2.below⟩
theorem ps_of {w : World} {A : Option Addr} {c : Nat} {ps : List Wd} (h1 : (Kd.slice 5 (Kd.int .u8)).C w A ps.length ps) (h2 : ps.length ≤ c) (h3 : BytesOk ps) (h4 : ps.length * 24 ≤ reachBytes) (h5 : ∀ p ∈ ps, p.length ≤ reachBytes) : PsAt w A c ps :=
  ⟨h1, h2, h3, by have : reachBytes = 140737488351232 := rfl; omega, fun p hp => by have := h5 p hp; have : reachBytes = 140737488351232 := rfl; omega⟩
end Go.Proofs.Ytdciniefkodeaaa.PAll
