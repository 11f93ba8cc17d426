/- What the laws of layer 6 call, in the words of their walks. -/
import Derived.Test.YtdciniefkodeaaaQCk6HAwake6
import Derived.Test.YtdciniefkodeaaaQCk6HRef6
set_option linter.unusedVariables false
set_option linter.unusedSimpArgs false
namespace Go.Proofs.Ytdciniefkodeaaa.PAll
open Go.Sort Go.RowKit Go.Proofs.YtdciniefkodeaaaW.PrintWords Go.Proofs.YtdciniefkodeaaaW.PrintLast Go.Proofs.YtdciniefkodeaaaW.PrintMore
/-- Patterns that an argument holds. -/
structure PsAt (w : World) (A : Option Addr) (c : Nat) (ps : List Wd) : Prop where
  reads : (Kd.slice 5 (Kd.int .u8)).C w A ps.length ps
  cap : ps.length ≤ c
  bytes : BytesOk ps
  size : ps.length < 5864062014805
  each : ∀ p ∈ ps, p.length < 140737488355328
theorem PsAt.below {w w1 : World} {A : Option Addr} {c : Nat} {ps : List Wd} (h : PsAt w A c ps) (hb : Below w.heap.size w w1) : PsAt w1 A c ps := ⟨Kd.C_below h.reads hb, h.cap, h.bytes, h.size, h.each⟩
theorem copy_ctr {w : World} {A : Option Addr} {c : Nat} {ps : List Wd} (h : PsAt w A c ps) : Calls Try.prog 18 #[.slice A ps.length c] w fun e w' => ∃ A' c', e = .returned (.slice A' ps.length c') ∧ PsAt w' A' c' ps ∧ Below w.heap.size w w' := by
  refine (winkleref06_Copy.calls (ps.length + 1) A c ps ps w h.reads h.cap (copy_is ps h.size h.each _ (Nat.lt_succ_self _))).mono ?_
  rintro e w' ⟨v, rfl, hS, hB⟩
  obtain ⟨A', c', rfl, hc, hC⟩ := Kd.R_reads (Kd.S_R hS)
  exact ⟨A', c', rfl, ⟨hC, hc, h.bytes, h.size, h.each⟩, hB⟩
def BuildRes (w : World) (ps : List Wd) (e : Ending) (w' : World) : Prop :=
  Below w.heap.size w w' ∧ ((chkW ps ≠ 0 ∧ e = .returned (.tuple #[.pointer none, .int .i64 (chkW ps)])) ∨ (chkW ps = 0 ∧ ∃ pa, e = .returned (.tuple #[.pointer (some ⟨pa, 0, none⟩), .int .i64 0]) ∧ MachAt w' pa ps))
theorem build_ctr {w : World} {A : Option Addr} {c : Nat} {ps : List Wd} (h : PsAt w A c ps) : Calls Try.prog 17 #[.slice A ps.length c] w (BuildRes w ps) := by
  refine (build_calls w A ps.length c ps h.reads h.cap h.bytes).mono ?_
  rintro e w' ⟨hb, h1 | ⟨h1, pa, h2, h3, h4⟩⟩
  · exact ⟨hb, .inl h1⟩
  · exact ⟨hb, .inr ⟨h1, pa, h3, ⟨h1, h.bytes, h4⟩⟩⟩
theorem check_ctr {w : World} {A : Option Addr} {c : Nat} {ps : List Wd} (h : PsAt w A c ps) : Calls Try.prog 19 #[.slice A ps.length c] w fun e w' => e = .returned (.int .i64 (chkW ps)) ∧ Below w.heap.size w w' :=
  check_calls w A ps.length c ps h.reads h.cap h.bytes
theorem refCheck_ctr {w : World} {A : Option Addr} {c : Nat} {ps : List Wd} (h : PsAt w A c ps) : Calls Try.prog 16 #[.slice A ps.length c] w fun e w' => e = .returned (.int .i64 (chkW ps)) ∧ Below w.heap.size w w' :=
  (winkleref06_Check.calls 10000 A c ps (chkW ps) w h.reads h.cap (check_is ps _ (Nat.le_refl _))).mono fun e w' h => ⟨h.1, h.2.below⟩
theorem ps_of {w : World} {A : Option Addr} {c : Nat} {ps : List Wd} (h1 : (Kd.slice 5 (Kd.int .u8)).C w A ps.length ps) (h2 : ps.length ≤ c) (h3 : BytesOk ps) (h4 : ps.length * 24 ≤ reachBytes) (h5 : ∀ p ∈ ps, p.length ≤ reachBytes) : PsAt w A c ps :=
  ⟨h1, h2, h3, by have : reachBytes = 140737488351232 := rfl; omega, fun p hp => by have := h5 p hp; have : reachBytes = 140737488351232 := rfl; omega⟩
set_option maxHeartbeats 4000000 in
set_option maxRecDepth 1000000 in
theorem checks_walk (A : Option Addr) (c : Nat) (ps : List Wd) (w : World) (h : PsAt w A c ps) : Calls Try.prog 3 #[.slice A ps.length c] w fun e w' => e = .returned (.bool true) ∧ Below w.heap.size w w' := by
  have K0 := Lib.hid (refCheck_ctr h)
  have H := Lib.hid h
  clear h
  go_enter Try.func3, Try.ntmps3
  go_wp2_with fail
  refine K0.out.mono ?_
  rintro e w1 ⟨rfl, hb1⟩
  have B1 := Lib.hid hb1
  have K1 := Lib.hid (copy_ctr (H.out.below hb1))
  clear hb1 K0
  go_wp2_with fail
  refine K1.out.mono ?_
  rintro e w2 ⟨A2, c2, rfl, hp, hb⟩
  have B2 := Lib.hid (B1.out.trans (hb.mono B1.out.size))
  have K2 := Lib.hid (build_ctr hp)
  clear hp hb K1 B1
  go_wp2_with fail
  refine K2.out.mono ?_
  rintro e w3 ⟨hb, hr⟩
  have B3 := Lib.hid (B2.out.trans (hb.mono B2.out.size))
  have K3 := Lib.hid (copy_ctr (H.out.below B3.out))
  clear hb K2 B2
  obtain ⟨z, hz⟩ : ∃ z, chkW ps = z := ⟨_, rfl⟩
  have HZ := Lib.hid hz
  rw [hz] at hr ⊢
  clear hz
  rcases hr with ⟨hz0, rfl⟩ | ⟨hz0, pa, rfl, hm⟩
  · go_wp2_with fail
    refine K3.out.mono ?_
    rintro e w4 ⟨A4, c4, rfl, hp, hb⟩
    have B4 := Lib.hid (B3.out.trans (hb.mono B3.out.size))
    have K4 := Lib.hid (check_ctr hp)
    rw [HZ.out] at K4
    clear hp hb K3 B3
    go_wp2_with fail
    refine K4.out.mono ?_
    rintro e w5 ⟨rfl, hb⟩
    have B5 := Lib.hid (B4.out.trans (hb.mono B4.out.size))
    have K5 := Lib.hid (awake6_calls w5)
    have e0 : (z == 0) = false := by rw [beq_eq_false_iff_ne]; exact hz0
    clear hb K4 B4
    go_wp2_with fail
    refine K5.out.mono ?_
    rintro e w6 ⟨rfl, hb⟩
    have B6 := Lib.hid (B5.out.trans (hb.mono B5.out.size))
    clear hb
    go_wp2
    go_ret
    exact ⟨rfl, B6.out⟩
  · subst hz0
    clear hm
    go_wp2_with fail
    refine K3.out.mono ?_
    rintro e w4 ⟨A4, c4, rfl, hp, hb⟩
    have B4 := Lib.hid (B3.out.trans (hb.mono B3.out.size))
    have K4 := Lib.hid (check_ctr hp)
    rw [HZ.out] at K4
    clear hp hb K3 B3
    go_wp2_with fail
    refine K4.out.mono ?_
    rintro e w5 ⟨rfl, hb⟩
    have B5 := Lib.hid (B4.out.trans (hb.mono B4.out.size))
    have K5 := Lib.hid (awake6_calls w5)
    clear hb K4 B4
    go_wp2_with fail
    refine K5.out.mono ?_
    rintro e w6 ⟨rfl, hb⟩
    have B6 := Lib.hid (B5.out.trans (hb.mono B5.out.size))
    clear hb
    go_wp2
    go_ret
    exact ⟨rfl, B6.out⟩
end Go.Proofs.Ytdciniefkodeaaa.PAll
