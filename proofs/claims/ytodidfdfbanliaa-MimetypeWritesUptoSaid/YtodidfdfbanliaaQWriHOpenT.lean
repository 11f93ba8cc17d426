/- An argument that is a type, opened where its bulk is small. -/
import Derived.Lib.SmallJoins
import Derived.Test.YtodidfdfbanliaaQWriHOpenU
set_option linter.unusedVariables false
namespace Go.Proofs.Ytodidfdfbanliaa.PAll
open Go.ChangeShapes Go.WideShapes Go.RowKit Go.Proofs.YtodidfdfbanliaaW.PrintWords
set_option maxRecDepth 100000 in
theorem open_typeU {H : Type} {enc : TypeId × Value → H} {W : World} {r : Reach} {b0 base : Nat} {spare : Nat → Bool} {held : Bool} {v : Value} {d : DataW H} {ps : List MemPlace} {ds : List (DataW H)}
    (hk : Rows.uptoSmall H ds = true) (hd : d ∈ ds) (hv : Value.okWide Try.prog W r b0 57 v) (h : DataW.Trod enc Try.prog W base spare held 57 v d ps) :
    ∃ (m u : ByteArray) (A : Option Addr) (c : Nat) (fs : List S42), v = .agg #[.string m, .string u, .slice A fs.length c] ∧ Kd.C k42 W A fs.length fs ∧ fs.length ≤ c ∧ m.size ≤ 1048576 ∧ u.size ≤ 1048576 ∧ (∀ f ∈ fs, f.f0.size ≤ 1048576 ∧ f.f1.size ≤ 1048576) ∧ fs.length ≤ 1048576 := by
  have hb : Rows.uptoBulk d ≤ 1048576 := Nat.le_trans (Bulk.part_le hd) (of_decide_eq_true hk)
  obtain ⟨v0, v1, v2, y0, y1, y2, n, rfl, rfl, rfl, h0, h1, h2⟩ := Joins.open_agg3 Try.underlying57 (by kernel_rfl) (by kernel_rfl) hv h
  obtain ⟨m, e0, g0, z0⟩ := DataW.trod_string Try.underlying9 h0
  obtain ⟨u, e1, g1, z1⟩ := DataW.trod_string Try.underlying9 h1
  simp only [List.cons.injEq, and_true] at e0 e1
  subst e0
  subst e1
  subst g0
  subst g1
  simp only [Rows.uptoBulk, Rows.uptoBulkAll, Array.length_toList] at hb
  obtain ⟨A, len, c, e2⟩ := Joins.slice_form Try.underlying23 h2
  simp only [List.cons.injEq, and_true] at e2
  subst e2
  have t0 : m.data.size = m.size := rfl
  have t1 : u.data.size = u.size := rfl
  obtain ⟨fs, rfl, hC, hcap, hfs, hl⟩ := open_fieldsB (ps := y2.2) (d := y2.1) (by omega) ⟨n, h2⟩
  exact ⟨m, u, A, c, fs, rfl, hC, hcap, by omega, by omega, hfs, hl⟩
end Go.Proofs.Ytodidfdfbanliaa.PAll
