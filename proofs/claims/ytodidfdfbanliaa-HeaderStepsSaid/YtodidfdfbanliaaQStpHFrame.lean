/- The reader in memory, and blocks of others that stay as they are. -/
import Derived.Test.YtodidfdfbanliaaQStpHReader
import Derived.Test.YtodidfdfbanliaaQStpHFinish
set_option linter.unusedVariables false
set_option linter.unusedSimpArgs false
namespace Go.Proofs.Ytodidfdfbanliaa.PAll.Fq
open Go.RowKit Go.Proofs.YtodidfdfbanliaaW.PrintWords Go.Proofs.YtodidfdfbanliaaW.PrintLast Go.Proofs.Ytodidfdfbanliaa.PAll
/-- These blocks hold what they held, and are none of the reader's. -/
def Pr (ps : List (Nat × Obj)) (w : World) (b : Nat) (vl vf : Value) : Prop := ∀ x ∈ ps, w.heap[x.1]? = some x.2 ∧ x.1 ≠ b ∧ vl.ownBlock ≠ some x.1 ∧ vf.ownBlock ≠ some x.1
structure RdQ (ps : List (Nat × Obj)) (w : World) (base b : Nat) (most n : Int) (vl : Value) (L : List Int) (vf : Value) (fs : List S42) (done : Bool) (why : Int) : Prop where
  lo : base ≤ b
  at_ : w.heap[b]? = some (.cells #[.int .i64 most, .int .i64 n, vl, vf, .bool done, .int .i64 why] 83 (0, 0)) ∧ OwnL w base vl L ∧ OwnF w base vf fs
  pr : Pr ps w b vl vf
section
variable {ps : List (Nat × Obj)} {w w1 : World} {base b : Nat} {most n : Int} {vl vf : Value} {L : List Int} {fs : List S42} {done : Bool} {why : Int}
theorem RdQ.rd (h : RdQ ps w base b most n vl L vf fs done why) : RdAt w base b most n vl L vf fs done why := ⟨h.1, h.2⟩
theorem RdQ.of (h : RdAt w base b most n vl L vf fs done why) (p : Pr ps w b vl vf) : RdQ ps w base b most n vl L vf fs done why := ⟨h.1, h.2, p⟩
theorem Pr.set (p : Pr ps w b vl vf) (j : Nat) (u : Value) : Pr ps (w.setCell ⟨b, j, none⟩ u) b vl vf := fun x hx => ⟨(Below.heap_setCell w ⟨b, j, none⟩ u x.1 (p x hx).2.1).trans (p x hx).1, (p x hx).2⟩
theorem Pr.lt (p : Pr ps w b vl vf) (x : Nat × Obj) (hx : x ∈ ps) : x.1 < w.heap.size := (Array.getElem?_eq_some_iff.1 (p x hx).1).1
theorem Pr.below (p : Pr ps w b vl vf) (hb : Below w.heap.size w w1) : Pr ps w1 b vl vf := fun x hx => ⟨(hb.block x.1 (p.lt x hx)).trans (p x hx).1, (p x hx).2⟩
theorem Pr.kept (p : Pr ps w b vl vf) (hk : ∀ k, k < w.heap.size → k ≠ b → vl.ownBlock ≠ some k → vf.ownBlock ≠ some k → w1.heap[k]? = w.heap[k]?) : Pr ps w1 b vl vf := fun x hx => ⟨(hk x.1 (p.lt x hx) (p x hx).2.1 (p x hx).2.2.1 (p x hx).2.2.2).trans (p x hx).1, (p x hx).2⟩
theorem Pr.line (p : Pr ps w b vl vf) {vl' : Value} (h : vl'.ownBlock = vl.ownBlock ∨ ∃ k, vl'.ownBlock = some k ∧ w.heap.size ≤ k) : Pr ps w b vl' vf := fun x hx => ⟨(p x hx).1, (p x hx).2.1, by
  rcases h with h | ⟨k, h, hk⟩
  · rw [h]; exact (p x hx).2.2.1
  · rw [h]; intro e; injection e with e; have := p.lt x hx; omega, (p x hx).2.2.2⟩
theorem RdQ.neF (h : RdQ ps w base b most n vl L vf fs done why) : vf.ownBlock ≠ some b := h.rd.neF
theorem RdQ.cell0 (h : RdQ ps w base b most n vl L vf fs done why) : w.cell? ⟨b, 0, none⟩ = some (.int .i64 most) := h.rd.cell0
theorem RdQ.cell1 (h : RdQ ps w base b most n vl L vf fs done why) : w.cell? ⟨b, 1, none⟩ = some (.int .i64 n) := h.rd.cell1
theorem RdQ.cell2 (h : RdQ ps w base b most n vl L vf fs done why) : w.cell? ⟨b, 2, none⟩ = some vl := h.rd.cell2
theorem RdQ.cell3 (h : RdQ ps w base b most n vl L vf fs done why) : w.cell? ⟨b, 3, none⟩ = some vf := h.rd.cell3
theorem RdQ.cell4 (h : RdQ ps w base b most n vl L vf fs done why) : w.cell? ⟨b, 4, none⟩ = some (.bool done) := h.rd.cell4
theorem RdQ.cell5 (h : RdQ ps w base b most n vl L vf fs done why) : w.cell? ⟨b, 5, none⟩ = some (.int .i64 why) := h.rd.cell5
theorem RdQ.frozen (h : RdQ ps w base b most n vl L vf fs done why) (j : Nat) : w.frozen? ⟨b, j, none⟩ = false := h.rd.frozen j
theorem RdQ.lt (h : RdQ ps w base b most n vl L vf fs done why) : b < w.heap.size := h.rd.lt
theorem RdQ.setN (h : RdQ ps w base b most n vl L vf fs done why) (x : Int) : RdQ ps (w.setCell ⟨b, 1, none⟩ (.int .i64 x)) base b most x vl L vf fs done why := .of (h.rd.setN x) (h.pr.set _ _)
theorem RdQ.setWhy (h : RdQ ps w base b most n vl L vf fs done why) (x : Int) : RdQ ps (w.setCell ⟨b, 5, none⟩ (.int .i64 x)) base b most n vl L vf fs done x := .of (h.rd.setWhy x) (h.pr.set _ _)
theorem RdQ.setDone (h : RdQ ps w base b most n vl L vf fs done why) (x : Bool) : RdQ ps (w.setCell ⟨b, 4, none⟩ (.bool x)) base b most n vl L vf fs x why := .of (h.rd.setDone x) (h.pr.set _ _)
theorem RdQ.setLine (h : RdQ ps w base b most n vl L vf fs done why) {vl' : Value} {L' : List Int} (hl : OwnL w base vl' L') (hn : vl'.ownBlock = vl.ownBlock ∨ ∃ k, vl'.ownBlock = some k ∧ w.heap.size ≤ k) : RdQ ps (w.setCell ⟨b, 2, none⟩ vl') base b most n vl' L' vf fs done why := .of (h.rd.setLine hl) ((h.pr.line hn).set _ _)
theorem RdQ.drew (h : RdQ ps w base b most n vl L vf fs done why) : RdQ ps w.drew base b most n vl L vf fs done why := .of h.rd.drew h.pr
theorem RdQ.drewN (h : RdQ ps w base b most n vl L vf fs done why) (m : Nat) : RdQ ps (w.drewN m) base b most n vl L vf fs done why := .of (h.rd.drewN m) h.pr
theorem RdQ.setFields_other {g j : Nat} (h : RdQ ps w base b most n vl L vf fs done why) (hg : vf.ownBlock = some g) (u : Value) : Pr ps (w.setCell ⟨g, j, none⟩ u) b vl vf := fun x hx => ⟨(Below.heap_setCell w ⟨g, j, none⟩ u x.1 (fun e => (h.pr x hx).2.2.2 (by rw [hg]; exact congrArg some e.symm))).trans (h.pr x hx).1, (h.pr x hx).2⟩
end
end Go.Proofs.Ytodidfdfbanliaa.PAll.Fq
