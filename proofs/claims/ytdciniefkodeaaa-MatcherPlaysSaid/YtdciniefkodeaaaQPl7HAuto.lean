/- A machine that is whole: its block, its states, what follows. -/
import Derived.Test.YtdciniefkodeaaaQPl7HLinkM
set_option linter.unusedVariables false
set_option linter.unusedSimpArgs false
namespace Go.Proofs.Ytdciniefkodeaaa.PAll
open Go.RowKit Go.Proofs.YtdciniefkodeaaaW.PrintWords Go.Proofs.YtdciniefkodeaaaW.PrintLast Go.Proofs.YtdciniefkodeaaaW.PrintMore
/-- Block pa is the machine of the states T and the patterns ps. -/
def AutoAt (w : World) (pa : Nat) (cnt lon : Int) (T ps : List Wd) : Prop :=
  ∃ (base gn cn gx : Nat) (nds : List Nd), w.heap[pa]? = some (.cells #[.slice (some ⟨gn, 0, none⟩) T.length cn, .slice (some ⟨gx, 0, none⟩) T.length T.length, .int .i64 cnt, .int .i64 lon] 80 (0, 0)) ∧ NodesI w base (.slice (some ⟨gn, 0, none⟩) T.length cn) nds ∧
    nds.length = T.length ∧ (∀ (j : Nat) (x : Nd), nds[j]? = some x → x.par = parT T j ∧ x.b = byT T j ∧ x.dep = depT T j ∧ x.fail = flT T j ∧ x.outs = outsW ps (T.getD j [])) ∧ NextI w gx T.length (fun s b => ((nxT T s (b : Int) : Nat) : Int)) ∧ TrieI T
theorem AutoAt.below {w w1 : World} {pa : Nat} {cnt lon : Int} {T ps : List Wd} (h : AutoAt w pa cnt lon T ps) (hb : Below w.heap.size w w1) : AutoAt w1 pa cnt lon T ps := by
  obtain ⟨base, gn, cn, gx, nds, h1, h2, h3, h4, ⟨cur, h5, h6⟩, h7⟩ := h
  have hlt : ∀ k o, w.heap[k]? = some o → k < w.heap.size := fun k o hk => (Array.getElem?_eq_some_iff.1 hk).1
  exact ⟨base, gn, cn, gx, nds, (hb.block _ (hlt _ _ h1)).trans h1, h2.keep (KeepN.below hb), h3, h4, ⟨cur, (hb.block _ (hlt _ _ h5)).trans h5, h6⟩, h7⟩
end Go.Proofs.Ytdciniefkodeaaa.PAll
