/- matcher.All, walked. -/
import Derived.Test.YtdciniefkodeaaaQBu6HMat
set_option linter.unusedVariables false
set_option linter.unusedSimpArgs false
namespace Go.Proofs.Ytdciniefkodeaaa.PAll
open Go.Sort Go.RowKit Go.Proofs.YtdciniefkodeaaaW.PrintWords Go.Proofs.YtdciniefkodeaaaW.PrintLast Go.Proofs.YtdciniefkodeaaaW.PrintMore
theorem MachAt.moved {w w1 : World} {pa : Nat} {ps : List Wd} (h : MachAt w pa ps) (hm : ∀ (k ty : Nat) (cells : Array Value), w.heap[k]? = some (.cells cells ty (0, 0)) → (ty = 80 ∨ ty = 76 ∨ ty = 86 ∨ ty = 3) → w1.heap[k]? = w.heap[k]?) : MachAt w1 pa ps := by
  obtain ⟨base, gn, cn, gx, nds, h1, h2, h3, h4, ⟨cur, h5, h6⟩, h7⟩ := h.auto
  exact ⟨h.zero, h.bytes, base, gn, cn, gx, nds, (hm pa 80 _ h1 (.inl rfl)).trans h1, h2.keep (fun k cells ty hk ht => hm k ty cells hk (ht.elim (fun e => .inr (.inl e)) (fun e => .inr (.inr (.inr e))))), h3, h4, ⟨cur, (hm gx 86 _ h5 (.inr (.inr (.inl rfl)))).trans h5, h6⟩, h7⟩
end Go.Proofs.Ytdciniefkodeaaa.PAll
