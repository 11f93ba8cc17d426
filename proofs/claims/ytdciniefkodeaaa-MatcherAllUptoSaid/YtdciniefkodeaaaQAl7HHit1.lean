/- A hit appended: one operation. -/
import Derived.Deep.AppendLies
import Derived.Test.YtdciniefkodeaaaQAl7HCapsP
set_option linter.unusedVariables false
set_option linter.unusedSimpArgs false
namespace Go.Proofs.Ytdciniefkodeaaa.PAll
open Go.Sort Go.RowKit Go.Proofs.YtdciniefkodeaaaW.PrintWords Go.Proofs.YtdciniefkodeaaaW.PrintLast Go.Proofs.YtdciniefkodeaaaW.PrintMore
theorem append_hit {ops : Array Oper} {rest : List Oper} {o : Oper} {a : Act} {Q : Exit → Act → World → Prop} {W : World} (s x : Operand) (hgd : o.guard = none)
    (ho : o.op = .call { callee := .builtin .append, args := #[s, x], argTypes := #[42, 42] }) (base : Nat) (v : Value) (hs : List (Int × Int)) (p e : Int) (g : Nat)
    (h1 : a.eval s = v) (h2 : a.eval x = .slice (some ⟨g, 0, none⟩) 1 1) (hown : W.ownsRow base 49 3 v hs.length (flatH hs)) (hnew : W.heap[g]? = some (.cells (hitC p e).toArray 49 (0, 0)))
    (hl : hs.length ≤ 67108864) (hbase : base ≤ W.heap.size)
    (h : ∀ Av cv w', w'.ownsRow base 49 3 (.slice Av (hs ++ [(p, e)]).length cv) (hs ++ [(p, e)]).length (flatH (hs ++ [(p, e)])) → W.grownBy w' v.ownBlock → wpList Try.prog ops Q rest (a.put o.dst (.slice Av (hs ++ [(p, e)]).length cv)) w') :
    wpList Try.prog ops Q (o :: rest) a W := by
  obtain ⟨i0, hi, hz0, hz1, hz2⟩ := info_parts infoHit
  refine wpList_append_lies _ hgd s x 42 ho base 49 i0 _ 3 40 Try.underlying42 hi hz0 hz1 hz2 rfl (by decide) v hs.length (flatH hs) h1 hown ⟨g, 0, none⟩ 1 1 (hitC p e) h2 rfl (World.news_of_block (cs := (hitC p e).toArray) (t := 49) (fr := (0, 0)) hnew) (by simp [Value.oneCell', hitC]) (by decide) (by unfold maxLen; omega) (by omega) hbase W.heap.size rfl ?_
  intro g2 cap w1 hown1 hgrow _ _
  have hl1 : (hs ++ [(p, e)]).length = hs.length + 1 := by rw [List.length_append]; rfl
  have := h (some ⟨g2, 0, none⟩) cap w1 (by rw [hl1, flatH_snoc]; exact hown1) hgrow
  rw [hl1] at this
  exact this
/-- The frame of it: what is not the row's own block stays. -/
theorem hit_below {w0 w w1 : World} {v : Value} {hs : List (Int × Int)} (hown : w.ownsRow w0.heap.size 49 3 v hs.length (flatH hs)) (hb : Below w0.heap.size w0 w) (hg : w.grownBy w1 v.ownBlock) : Below w0.heap.size w0 w1 :=
  hb.grown hg hb.size (fun k e => own_base hown k e)
end Go.Proofs.Ytdciniefkodeaaa.PAll
