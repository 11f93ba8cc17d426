/- A hit appended: one operation. -/
import Derived.Deep.AppendLies
import Derived.Test.YtdciniefkodeaaaQSp7HCapsP
set_option linter.unusedVariables false
set_option linter.unusedSimpArgs false
namespace Go.Proofs.Ytdciniefkodeaaa.PAll
open Go.Sort Go.RowKit Go.Proofs.YtdciniefkodeaaaW.PrintWords Go.Proofs.YtdciniefkodeaaaW.PrintLast Go.Proofs.YtdciniefkodeaaaW.PrintMore
/-- The same as one step of a region that draws its order. -/
theorem step_hit {ops : Array Oper} {o : Oper} {a : Act} {K : Act → World → Prop} {Q : Exit → Act → World → Prop} {E : Prop} {W : World} (hgd : o.guard = none) (s x : Operand)
    (ho : o.op = .call { callee := .builtin .append, args := #[s, x], argTypes := #[42, 42] }) (base : Nat) (v : Value) (hs : List (Int × Int)) (p e : Int) (g : Nat)
    (h1 : a.eval s = v) (h2 : a.eval x = .slice (some ⟨g, 0, none⟩) 1 1) (hown : W.ownsRow base 49 3 v hs.length (flatH hs)) (hnew : W.heap[g]? = some (.cells (hitC p e).toArray 49 (0, 0)))
    (hl : hs.length ≤ 67108864) (hbase : base ≤ W.heap.size)
    (h : ∀ Av cv w', w'.ownsRow base 49 3 (.slice Av (hs.length + 1) cv) (hs ++ [(p, e)]).length (flatH (hs ++ [(p, e)])) → W.grownBy w' v.ownBlock → K (a.put o.dst (.slice Av (hs.length + 1) cv)) w') :
    if Region.wanted o (yielded ops a.tmps) = true then Oper.wp Try.prog o a W K Q else E := by
  obtain ⟨i0, hi, hz0, hz1, hz2⟩ := info_parts infoHit
  refine step_append_lies _ hgd s x 42 ho base 49 i0 _ 3 40 Try.underlying42 hi hz0 hz1 hz2 rfl (by decide) v hs.length (flatH hs) h1 hown ⟨g, 0, none⟩ 1 1 (hitC p e) h2 rfl (World.news_of_block (cs := (hitC p e).toArray) (t := 49) (fr := (0, 0)) hnew) (by simp [Value.oneCell', hitC]) (by decide) (by unfold maxLen; omega) (by omega) hbase W.heap.size rfl ?_
  intro g2 cap w1 hown1 hgrow _ _
  have hl1 : (hs ++ [(p, e)]).length = hs.length + 1 := by rw [List.length_append]; rfl
  exact h (some ⟨g2, 0, none⟩) cap w1 (by rw [hl1, flatH_snoc]; exact hown1) hgrow
theorem cell_kept {w W : World} {a : Addr} {u : Value} (h : w.cell? a = some u) (hb : Below w.heap.size w W) : W.cell? a = some u := (hb.cell (World.block_lt_of_cell? _ _ h)).trans h
theorem all_enough {ps : List Wd} {x : Wd} {most : Int} (hm : ((hitsTo ps x x.length).length : Int) ≤ most) : allW ps x most = (hitsTo ps x x.length, true) := by
  unfold allW
  rw [decide_eq_true (by omega), List.take_of_length_le (by omega)]
/-- The frame of it: what is not the row's own block stays. -/
theorem hit_below {w0 w w1 : World} {v : Value} {hs : List (Int × Int)} (hown : w.ownsRow w0.heap.size 49 3 v hs.length (flatH hs)) (hb : Below w0.heap.size w0 w) (hg : w.grownBy w1 v.ownBlock) : Below w0.heap.size w0 w1 :=
  hb.grown hg hb.size (fun k e => own_base hown k e)
end Go.Proofs.Ytdciniefkodeaaa.PAll
