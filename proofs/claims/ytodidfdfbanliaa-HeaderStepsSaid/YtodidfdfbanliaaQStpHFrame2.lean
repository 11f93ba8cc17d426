/- The reader with protected blocks: what take and Put do to its blocks. (take_pre: as in HTake.) -/
import Derived.Lib.SliceRun
import Derived.Test.YtodidfdfbanliaaQStpHFrame
import Derived.Test.YtodidfdfbanliaaQStpHPut
set_option linter.unusedVariables false
set_option linter.unusedSimpArgs false
namespace Go.Proofs.Ytodidfdfbanliaa.PAll.Fq
open Go.RowKit Go.Proofs.YtodidfdfbanliaaW.PrintWords Go.Proofs.YtodidfdfbanliaaW.PrintLast Go.Proofs.Ytodidfdfbanliaa.PAll
section
variable {ps : List (Nat × Obj)} {w w1 : World} {base b : Nat} {most n : Int} {vl vf : Value} {L : List Int} {fs : List S42} {d : Bool} {why : Int}
theorem RdQ.setField {g c i : Nat} (h : RdQ ps w base b most n vl L (.slice (some ⟨g, 0, none⟩) fs.length c) (finI fs i) d why) (hi : i < fs.length) : RdQ ps (w.setCell ⟨g, i * 2 + 1, none⟩ (.string (trimB fs[i].f1))) base b most n vl L (.slice (some ⟨g, 0, none⟩) fs.length c) (finI fs (i + 1)) d why :=
  .of (h.rd.setField hi) (h.setFields_other rfl _)
theorem RdQ.below (h : RdQ ps w base b most n vl L vf fs d why) (hb : Below w.heap.size w w1) : RdQ ps w1 base b most n vl L vf fs d why := .of (h.rd.below hb) (h.pr.below hb)
theorem take_pre (hR : RdQ ps w base b most n vl L vf fs d why) (hL : L ≠ []) : ∃ g c wc, vl = .slice (some ⟨g, 0, none⟩) L.length c ∧ L.length ≤ c ∧ (∀ ty, (Builtin.clear_ #[22] ty #[vl]).run Try.prog w = .ok (.tuple #[]) wc) ∧
    wc.cell? ⟨b, 2, none⟩ = some vl ∧ wc.frozen? ⟨b, 2, none⟩ = false ∧
    RdQ ps (wc.setCell ⟨b, 2, none⟩ (.slice (some ⟨g, 0, none⟩) 0 c)) base b most n (.slice (some ⟨g, 0, none⟩) 0 c) [] vf fs d why ∧ Below base w (wc.setCell ⟨b, 2, none⟩ (.slice (some ⟨g, 0, none⟩) 0 c)) := by
  have hpos : 0 < L.length := by cases L with | nil => exact absurd rfl hL | cons _ _ => simp
  rcases hR.2.2.1.2 with ⟨_, h0⟩ | ⟨g, c, cur, hv, hb, hg, hn, hm, hc, ht⟩
  · omega
  · have hcl : ∀ j, j < L.length → (w.cell? ⟨g, 0 + j, none⟩).isSome = true := by
      intro j hj
      have : j < cur.size := by omega
      simp [World.cell?, hg, this]
    have hfz : ∀ j, j < L.length → w.frozen? ⟨g, 0 + j, none⟩ = false := by intro j hj; simp [World.frozen?, hg]
    obtain ⟨cur', hs', hg', hk'⟩ := heap_setCells g (List.replicate L.length (.int .u8 0)) 0 w cur 5 (0, 0) hg
    have hsz : w.heap.size ≤ (w.setCells g 0 (List.replicate L.length (.int .u8 0))).heap.size := (below_setCells_rd (B := 0) (Nat.zero_le _) _ 0 w).size
    have hbel : Below base w (w.setCells g 0 (List.replicate L.length (.int .u8 0))) := below_setCells_rd hb _ 0 w
    have hgb : b ≠ g := by
      rintro rfl
      have := hR.2.1
      rw [hg] at this
      injection this with this
      injection this with _ e2
      exact absurd e2 (by decide)
    have hwb : (w.setCells g 0 (List.replicate L.length (.int .u8 0))).heap[b]? = some (.cells #[.int .i64 most, .int .i64 n, vl, vf, .bool d, .int .i64 why] 83 (0, 0)) := (hk' b hgb).trans hR.2.1
    have hvf : vf.ownBlock ≠ some g := hR.2.2.2.ne hg (fun cs fr e => by injection e with _ e2; exact absurd e2 (by decide))
    refine ⟨g, c, _, hv, by omega, fun ty => ?_, ?_, ?_, ?_, hbel.trans (rd_below_set hR.1 2 _)⟩
    · rw [hv]
      exact Lib.run_clear_slice w 22 5 ty (.int .u8 0) Try.underlying22 (fun w => by kernel_rfl) rfl rfl g 0 L.length c hpos hcl hfz
    · simp [World.cell?, hwb]
    · simp [World.frozen?, hwb]
    · have hl0 : OwnL (w.setCells g 0 (List.replicate L.length (.int .u8 0))) base (.slice (some ⟨g, 0, none⟩) 0 c) [] := owns_start hb hg' hm (by rw [hs']; exact hc)
      have hf0 : OwnF (w.setCells g 0 (List.replicate L.length (.int .u8 0))) base vf fs := owns_turn hR.2.2.2 hsz hk' hvf
      have hne : (Value.slice (some ⟨g, 0, none⟩) 0 c).ownBlock ≠ some b := fun e => hgb (by simpa [Value.ownBlock] using e.symm)
      have hnf : vf.ownBlock ≠ some b := hR.neF
      refine .of ⟨hR.1, ?_, hl0.setOther hne 2 _, hf0.setOther hnf 2 _⟩ ?_
      rotate_left
      · have p1 : Pr ps (w.setCells g 0 (List.replicate L.length (.int .u8 0))) b vl vf := hR.pr.kept (fun k hk _ hkl _ => hk' k (fun e => hkl (by rw [hv, e]; rfl)))
        exact (p1.line (vl' := .slice (some ⟨g, 0, none⟩) 0 c) (.inl (by rw [hv]; rfl))).set _ _
      simp [World.setCell, Array.getElem?_modify, hwb]
theorem rd_app_block {o : Obj} (h : RdQ ps w base b most n vl L vf fs d why) (hg : (w.drew.alloc o).grownBy w1 vf.ownBlock) : w1.heap[b]? = some (.cells #[.int .i64 most, .int .i64 n, vl, vf, .bool d, .int .i64 why] 83 (0, 0)) := PAll.rd_app_block h.rd hg
theorem grown_pr {o : Obj} (h : RdQ ps w base b most n vl L vf fs d why) (hg : (w.drew.alloc o).grownBy w1 vf.ownBlock) : Pr ps w1 b vl vf := by
  have hb : Below w.heap.size w (w.drew.alloc o) := (Below.refl _ w).drew.alloc (Nat.le_refl _) o
  exact h.pr.kept (fun k hk _ _ hf => (hg.block k (Nat.lt_of_lt_of_le hk hb.size) (fun e => hf e.symm)).trans (hb.block k hk))
theorem rd_app_end {f : S42} {o : Obj} {g cap : Nat} (h : RdQ ps w base b most n vl L vf fs d why) (hbs : base ≤ w.heap.size) (hg : (w.drew.alloc o).grownBy w1 vf.ownBlock) (hown : w1.ownsRow base 42 2 (.slice (some ⟨g, 0, none⟩) (fs.length + 1) cap) (fs.length + 1) (fcells fs ++ [.string f.f0, .string f.f1]))
    (hat : vf.ownBlock = some g ∨ w.heap.size ≤ g) :
    RdQ ps (w1.setCell ⟨b, 3, none⟩ (.slice (some ⟨g, 0, none⟩) (fs.length + 1) cap)) base b most n vl L (.slice (some ⟨g, 0, none⟩) (fs.length + 1) cap) (fs ++ [f]) d why ∧ Below base w (w1.setCell ⟨b, 3, none⟩ (.slice (some ⟨g, 0, none⟩) (fs.length + 1) cap)) := by
  have e := PAll.rd_app_end h.rd hbs hg hown
  refine ⟨.of e.1 (Pr.set (fun x hx => ?_) _ _), e.2⟩
  obtain ⟨q1, q2, q3, q4⟩ := grown_pr h hg x hx
  refine ⟨q1, q2, q3, fun e => ?_⟩
  rcases hat with ha | ha
  · exact q4 (ha.trans e)
  · have := h.pr.lt x hx
    have e2 : g = x.1 := by simpa [Value.ownBlock] using e
    omega
theorem rd_more {g c m : Nat} (hm : fs.length = m + 1) (h : RdQ ps w base b most n vl L (.slice (some ⟨g, 0, none⟩) fs.length c) fs d why) (s : ByteArray) : RdQ ps (w.setCell ⟨g, m * 2 + 1, none⟩ (.string ((fs.getD (fs.length - 1) zS).f1 ++ s))) base b most n vl L (.slice (some ⟨g, 0, none⟩) fs.length c) (addLast fs s) d why :=
  .of (PAll.rd_more hm h.rd s) (h.setFields_other rfl _)
theorem put_done {v' : Value} {c : Int} {W w' : World} (h : RdQ ps W base b most n vl L vf fs d why) (hown : w'.ownsRow base 5 1 v' (L ++ [c]).length (nums .u8 (L ++ [c]))) (hg : W.grownBy w' vl.ownBlock) (hat : v'.ownBlock = vl.ownBlock ∨ ∃ k, v'.ownBlock = some k ∧ W.heap.size ≤ k) :
    w'.cell? ⟨b, 2, none⟩ = some vl ∧ w'.frozen? ⟨b, 2, none⟩ = false ∧ RdQ ps (w'.setCell ⟨b, 2, none⟩ v') base b most n v' (L ++ [c]) vf fs d why := by
  obtain ⟨e1, e2, e3⟩ := PAll.put_done h.rd hown hg
  refine ⟨e1, e2, .of e3 (Pr.set (fun x hx => ?_) _ _)⟩
  have hp := h.pr.kept (w1 := w') (fun k hk _ hl _ => hg.block k hk (fun e => hl e.symm))
  obtain ⟨q1, q2, q3, q4⟩ := hp x hx
  exact ⟨q1, q2, ((h.pr.line hat) x hx).2.2.1, q4⟩
end
end Go.Proofs.Ytodidfdfbanliaa.PAll.Fq
