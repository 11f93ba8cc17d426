/- A header's reader: Reset; Put of one that is done or stopped. -/
import Derived.Test.YtodidfdfbanliaaQStpHEnd
set_option linter.unusedVariables false
set_option linter.unusedSimpArgs false
namespace Go.Proofs.Ytodidfdfbanliaa.PAll
open Go.RowKit Go.Proofs.YtodidfdfbanliaaW.PrintWords Go.Proofs.YtodidfdfbanliaaW.PrintLast
theorem own_none {W : World} {base e size n : Nat} {v : Value} {xs : List Value} (h : W.ownsRow base e size v n xs) : ∃ A c, v = .slice A n c ∧ n ≤ c ∧ W.ownsRow base e size (.slice A 0 c) 0 [] := by
  rcases h.2 with ⟨rfl, rfl⟩ | ⟨g, c, cur, rfl, hb, hg, hn, hm, hc, ht⟩
  · exact ⟨none, 0, rfl, Nat.le_refl _, World.ownsRow_nil _ _ _ _⟩
  · exact ⟨_, c, rfl, hn, owns_start hb hg hm hc⟩
set_option maxHeartbeats 4000000 in
set_option maxRecDepth 100000 in
theorem reset_calls (base b : Nat) (most n : Int) (vl : Value) (L : List Int) (vf : Value) (fs : List S42) (d : Bool) (why : Int) (w : World) (hR : RdAt w base b most n vl L vf fs d why) :
    Calls Try.prog 35 #[.pointer (some ⟨b, 0, none⟩)] w fun e w' => e = .returned (.tuple #[]) ∧ (∃ vl' vf', RdAt w' base b most 0 vl' [] vf' [] false 0) ∧ Below base w w' := by
  obtain ⟨A, c, hvl, hc, hol⟩ := own_none hR.2.2.1
  obtain ⟨B, k, hvf, hk, hof⟩ := own_none hR.2.2.2
  have c2 := hR.cell2
  have c3 := hR.cell3
  rw [hvl] at c2
  rw [hvf] at c3
  have f1 := hR.frozen 1
  have f2 := hR.frozen 2
  have f3 := hR.frozen 3
  have f4 := hR.frozen 4
  have f5 := hR.frozen 5
  have e1 := hR.cell1
  have e4 := hR.cell4
  have e5 := hR.cell5
  have hsl1 : ∀ W : World, (Instr.slice 22 (.slice A L.length c) none (some (.int .i64 0)) none).run Try.prog W = .ok (.slice A 0 c) W := by
    obtain ⟨i0, hi5, _⟩ := info_parts info5
    exact cut_to 22 5 .i64 Try.underlying22 hi5 _ _ _ 0 (by omega) (by omega) hc
  have hsl2 : ∀ W : World, (Instr.slice 23 (.slice B fs.length k) none (some (.int .i64 0)) none).run Try.prog W = .ok (.slice B 0 k) W := by
    obtain ⟨i0, hi42, _⟩ := info_parts info42
    exact cut_to 23 42 .i64 Try.underlying23 hi42 _ _ _ 0 (by omega) (by omega) hk
  have HR := Lib.hid hR
  have HOL := Lib.hid (show OwnL w base (.slice A 0 c) [] from hol)
  have HOF := Lib.hid (show OwnF w base (.slice B 0 k) [] from hof)
  clear hR hvl hvf hol hof
  go_enter Try.func35, Try.ntmps35
  go_wp2
  go_region
  first | go_end0 | refine bodyPost_end (results_none rfl _ _ _) rfl ?_
  have r1 := HR.out.setN 0
  have l1 : OwnL (w.setCell ⟨b, 1, none⟩ (.int .i64 0)) base (.slice A 0 c) [] := HOL.out.setOther (HOL.out.ne HR.out.2.1 (fun cs fr e => by injection e with _ e2; exact absurd e2 (by decide))) 1 _
  have r2 := r1.setLine l1
  have g0 : OwnF (w.setCell ⟨b, 1, none⟩ (.int .i64 0)) base (.slice B 0 k) [] := HOF.out.setOther (HOF.out.ne HR.out.2.1 (fun cs fr e => by injection e with _ e2; exact absurd e2 (by decide))) 1 _
  have g1 : OwnF ((w.setCell ⟨b, 1, none⟩ (.int .i64 0)).setCell ⟨b, 2, none⟩ (.slice A 0 c)) base (.slice B 0 k) [] := g0.setOther (g0.ne r1.2.1 (fun cs fr e => by injection e with _ e2; exact absurd e2 (by decide))) 2 _
  have r3 := ((r2.setFields g1).setDone false).setWhy 0
  have hb : base ≤ b := HR.out.1
  exact ⟨rfl, ⟨_, _, r3.drew⟩, (((((rd_below_set hb 1 _).trans (rd_below_set hb 2 _)).trans (rd_below_set hb 3 _)).trans (rd_below_set hb 4 _)).trans (rd_below_set hb 5 _)).drew⟩
end Go.Proofs.Ytodidfdfbanliaa.PAll
