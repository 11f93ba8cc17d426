/- PatternsWords, walked. -/
import Derived.Deep.RegionHeld3
import Derived.Test.YtdciniefkodeaaaQFa6HRun6
set_option linter.unusedVariables false
set_option linter.unusedSimpArgs false
namespace Go.Proofs.Ytdciniefkodeaaa.PAll
open Go.Sort Go.RowKit Go.Proofs.YtdciniefkodeaaaW.PrintWords Go.Proofs.YtdciniefkodeaaaW.PrintLast Go.Proofs.YtdciniefkodeaaaW.PrintMore
theorem begins_mem {ps : List Wd} (h : chkW ps = 0) (x : Wd) : beginsW ps x = decide (x ∈ trie ps) := by
  obtain ⟨h1, _, _⟩ := chkW_zero h
  unfold beginsW
  rw [decide_eq_decide, mem_trie]
  constructor
  · intro h; exact .inr h
  · rintro (rfl | h)
    · exact ⟨ps[0], List.getElem_mem h1, List.nil_prefix⟩
    · exact h
theorem begins_ctr {w : World} {A B : Option Addr} {c d : Nat} {ps : List Wd} {x : Wd} (h : PsAt w A c ps) (h1 : (Kd.int .u8).C w B x.length x) (h2 : x.length ≤ d) : Calls Try.prog 28 #[.slice A ps.length c, .slice B x.length d] w fun e w' => e = .returned (.bool (beginsW ps x)) ∧ ∃ q, w' = w.drewN q := by
  refine (winklelaw06_begins.calls (ps.length + x.length + 2) A c ps B d x _ w h.reads h.cap h1 h2 (begins_is ps x h.reads.2.1 h1.2.1 _ (by omega))).mono ?_
  rintro e w' ⟨rfl, h⟩
  exact ⟨rfl, h.out⟩
theorem own_bytes_reads {w : World} {base : Nat} {v : Value} {xs : Wd} (h : OwnB w base v xs) : ∃ A c, v = .slice A xs.length c ∧ xs.length ≤ c ∧ (Kd.int .u8).C w A xs.length xs :=
  Kd.R_reads (Kd.R_of_own (h1 := fun _ => rfl) (ok := fun _ => True) h (fun _ _ => trivial))
end Go.Proofs.Ytdciniefkodeaaa.PAll
