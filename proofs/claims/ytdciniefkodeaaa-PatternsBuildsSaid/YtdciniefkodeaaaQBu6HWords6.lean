/- PatternsWords, walked. -/
import Derived.Deep.RegionHeld3
import Derived.Test.YtdciniefkodeaaaQBu6HRun6
set_option linter.unusedVariables false
set_option linter.unusedSimpArgs false
namespace Go.Proofs.Ytdciniefkodeaaa.PAll
open Go.Sort Go.RowKit Go.Proofs.YtdciniefkodeaaaW.PrintWords Go.Proofs.YtdciniefkodeaaaW.PrintLast Go.Proofs.YtdciniefkodeaaaW.PrintMore
theorem lsuf_step1 {T : List Wd} {x : Wd} {a : Nat} (ha : a < x.length) (hn : x.drop a ∉ T) : lsuf T (x.drop a) = lsuf T (x.drop (a + 1)) := by
  rw [List.drop_eq_getElem_cons ha] at hn ⊢
  rw [lsuf, if_neg hn]
theorem same_ctr {w : World} {A B : Option Addr} {c d : Nat} {x y : Wd} (h1 : (Kd.int .u8).C w A x.length x) (h2 : x.length ≤ c) (h3 : (Kd.int .u8).C w B y.length y) (h4 : y.length ≤ d) : Calls Try.prog 30 #[.slice A x.length c, .slice B y.length d] w fun e w' => e = .returned (.bool (decide (x = y))) ∧ ∃ q, w' = w.drewN q := by
  refine (winkleref03_Same.calls (x.length + 1) A c x B d y _ w h1 h2 h3 h4 (same_is x y h1.2.1 _ (Nat.lt_succ_self _))).mono ?_
  rintro e w' ⟨rfl, h⟩
  exact ⟨rfl, h.out⟩
theorem own_bytes_reads {w : World} {base : Nat} {v : Value} {xs : Wd} (h : OwnB w base v xs) : ∃ A c, v = .slice A xs.length c ∧ xs.length ≤ c ∧ (Kd.int .u8).C w A xs.length xs :=
  Kd.R_reads (Kd.R_of_own (h1 := fun _ => rfl) (ok := fun _ => True) h (fun _ _ => trivial))
end Go.Proofs.Ytdciniefkodeaaa.PAll
