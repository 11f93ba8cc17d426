/- The reader's contracts once more, with blocks that stay as they are (HFrame); copied by mk_fq.py out of HWhole. -/
import Derived.Test.YtodidfdfbanliaaQStpFqReset
import Derived.Test.YtodidfdfbanliaaQStpHWhole
set_option linter.unusedVariables false
set_option linter.unusedSimpArgs false
namespace Go.Proofs.Ytodidfdfbanliaa.PAll.Fq
open Go.RowKit Go.Proofs.YtodidfdfbanliaaW.PrintWords Go.Proofs.YtodidfdfbanliaaW.PrintLast Go.Proofs.Ytodidfdfbanliaa.PAll
theorem put_nl {ps : List (Nat × Obj)} (base b : Nat) (most n : Int) (vl : Value) (L : List Int) (vf : Value) (fs : List S42) (w : World) (hR : RdQ ps w base b most n vl L vf fs false 0) (hn : n ≠ most) (hn0 : 0 ≤ n) (hn1 : n < 65536) (hlen : L.length ≤ 65536) (h64 : fs.length ≤ 64) (hsz : ∀ f ∈ fs, f.f1.size + L.length ≤ 9223372036854775807) :
    if stripCR L = [] then Calls Try.prog 34 #[.pointer (some ⟨b, 0, none⟩), .int .u8 10] w fun e w' => e = .returned (.tuple #[.bool true, .int .i64 0]) ∧ (∃ vl', RdQ ps w' base b most (n + 1) vl' [] vf (trimF fs) true 0) ∧ Below base w w'
    else Calls Try.prog 34 #[.pointer (some ⟨b, 0, none⟩), .int .u8 10] w fun e w' => e = .returned (.tuple #[.bool false, .int .i64 (lineR fs (strOfNums (stripCR L))).2]) ∧ (∃ vl' vf', RdQ ps w' base b most (n + 1) vl' [] vf' (lineR fs (strOfNums (stripCR L))).1 false (lineR fs (strOfNums (stripCR L))).2) ∧ Below base w w' := by
  by_cases hL : L = []
  · rw [if_pos (by rw [hL]; rfl)]
    exact put_nl_a base b most n vl L vf fs w hR hn hn0 hn1 hlen h64 hsz hL
  · by_cases hs : stripCR L = L
    · rw [if_neg (by rw [hs]; exact hL)]
      exact put_nl_b base b most n vl L vf fs w hR hn hn0 hn1 hlen h64 hsz hL hs
    · by_cases h0 : stripCR L = []
      · rw [if_pos h0]
        exact put_nl_c1 base b most n vl L vf fs w hR hn hn0 hn1 hlen h64 hsz hL hs h0
      · rw [if_neg h0]
        exact put_nl_c2 base b most n vl L vf fs w hR hn hn0 hn1 hlen h64 hsz hL hs h0
end Go.Proofs.Ytodidfdfbanliaa.PAll.Fq
